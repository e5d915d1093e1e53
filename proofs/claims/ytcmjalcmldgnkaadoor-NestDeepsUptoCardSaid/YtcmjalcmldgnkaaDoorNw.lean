/- The document's answer: how deep lists stand in a text. -/
import Derived.Test.YtcmjalcmldgnkaaDoorNv
import Derived.Test.YtcmjalcmldgnkaaDoorNc
set_option linter.unusedVariables false
set_option linter.unusedSimpArgs false
set_option linter.unnecessarySimpa false
namespace Go.Proofs.YtcmjalcmldgnkaaDoor
open Go.RowKit Go.Shelf

def foldL (l : List Bs) : Int := l.foldl (fun d t => maxI d (1 + deepB t)) 0
theorem foldL_take (l : List Bs) (k : Nat) (hk : k < l.length) : foldL (l.take (k + 1)) = maxI (foldL (l.take k)) (1 + deepB l[k]) := by
  unfold foldL; rw [List.take_succ_eq_append_getElem hk, List.foldl_append]; rfl
theorem wrap_one (n : Int) (h0 : 0 ≤ n) (h1 : n ≤ 1000000000000) : IntKind.i64.wrap (1 + n) = 1 + n := by
  rw [IntKind.wrap_i64]; omega

set_option maxHeartbeats 4000000 in
set_option maxRecDepth 100000 in
theorem rdeep_any : ∀ (m : Nat) (s : Bs), s.length ≤ m → s.length ≤ 1000000000000 → ∀ (w : World),
    Calls Tryd.prog 24 #[.string ⟨s.toArray⟩] w fun e w' => e = .returned (.int .i64 (deepB s)) ∧ Below w.heap.size w w' := by
  intro m
  induction m using Nat.strongRecOn with
  | ind m ih =>
  intro s hsm hs w
  have IH : ∀ t : Bs, t.length < s.length → ∀ W : World, Calls Tryd.prog 24 #[.string ⟨t.toArray⟩] W fun e w' => e = .returned (.int .i64 (deepB t)) ∧ Below W.heap.size W w' :=
    fun t ht W => ih t.length (by omega) t (Nat.le_refl _) (by omega) W
  clear ih
  have HU := Lib.hid (runpack_any s hs w)
  have hd := deep_is s
  cases hu : unpackO s with
  | none =>
    have hub : unpackB s = ([], 4) := by unfold unpackB; rw [hu]
    rw [hu] at hd
    have hd0 : Hid (deepB s = 0) := hd
    have HU2 := HU.out
    rw [hub] at HU2
    have HU3 := Lib.hid HU2
    clear HU HU2 hd hu hub
    go_enter Tryd.func24, Tryd.ntmps24
    go_wp2_with fail
    refine Calls.mono HU3.out ?_
    rintro e w1 ⟨v, rfl, hv, hb1⟩
    obtain ⟨A, c, rfl⟩ := own_shape hv
    go_wp2
    go_ret
    exact ⟨by rw [hd0.out]; rfl, hb1⟩
  | some l =>
    have hub : unpackB s = (l, 0) := by unfold unpackB; rw [hu]
    have hsh := unpack_shorter hu
    rw [hu] at hd
    have hd0 : Hid (deepB s = foldL l) := hd
    have hpc := (pack_unpack s.length s l (Nat.le_refl _) hu).1
    have hlen : l.length ≤ s.length := by
      rw [← hpc]
      have : ∀ l : List Bs, l.length ≤ (packB l).length := by
        intro l
        induction l with
        | nil => simp
        | cons a l ih => rw [packB_cons]; simp; omega
      exact this l
    have HU2 := HU.out
    rw [hub] at HU2
    have HU3 := Lib.hid HU2
    clear HU HU2 hd hu hub hpc
    go_enter Tryd.func24, Tryd.ntmps24
    go_wp2_with fail
    refine Calls.mono HU3.out ?_
    rintro e w1 ⟨v, rfl, hv, hb1⟩
    obtain ⟨A, c, rfl⟩ := own_shape hv
    go_wp2
    have HR := Lib.hid (Rd.of_own hv)
    go_loopw [5, 18] (fun d i wr => ∃ k : Nat, k ≤ l.length ∧ i = .int .i64 k ∧ d = .int .i64 (foldL (l.take k)) ∧ Hid (Below w1.heap.size w1 wr)) (fun _ i _ => l.length - (intOf i).toNat)
    case atStart => exact ⟨0, Nat.zero_le _, rfl, rfl, Below.refl _ _⟩
    case round =>
      obtain ⟨k, hk, rfl, rfl, HB⟩ := hrel
      by_cases hlt : k < l.length
      · obtain ⟨g, off, c', hV, hg, hc⟩ := rd_gets (HR.out.below HB.out) hlt
        injection hV with hA _ hcc
        subst hA
        clear hcc
        have hst := hsh l[k] (List.getElem_mem hlt)
        have hn0 := deep_nonneg l[k]
        have hn1 := deep_bound _ l[k] (Nat.le_refl _)
        have HF := Lib.hid (foldL_take l k hlt)
        have hw := wrap_one (deepB l[k]) (by omega) (by omega)
        go_wp2_with (go_at_call 24; refine Calls.mono (IH l[k] hst _) ?_; rintro e w2 ⟨rfl, hb2⟩)
        all_goals
          rename_i q
          have hB2 := HB.out.trans (hb2.mono HB.out.size)
          refine ⟨⟨k + 1, by omega, by simp, ?_, hB2⟩, by simp [intOf]; omega⟩
          rw [HF.out]
          unfold maxI
        · rw [if_pos q]
        · rw [if_neg (by omega)]
      · obtain rfl : k = l.length := by omega
        rw [List.take_length]
        go_wp2
        go_ret
        exact ⟨by rw [hd0.out]; rfl, hb1.trans (HB.out.mono hb1.size)⟩

end Go.Proofs.YtcmjalcmldgnkaaDoor
