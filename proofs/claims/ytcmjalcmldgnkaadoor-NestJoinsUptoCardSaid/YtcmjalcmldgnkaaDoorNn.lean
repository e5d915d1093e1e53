/- NestPacks: the law's walk. -/
import Derived.Test.YtcmjalcmldgnkaaDoorNm
set_option linter.unusedVariables false
set_option linter.unusedSimpArgs false
set_option linter.unnecessarySimpa false
namespace Go.Proofs.YtcmjalcmldgnkaaDoor
open Go.RowKit Go.Shelf

theorem packB_len (l : List Bs) (hs : ∀ s ∈ l, s.length ≤ 1048576) : (packB l).length ≤ sumB l + 24 * l.length := by
  induction l with
  | nil => simp [packB]
  | cons a l ih =>
    have h1 := ih (fun s hs' => hs s (by simp [hs']))
    have h2 := hs a (by simp)
    have h3 := Lib.itoa_length_le (a.length : Int) (by omega) (by omega)
    rw [packB_cons]
    simp only [sumB, List.map_cons, List.sum_cons, List.length_append, List.length_cons] at h1 ⊢
    omega

set_option maxHeartbeats 4000000 in
set_option maxRecDepth 100000 in
theorem packs_law (v : Value) (l : List Bs) (w : World) (hl : Lay w) (hr : Rd w w.heap.size 1 v l.length (strs l)) (hm : l.length ≤ 1048576) (hs : ∀ s ∈ l, s.length ≤ 1048576) :
    Calls Tryd.prog 3 #[v] w fun e w' => e = .returned (.bool true) ∧ Below w.heap.size w w' := by
  have HR : Hid (Rd w w.heap.size 1 v l.length (strs l)) := hr
  obtain ⟨_, A, c, rfl, _, _⟩ := hr
  have hlen := packB_len l hs
  go_enter Tryd.func3, Tryd.ntmps3
  go_wp2_with fail
  refine (large_any _ l w.heap.size _ (Nat.le_refl _) HR.out (by omega) (fun s hm => by have := hs s hm; omega)).mono ?_
  rintro e w1 ⟨rfl | ⟨rfl, hsm, hln⟩, hb1⟩
  · go_wp2_with fail
    refine (two_any _ (hl.later hb1)).mono ?_
    rintro e w2 ⟨rfl, hb2⟩
    go_wp2
    go_ret
    exact ⟨rfl, hb1.trans (hb2.mono hb1.size)⟩
  · go_wp2_with fail
    refine (pack_any _ l w.heap.size _ (hl.later hb1) hb1.size (HR.out.below hb1) (by omega) (by omega)).mono ?_
    rintro e w2 ⟨rfl, hb2⟩
    have hb12 := hb1.trans (hb2.mono hb1.size)
    go_wp2_with fail
    refine (rpack_any _ l w.heap.size _ hb12.size (HR.out.below hb12) (by omega) (by omega)).mono ?_
    rintro e w3 ⟨rfl, hb3⟩
    have hb13 := hb12.trans (hb3.mono hb12.size)
    go_wp2_with fail
    refine (two_any _ (hl.later hb13)).mono ?_
    rintro e w4 ⟨rfl, hb4⟩
    go_wp2
    go_ret
    exact ⟨rfl, hb13.trans (hb4.mono hb13.size)⟩

end Go.Proofs.YtcmjalcmldgnkaaDoor
