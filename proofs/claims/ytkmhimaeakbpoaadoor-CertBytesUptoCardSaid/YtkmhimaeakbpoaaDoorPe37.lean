/- The document's answer: a list's text. -/
import Derived.Test.YtkmhimaeakbpoaaDoorPe36
set_option linter.unusedVariables false
set_option linter.unusedSimpArgs false
set_option linter.unnecessarySimpa false
namespace Go.Proofs.YtkmhimaeakbpoaaDoor
open Go.RowKit Go.Shelf

theorem ba_append (a b : Bs) : (⟨a.toArray⟩ : ByteArray) ++ ⟨b.toArray⟩ = ⟨(a ++ b).toArray⟩ := by
  apply ByteArray.ext
  simp [ByteArray.data_append]

set_option maxHeartbeats 4000000 in
set_option maxRecDepth 100000 in
theorem rpack_any (v : Value) (l : List Bs) (B0 : Nat) (w : World) (hB0 : B0 ≤ w.heap.size) (hr : Rd w B0 1 v l.length (strs l)) (hm : l.length ≤ 1000000000000) (hp : (packB l).length ≤ 140737488355328) :
    Calls Tryd.prog 40 #[v] w fun e w' => e = .returned (.string ⟨(packB l).toArray⟩) ∧ Below w.heap.size w w' := by
  have HR : Hid (Rd w w.heap.size 1 v l.length (strs l)) := hr.more hB0
  obtain ⟨_, A, c, rfl, _, _⟩ := hr
  go_enter Tryd.func40, Tryd.ntmps40
  go_wp2
  go_loopw [3, 5, 8] (fun out _ s wr => ∃ k : Nat, k ≤ l.length ∧ s = .int .i64 k ∧ out = .string ⟨(packB (l.take k)).toArray⟩ ∧ Hid (Below w.heap.size w wr)) (fun _ _ i _ => l.length - (intOf i).toNat)
  case atStart => exact ⟨0, Nat.zero_le _, rfl, rfl, Below.refl _ _⟩
  case round =>
    obtain ⟨k, hk, rfl, rfl, HI⟩ := hrel
    by_cases hlt : k < l.length
    · obtain ⟨g, off, c', hV, hg, hc⟩ := rd_gets (HR.out.below HI.out) hlt
      injection hV with hA _ hcc
      subst hA
      clear hcc
      have HP : Hid ((⟨(packB (l.take k)).toArray⟩ : ByteArray) ++ ⟨(Lib.itoa l[k].length).toArray⟩ ++ ⟨#[58]⟩ ++ ⟨l[k].toArray⟩ ++ ⟨#[44]⟩ = ⟨(packB (l.take (k + 1))).toArray⟩) := by
        unfold Hid
        rw [pack_take l k hlt, show (⟨#[58]⟩ : ByteArray) = ⟨([58] : Bs).toArray⟩ from rfl, show (⟨#[44]⟩ : ByteArray) = ⟨([44] : Bs).toArray⟩ from rfl]
        simp only [ba_append, itemB, List.append_assoc, List.cons_append, List.nil_append]
      have hpk : (packB (l.take k)).length + (itemB l[k]).length ≤ 140737488355328 := by
        have := pack_take_le l (k + 1)
        rw [pack_take l k hlt, List.length_append] at this
        omega
      have hil : l[k].length ≤ (itemB l[k]).length := by simp [itemB]; omega
      have hi21 := Lib.itoa_length_le (l[k].length : Int) (by omega) (by omega)
      go_wp2_with (go_at_call 39; refine (rnum_any _ (by omega) (by omega) _).mono ?_; rintro e w1 ⟨rfl, hb1⟩)
      all_goals (try (exfalso; omega))
      exact ⟨⟨k + 1, by omega, by simp, by rw [HP.out], HI.out.trans (hb1.mono HI.out.size)⟩, by simp [intOf]; omega⟩
    · obtain rfl : k = l.length := by omega
      rw [List.take_length]
      go_wp2
      go_ret
      exact ⟨rfl, HI.out⟩

end Go.Proofs.YtkmhimaeakbpoaaDoor
