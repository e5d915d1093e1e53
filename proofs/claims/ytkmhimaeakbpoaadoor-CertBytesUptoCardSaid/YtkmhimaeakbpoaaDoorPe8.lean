/- What comes in: a slice of texts, opened to its cells, under the second form's bound. -/
import Derived.Test.YtkmhimaeakbpoaaDoorRows
import Derived.Test.YtkmhimaeakbpoaaDoorPe7
import Derived.SliceStrings
import Derived.ProofKit
set_option linter.unusedVariables false
set_option linter.unusedSimpArgs false
set_option linter.unnecessarySimpa false
namespace Go.Proofs.YtkmhimaeakbpoaaDoor
open Go.RowKit Go.ChangeShapes Go.WideShapes

theorem bulk_mem {H : Type} {d : DataW H} {l : List (DataW H)} (h : d ∈ l) : Rows.uptoBulk d ≤ Rows.uptoBulkAll l := by
  induction l with
  | nil => cases h
  | cons x r ih =>
    simp only [Rows.uptoBulkAll]
    rcases List.mem_cons.1 h with e | e
    · subst e; omega
    · have := ih e; omega
theorem bulk_string {H : Type} (bytes : List UInt8) : Rows.uptoBulk (DataW.lit (H := H) (.string bytes)) = bytes.length + 1 := by
  simp [Rows.uptoBulk]
theorem bulk_len {H : Type} (ss : List ByteArray) : ss.length ≤ Rows.uptoBulkAll (H := H) (Go.ChangeShapes.strs ss) := by
  induction ss with
  | nil => simp [Go.ChangeShapes.strs, Rows.uptoBulkAll]
  | cons x r ih =>
    have e : Go.ChangeShapes.strs (H := H) (x :: r) = .lit (.string x.data.toList) :: Go.ChangeShapes.strs r := rfl
    rw [e]
    simp only [Rows.uptoBulkAll, List.length_cons, bulk_string]
    omega
theorem bulk_bound {H : Type} {l : List (DataW H)} (hk : Rows.uptoSmall H l = true) : Rows.uptoBulkAll l ≤ 1048576 := of_decide_eq_true hk

section
variable {H : Type} {enc : TypeId × Value → H} {w : World} {base : Nat} {spare : Nat → Bool} {held : Bool} {fuel : Nat}
theorem open_texts {a0 : Option Addr} {len cap : Nat} {d : DataW H} {ps : List MemPlace} (h : DataW.trod enc Tryd.prog w base spare held fuel 84 [.slice a0 len cap] = some (d, ps)) (hb : Rows.uptoBulk d ≤ 1048576) :
    ∃ l : List Bs, l.length = len ∧ Rd w w.heap.size 1 (.slice a0 len cap) l.length (strs l) ∧ l.length ≤ 1048576 ∧ ∀ s ∈ l, s.length ≤ 1048576 := by
  rcases open_strings Tryd.underlying84 Tryd.underlying9 (by kernel_rfl) h with ⟨hcs, _⟩ | ⟨a, l, c, ss, hcs, _, hl, _, hss, hx, hcell, _⟩
  · simp at hcs
    obtain ⟨rfl, rfl, rfl⟩ := hcs
    exact ⟨[], rfl, by simpa [strs] using Rd.nil w w.heap.size 1 0, by simp, by simp⟩
  · simp at hcs
    obtain ⟨rfl, rfl, rfl⟩ := hcs
    have hlm : len ≤ ss.length := by rw [hss]; split <;> omega
    obtain ⟨rfl, _⟩ : d = .slice (Go.ChangeShapes.strs (ss.take len)) (Go.ChangeShapes.strs (ss.drop len)) ∧ True := by
      simp only [Prod.mk.injEq] at hx
      exact ⟨hx.1, trivial⟩
    simp only [Rows.uptoBulk] at hb
    have hbl := bulk_len (H := H) (ss.take len)
    rw [List.length_take, Nat.min_eq_left hlm] at hbl
    refine ⟨(ss.take len).map (·.data.toList), by simp [hlm], ⟨by simp [strs], some a, cap, by simp [hlm], by simp [hlm]; omega, ?_⟩, by simp [hlm]; omega, ?_⟩
    · by_cases h0 : len = 0
      · exact .inl (by simp [hlm, h0])
      · obtain ⟨b, off, spot⟩ := a
        have hc := hcell 0 (by omega)
        have hspot : spot = none := by simpa [Addr.add] using World.cell?_spot hc
        subst hspot
        refine .inr ⟨b, off, rfl, by simpa [Addr.add] using World.block_lt_of_cell? _ _ hc, ?_⟩
        intro j u hu
        have hj : j < len := by
          have := (List.getElem?_eq_some_iff.1 hu).1
          simp [strs, hlm] at this
          exact this
        have hcj := hcell j (by omega)
        rw [Addr.add_lit] at hcj
        rw [hcj, ← hu]
        have hjs : j < ss.length := by omega
        simp [strs, hj, hjs, List.getElem?_take]
    · intro s hs
      obtain ⟨b, hb1, rfl⟩ := List.mem_map.1 hs
      have hm : (DataW.lit (.string b.data.toList) : DataW H) ∈ Go.ChangeShapes.strs (ss.take len) := List.mem_map.2 ⟨b, hb1, rfl⟩
      have := bulk_mem hm
      rw [bulk_string] at this
      omega
end
end Go.Proofs.YtkmhimaeakbpoaaDoor
