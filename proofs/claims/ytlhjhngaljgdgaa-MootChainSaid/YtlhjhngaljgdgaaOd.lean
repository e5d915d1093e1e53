/- What comes in: a slice of steps, opened to its cells. -/
import Derived.Test.YtlhjhngaljgdgaaOb
import Derived.Test.YtlhjhngaljgdgaaMd
namespace Go.Proofs.Ytlhjhngaljgdgaa
open Go.RowKit Go.ChangeShapes Go.WideShapes Go.Deep
set_option linter.unusedVariables false
set_option linter.unusedSimpArgs false

theorem cells_stp : Try.prog.cellsOf 29 = 5 := by kernel_rfl
theorem five_of {α : Type} (l : List α) (h : l.length = 5) : ∃ a b c d e, l = [a, b, c, d, e] := by
  match l, h with
  | [a, b, c, d, e], _ => exact ⟨a, b, c, d, e, rfl⟩
theorem flat_get {α : Type} (f : α → List Value) (s : Nat) (hs : ∀ a, (f a).length = s) (l : List α) : ∀ (w : World) (g off : Nat), (∀ i (hi : i < l.length), ∀ j u, (f l[i])[j]? = some u → w.cell? ⟨g, off + (i * s + j), none⟩ = some u) →
    ∀ j u, (l.flatMap f)[j]? = some u → w.cell? ⟨g, off + j, none⟩ = some u := by
  induction l with
  | nil => intro w g off _ j u hu; simp at hu
  | cons a l ih =>
    intro w g off h j u hu
    rw [List.flatMap_cons] at hu
    rcases Nat.lt_or_ge j s with hj | hj
    · rw [List.getElem?_append_left (by rw [hs]; exact hj)] at hu
      have := h 0 (by simp) j u hu
      simpa using this
    · rw [List.getElem?_append_right (by rw [hs]; exact hj), hs] at hu
      have := ih w g (off + s) (fun i hi j u hu => by
        have := h (i + 1) (by simpa using hi) j u hu
        rw [show off + s + (i * s + j) = off + ((i + 1) * s + j) by rw [Nat.add_mul]; omega]
        exact this) (j - s) u hu
      rwa [show off + s + (j - s) = off + j by omega] at this

section
variable {H : Type} {enc : TypeId × Value → H} {w : World} {base : Nat} {spare : Nat → Bool} {held : Bool} {fuel : Nat}
theorem open_stp {cs : List Value} {x : DataW H × List MemPlace} (h : DataW.trod enc Try.prog w base spare held fuel 29 cs = some x) : ∃ r : Stp, cs = r.cells := by
  obtain ⟨xs, n, _, _, hcl, hxl, hf⟩ := DataW.trod_struct Try.underlying29 h
  rw [cells_stp] at hcl
  obtain ⟨v0, v1, v2, v3, v4, rfl⟩ := five_of cs hcl
  have hxl : xs.length = 3 := hxl
  have t0 : DataW.trod enc Try.prog w base spare held n 3 (([v0, v1, v2, v3, v4].drop 0).take (Try.prog.cellsOf 3)) = xs[0]? := hf 0 _ rfl
  have t1 : DataW.trod enc Try.prog w base spare held n 3 (([v0, v1, v2, v3, v4].drop 1).take (Try.prog.cellsOf 3)) = xs[1]? := hf 1 _ rfl
  have t2 : DataW.trod enc Try.prog w base spare held n 27 (([v0, v1, v2, v3, v4].drop 2).take (Try.prog.cellsOf 27)) = xs[2]? := hf 2 _ rfl
  rw [cells_int] at t0 t1
  rw [cells_cmd] at t2
  rw [List.getElem?_eq_getElem (by omega)] at t0 t1 t2
  obtain ⟨n0, e0, _, w0⟩ := DataW.trod_int Try.underlying3 t0
  obtain ⟨n1, e1, _, w1⟩ := DataW.trod_int Try.underlying3 t1
  obtain ⟨c, e2⟩ := open_cmd t2
  simp at e0 e1 e2
  obtain ⟨e2a, e2b, e2c⟩ := e2
  subst e0 e1 e2a e2b e2c
  exact ⟨⟨n0, n1, c⟩, rfl⟩

theorem open_stps {a0 : Option Addr} {len cap : Nat} {x : DataW H × List MemPlace} (h : DataW.trod enc Try.prog w base spare held fuel 22 [.slice a0 len cap] = some x) :
    ∃ l : List Stp, l.length = len ∧ Rd w w.heap.size 5 (.slice a0 len cap) l.length (cellsS l) ∧ len ≤ maxLen := by
  rcases open_slice (e := 29) Try.underlying22 h with ⟨hcs, _⟩ | ⟨a, l, c, m, n, D, Pl, hcs, _, hl, hm, hmm, _, hf⟩
  · simp at hcs
    obtain ⟨rfl, rfl, rfl⟩ := hcs
    exact ⟨[], rfl, by simpa [cellsS] using Rd.nil w w.heap.size 5 0, by simp⟩
  · simp at hcs
    obtain ⟨rfl, rfl, rfl⟩ := hcs
    have hlm : len ≤ m := by rw [hmm]; split <;> omega
    have hcell : ∀ i, i < len → ∃ s : Stp, ∀ j u, s.cells[j]? = some u → w.cell? (a.add (i * 5 + j)) = some u := by
      intro i hi
      obtain ⟨cs', hc, ht⟩ := hf i (by omega)
      rw [cells_stp] at hc
      obtain ⟨_, hcl, hat⟩ := World.cells?_some hc
      obtain ⟨s, hs⟩ := open_stp ht
      refine ⟨s, fun j u hu => ?_⟩
      subst hs
      have hj : j < 5 := by
        rcases Nat.lt_or_ge j 5 with h | h
        · exact h
        · rw [List.getElem?_eq_none (by simp [Stp.cells]; omega)] at hu; cases hu
      have := hat j (by omega)
      rw [Go.Deep.add_add] at this
      rw [this]
      exact hu
    obtain ⟨rs, hrl, hr⟩ := exists_list len _ hcell
    refine ⟨rs, hrl, ⟨cellsS_length _, some a, cap, by rw [hrl], by omega, ?_⟩, by omega⟩
    by_cases h0 : rs.length = 0
    · exact .inl h0
    · obtain ⟨b, off, spot⟩ := a
      have hc := hr 0 (by omega) 0 _ rfl
      have hspot : spot = none := by simpa [Addr.add] using World.cell?_spot hc
      subst hspot
      refine .inr ⟨b, off, rfl, by simpa [Addr.add] using World.block_lt_of_cell? _ _ hc, flat_get Stp.cells 5 (fun a => rfl) rs w b off (fun i hi j u hu => ?_)⟩
      have := hr i hi j u hu
      rwa [Addr.add_lit] at this

end

end Go.Proofs.Ytlhjhngaljgdgaa
