/- What comes in: a slice of commands, opened to its cells. -/
import Derived.Test.YtlhjhngaljgdgaaOa
import Derived.Test.YtlhjhngaljgdgaaRs
namespace Go.Proofs.Ytlhjhngaljgdgaa
open Go.RowKit Go.ChangeShapes Go.WideShapes Go.Deep

theorem exists_list {α : Type} (n : Nat) (R : Nat → α → Prop) (h : ∀ i, i < n → ∃ x, R i x) : ∃ l : List α, l.length = n ∧ ∀ i (hi : i < l.length), R i l[i] := by
  induction n with
  | zero => exact ⟨[], rfl, fun i hi => by simp at hi⟩
  | succ n ih =>
    obtain ⟨l, hl, hr⟩ := ih (fun i hi => h i (by omega))
    obtain ⟨x, hx⟩ := h n (by omega)
    refine ⟨l ++ [x], by simp [hl], fun i hi => ?_⟩
    by_cases e : i < l.length
    · rw [List.getElem_append_left e]; exact hr i e
    · have e2 : i = l.length := by simp at hi; omega
      subst e2
      simp only [List.getElem_append_right (Nat.le_refl _), Nat.sub_self, List.getElem_singleton]
      rw [hl]; exact hx
theorem rd_of_cells3 (w : World) (g off : Nat) (l : List Cmd) (h : ∀ i (hi : i < l.length), w.cell? ⟨g, off + i * 3, none⟩ = some (.int .i64 l[i].kind) ∧ w.cell? ⟨g, off + i * 3 + 1, none⟩ = some (.int .i64 l[i].group) ∧ w.cell? ⟨g, off + i * 3 + 2, none⟩ = some (.int .i64 l[i].shard)) :
    ∀ j u, (cellsX l)[j]? = some u → w.cell? ⟨g, off + j, none⟩ = some u := by
  induction l generalizing off with
  | nil => intro j u hu; simp [cellsX] at hu
  | cons a l ih =>
    intro j u hu
    have h0 := h 0 (by simp)
    simp at h0
    obtain ⟨h0, h1, h2⟩ := h0
    simp only [cellsX, List.flatMap_cons, Cmd.cells] at hu
    match j, hu with
    | 0, hu => simp at hu; subst hu; simpa using h0
    | 1, hu => simp at hu; subst hu; exact h1
    | 2, hu => simp at hu; subst hu; exact h2
    | j + 3, hu =>
      have := ih (off + 3) (fun i hi => by
        have := h (i + 1) (by simpa using hi)
        simp only [List.getElem_cons_succ] at this
        rw [show off + 3 + i * 3 = off + (i + 1) * 3 by omega]
        exact this) j u (by simpa [cellsX] using hu)
      rw [show off + (j + 3) = off + 3 + j by omega]
      exact this

section
variable {H : Type} {enc : TypeId × Value → H} {w : World} {base : Nat} {spare : Nat → Bool} {held : Bool} {fuel : Nat}
theorem open_cmds {a0 : Option Addr} {len cap : Nat} {x : DataW H × List MemPlace} (h : DataW.trod enc Try.prog w base spare held fuel 49 [.slice a0 len cap] = some x) :
    ∃ l : List Cmd, l.length = len ∧ Rd w w.heap.size 3 (.slice a0 len cap) l.length (cellsX l) ∧ len ≤ maxLen := by
  rcases open_slice (e := 27) Try.underlying49 h with ⟨hcs, _⟩ | ⟨a, l, c, m, n, D, Pl, hcs, _, hl, hm, hmm, _, hf⟩
  · simp at hcs
    obtain ⟨rfl, rfl, rfl⟩ := hcs
    exact ⟨[], rfl, by simpa [cellsX] using Rd.nil w w.heap.size 3 0, by simp⟩
  · simp at hcs
    obtain ⟨rfl, rfl, rfl⟩ := hcs
    have hlm : len ≤ m := by rw [hmm]; split <;> omega
    have hcell : ∀ i, i < len → ∃ s : Cmd, w.cell? (a.add (i * 3)) = some (.int .i64 s.kind) ∧ w.cell? (a.add (i * 3 + 1)) = some (.int .i64 s.group) ∧ w.cell? (a.add (i * 3 + 2)) = some (.int .i64 s.shard) := by
      intro i hi
      obtain ⟨cs', hc, ht⟩ := hf i (by omega)
      rw [cells_cmd] at hc
      obtain ⟨_, hcl, hat⟩ := World.cells?_some hc
      obtain ⟨s, hs⟩ := open_cmd ht
      subst hs
      have c0 := hat 0 (by omega)
      have c1 := hat 1 (by omega)
      have c2 := hat 2 (by omega)
      rw [Go.Deep.add_add] at c0 c1 c2
      exact ⟨s, c0, c1, c2⟩
    obtain ⟨rs, hrl, hr⟩ := exists_list len _ hcell
    refine ⟨rs, hrl, ⟨cellsX_length _, some a, cap, by rw [hrl], by omega, ?_⟩, by omega⟩
    by_cases h0 : rs.length = 0
    · exact .inl h0
    · obtain ⟨b, off, spot⟩ := a
      have hc := (hr 0 (by omega)).1
      have hspot : spot = none := by simpa [Addr.add] using World.cell?_spot hc
      subst hspot
      refine .inr ⟨b, off, rfl, by simpa [Addr.add] using World.block_lt_of_cell? _ _ hc, rd_of_cells3 w b off rs (fun i hi => ?_)⟩
      obtain ⟨k0, k1, k2⟩ := hr i hi
      rw [Addr.add_lit] at k0 k1 k2
      exact ⟨k0, k1, k2⟩
end

end Go.Proofs.Ytlhjhngaljgdgaa
