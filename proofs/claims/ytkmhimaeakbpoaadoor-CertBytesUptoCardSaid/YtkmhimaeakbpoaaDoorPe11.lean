/- What comes in, opened to cells under the second form's bound: fields of a struct, elements of a slice. -/
import Derived.Test.YtkmhimaeakbpoaaDoorPe8
import Derived.Deep.Slices
import Derived.Deep.Fields
import Derived.OpenShut
import Derived.ChangeOld
set_option linter.unusedVariables false
set_option linter.unusedSimpArgs false
set_option linter.unnecessarySimpa false
namespace Go.Proofs.YtkmhimaeakbpoaaDoor
open Go.RowKit Go.ChangeShapes Go.WideShapes Go.Deep

theorem bulk_pos {H : Type} (d : DataW H) : 1 ≤ Rows.uptoBulk d := by
  cases d with
  | lit l => cases l <;> simp [Rows.uptoBulk]
  | _ => simp [Rows.uptoBulk]
theorem bulk_count {H : Type} (l : List (DataW H)) : l.length ≤ Rows.uptoBulkAll l := by
  induction l with
  | nil => simp
  | cons d l ih => have := bulk_pos d; simp only [List.length_cons, Rows.uptoBulkAll]; omega
theorem flat_get {α : Type} (f : α → List Value) (s : Nat) (hs : ∀ a, (f a).length = s) (l : List α) : ∀ (w : World) (g off : Nat), (∀ i (hi : i < l.length), ∀ j u, (f l[i])[j]? = some u → w.cell? ⟨g, off + (i * s + j), none⟩ = some u) →
    ∀ j u, (l.flatMap f)[j]? = some u → w.cell? ⟨g, off + j, none⟩ = some u := by
  induction l with
  | nil => intro w g off _ j u hu; simp at hu
  | cons a l ih =>
    intro w g off h j u hu
    rw [List.flatMap_cons] at hu
    rcases Nat.lt_or_ge j s with hj | hj
    · rw [List.getElem?_append_left (by rw [hs]; exact hj)] at hu
      have := h 0 (by simp) j u hu
      simpa using this
    · rw [List.getElem?_append_right (by rw [hs]; exact hj), hs] at hu
      have := ih w g (off + s) (fun i hi j u hu => by
        have := h (i + 1) (by simpa using hi) j u hu
        rw [show off + s + (i * s + j) = off + ((i + 1) * s + j) by rw [Nat.add_mul]; omega]
        exact this) (j - s) u hu
      rwa [show off + s + (j - s) = off + j by omega] at this
theorem flat_len {α : Type} (f : α → List Value) (s : Nat) (hs : ∀ a, (f a).length = s) (l : List α) : (l.flatMap f).length = l.length * s := by
  induction l with
  | nil => simp
  | cons a l ih => rw [List.flatMap_cons, List.length_append, hs, ih, List.length_cons, Nat.add_mul]; omega
theorem exists_listQ {α : Type} (P : Nat → α → Prop) : ∀ n : Nat, (∀ i, i < n → ∃ a, P i a) → ∃ l : List α, l.length = n ∧ ∀ i (h : i < l.length), P i l[i] := by
  intro n
  induction n with
  | zero => intro _; exact ⟨[], rfl, fun i h => by simp at h⟩
  | succ n ih =>
    intro h
    obtain ⟨l, hl, hp⟩ := ih (fun i hi => h i (by omega))
    obtain ⟨a, ha⟩ := h n (by omega)
    refine ⟨l ++ [a], by simp [hl], fun i hi => ?_⟩
    rcases Nat.lt_or_ge i l.length with hlt | hge
    · rw [List.getElem_append_left hlt]; exact hp i hlt
    · have : i = l.length := by simp at hi; omega
      subst this
      rw [List.getElem_append_right (by omega)]
      simpa [hl] using ha

section
variable {H : Type} {enc : TypeId × Value → H} {w : World} {base : Nat} {spare : Nat → Bool} {held : Bool} {fuel : Nat}
/-- A field of a struct. -/
theorem trod_field {t : TypeId} {fs : Array Field} {cs : List Value} {x : DataW H × List MemPlace} (ht : Tryd.prog.underlying t = some (.struct fs)) (h : DataW.trod enc Tryd.prog w base spare held fuel t cs = some x) (hb : Rows.uptoBulk x.1 ≤ 1048576)
    (i : Nat) (f : Field) (hf : fs[i]? = some f) : ∃ n y, DataW.trod enc Tryd.prog w base spare held n f.type ((cs.drop f.offset).take (Tryd.prog.cellsOf f.type)) = some y ∧ Rows.uptoBulk y.1 ≤ 1048576 := by
  obtain ⟨xs, n, _, hx, _, hxl, hfi⟩ := DataW.trod_struct ht h
  have hi : i < xs.length := by
    rw [hxl]
    exact (Array.getElem?_eq_some_iff.1 hf).1
  refine ⟨n, xs[i], by rw [hfi i f hf, List.getElem?_eq_getElem hi], ?_⟩
  rw [hx] at hb
  simp only [Rows.uptoBulk] at hb
  have : Rows.uptoBulk xs[i].1 ≤ Rows.uptoBulkAll (xs.map (·.1)) := bulk_mem (List.mem_map.2 ⟨xs[i], List.getElem_mem hi, rfl⟩)
  omega
theorem trod_cells {t : TypeId} {fs : Array Field} {cs : List Value} {x : DataW H × List MemPlace} (ht : Tryd.prog.underlying t = some (.struct fs)) (h : DataW.trod enc Tryd.prog w base spare held fuel t cs = some x) : cs.length = Tryd.prog.cellsOf t := by
  obtain ⟨_, _, _, _, hc, _⟩ := DataW.trod_struct ht h
  exact hc
theorem trod_i64 {t : TypeId} {cs : List Value} {x : DataW H × List MemPlace} (ht : Tryd.prog.underlying t = some (.int .i64)) (h : DataW.trod enc Tryd.prog w base spare held fuel t cs = some x) : ∃ n : Int, cs = [.int .i64 n] ∧ (-9223372036854775808 ≤ n ∧ n ≤ 9223372036854775807) := by
  obtain ⟨n, e, _, hw⟩ := DataW.trod_int ht h
  have := Go.bounds_i64 hw
  exact ⟨n, e, by omega, by omega⟩
theorem trod_str {t : TypeId} {cs : List Value} {x : DataW H × List MemPlace} (ht : Tryd.prog.underlying t = some .string) (h : DataW.trod enc Tryd.prog w base spare held fuel t cs = some x) (hb : Rows.uptoBulk x.1 ≤ 1048576) : ∃ s : Bs, cs = [.string ⟨s.toArray⟩] ∧ s.length ≤ 1048576 := by
  obtain ⟨s, e, hx, _⟩ := DataW.trod_string ht h
  refine ⟨s.data.toList, by rw [e], ?_⟩
  rw [hx, bulk_string] at hb
  omega
/-- A slice whose elements open. -/
theorem open_list {α : Type} (cells : α → List Value) (s : Nat) (hs0 : 0 < s) (hcs : ∀ a, (cells a).length = s) (Good : α → Prop) {t e : TypeId} (ht : Tryd.prog.underlying t = some (.slice e)) (hce : Tryd.prog.cellsOf e = s)
    (hel : ∀ (n : Nat) (cs : List Value) (y : DataW H × List MemPlace), DataW.trod enc Tryd.prog w base spare held n e cs = some y → Rows.uptoBulk y.1 ≤ 1048576 → ∃ o, cs = cells o ∧ Good o)
    {a0 : Option Addr} {len cap : Nat} {x : DataW H × List MemPlace} (h : DataW.trod enc Tryd.prog w base spare held fuel t [.slice a0 len cap] = some x) (hb : Rows.uptoBulk x.1 ≤ 1048576) :
    ∃ l : List α, l.length = len ∧ Rd w w.heap.size s (.slice a0 len cap) l.length (l.flatMap cells) ∧ l.length ≤ 1048576 ∧ ∀ o ∈ l, Good o := by
  rcases Go.Deep.open_slice ht h with ⟨hcs', _⟩ | ⟨a, l, c, m, n, D, Pl, hcs', _, hl, hm, hmm, hx, hf⟩
  · simp at hcs'
    obtain ⟨rfl, rfl, rfl⟩ := hcs'
    exact ⟨[], rfl, by simpa using Rd.nil w w.heap.size s 0, by simp, by simp⟩
  · simp at hcs'
    obtain ⟨rfl, rfl, rfl⟩ := hcs'
    have hlm : len ≤ m := by rw [hmm]; split <;> omega
    rw [hx] at hb
    simp only [Rows.uptoBulk] at hb
    have hbl := bulk_count ((List.range len).map D)
    rw [List.length_map, List.length_range] at hbl
    have hcell : ∀ i, i < len → ∃ o : α, (∀ j u, (cells o)[j]? = some u → w.cell? (a.add (i * s + j)) = some u) ∧ Good o := by
      intro i hi
      obtain ⟨cs', hc, ht'⟩ := hf i (by omega)
      rw [hce] at hc
      obtain ⟨_, hcl, hat⟩ := World.cells?_some hc
      have hbi : Rows.uptoBulk (D i) ≤ Rows.uptoBulkAll ((List.range len).map D) := bulk_mem (List.mem_map.2 ⟨i, List.mem_range.2 hi, rfl⟩)
      obtain ⟨o, ho, hg⟩ := hel n cs' _ ht' (by simp only; omega)
      refine ⟨o, fun j u hu => ?_, hg⟩
      have hu' : cs'[j]? = some u := by rw [ho]; exact hu
      have hj : j < s := by
        rcases Nat.lt_or_ge j s with h | h
        · exact h
        · rw [List.getElem?_eq_none (by rw [hcs]; exact h)] at hu; cases hu
      have := hat j (by omega)
      rw [Go.Deep.add_add] at this
      rw [this]
      exact hu'
    obtain ⟨rs, hrl, hr⟩ := exists_listQ _ len hcell
    refine ⟨rs, hrl, ⟨flat_len cells s hcs rs, some a, cap, by rw [hrl], by omega, ?_⟩, by omega, fun o ho => ?_⟩
    · by_cases h0 : rs.length = 0
      · exact .inl h0
      · obtain ⟨b, off, spot⟩ := a
        have h00 : 0 < (cells rs[0]).length := by rw [hcs]; exact hs0
        have hc := (hr 0 (by omega)).1 0 _ (List.getElem?_eq_getElem h00)
        have hspot : spot = none := by simpa [Addr.add] using World.cell?_spot hc
        subst hspot
        refine .inr ⟨b, off, rfl, by simpa [Addr.add] using World.block_lt_of_cell? _ _ hc, flat_get cells s hcs rs w b off (fun i hi j u hu => ?_)⟩
        have := (hr i hi).1 j u hu
        rwa [Addr.add_lit] at this
    · obtain ⟨i, hi, rfl⟩ := List.getElem_of_mem ho
      exact (hr i hi).2
end

end Go.Proofs.YtkmhimaeakbpoaaDoor
