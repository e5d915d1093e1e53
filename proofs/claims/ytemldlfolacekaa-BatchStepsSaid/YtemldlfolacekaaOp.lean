/- A slice of structs that came in, opened to its cells; a slice of requests. -/
import Derived.Test.YtemldlfolacekaaBa
import Derived.ProofKit
import Derived.OpenShut
import Derived.ShutString
import Derived.ChangeOld
import Derived.Deep.Slices
import Derived.Deep.Fields
import Derived.ChangeSame
namespace Go.Proofs.Ytemldlfolacekaa
open Go.RowKit Go.ChangeShapes Go.WideShapes Go.Deep

section
variable {H : Type} {enc : TypeId × Value → H} {P : Program} {w : World} {base : Nat} {spare : Nat → Bool} {held : Bool}
theorem open_slice_fields {t e : TypeId} {fs : Array Field} {fuel : Nat} {cs : List Value} {x : DataW H × List MemPlace} (ht : P.underlying t = some (.slice e)) (he : P.underlying e = some (.struct fs))
    (hone : oneCellFields P fs = true) (hC : P.cellsOf e = fs.size) (h : DataW.trod enc P w base spare held fuel t cs = some x) :
    (cs = [.slice none 0 0] ∧ x = (.nil, [])) ∨
    ∃ (a : Addr) (len cap m : Nat) (D : Nat → DataW H) (Pl : Nat → List MemPlace), cs = [.slice (some a) len cap] ∧ base ≤ a.block ∧ len ≤ cap ∧ cap ≤ maxLen ∧ m = (if spare a.block then cap else len) ∧
      x = (.slice ((List.range len).map D) ((List.range (m - len)).map fun j => D (len + j)), MemPlace.row a (m * fs.size) ++ (List.range m).flatMap Pl) ∧
      ∀ i, i < m → ∃ (ys : List (DataW H × List MemPlace)) (n : Nat), D i = .agg (ys.map (·.1)) ∧ Pl i = ys.flatMap (·.2) ∧ ys.length = fs.size ∧
        ∀ (j : Nat) (f : Field), fs[j]? = some f → ∃ (v : Value) (y : DataW H × List MemPlace), w.cell? (a.add (i * fs.size + j)) = some v ∧ ys[j]? = some y ∧ DataW.trod enc P w base spare held n f.type [v] = some y := by
  rcases open_slice ht h with h0 | ⟨a, len, cap, m, n, D, Pl, hcs, hb, hl, hm, hmm, hx, hi⟩
  · exact .inl h0
  · refine .inr ⟨a, len, cap, m, D, Pl, hcs, hb, hl, hm, hmm, by rw [hC] at hx; exact hx, fun i him => ?_⟩
    obtain ⟨cs', hc, ht'⟩ := hi i him
    rw [hC] at hc
    obtain ⟨ys, n', hn', hy, hlen, hyl, hf⟩ := DataW.trod_struct he ht'
    obtain ⟨_, hcl, hat⟩ := World.cells?_some hc
    simp only [Prod.mk.injEq] at hy
    refine ⟨ys, n', hy.1, hy.2, hyl, fun j f hj => ?_⟩
    obtain ⟨ho, hk⟩ := hone_of hone j f hj
    have hjl : j < fs.size := (Array.getElem?_eq_some_iff.1 hj).1
    have hcell := hat j hjl
    have hv : cs'[j]? = some (cs'[j]'(by omega)) := List.getElem?_eq_getElem (by omega)
    have h1 := hf j f hj
    rw [ho, hk] at h1
    have hone' : (cs'.drop j).take 1 = [cs'[j]'(by omega)] := by
      rw [List.drop_eq_getElem_cons (by omega)]
      rfl
    rw [hone'] at h1
    have hys : ys[j]? = some (ys[j]'(by omega)) := List.getElem?_eq_getElem (by omega)
    refine ⟨_, _, ?_, hys, h1.trans hys⟩
    rw [← Go.Deep.add_add, hcell, hv]
end

theorem exists_list {α : Type} (n : Nat) (R : Nat → α → Prop) (h : ∀ i, i < n → ∃ x, R i x) : ∃ l : List α, l.length = n ∧ ∀ i (hi : i < l.length), R i l[i] := by
  induction n with
  | zero => exact ⟨[], rfl, fun i hi => by simp at hi⟩
  | succ n ih =>
    obtain ⟨l, hl, hr⟩ := ih (fun i hi => h i (by omega))
    obtain ⟨x, hx⟩ := h n (by omega)
    refine ⟨l ++ [x], by simp [hl], fun i hi => ?_⟩
    by_cases e : i < l.length
    · rw [List.getElem_append_left e]; exact hr i e
    · have e2 : i = l.length := by simp at hi; omega
      subst e2
      simp only [List.getElem_append_right (Nat.le_refl _), Nat.sub_self, List.getElem_singleton]
      rw [hl]; exact hx

theorem rd_of_cells (w : World) (g off : Nat) (l : List Req) (h : ∀ i (hi : i < l.length), w.cell? ⟨g, off + i * 3, none⟩ = some (.int .i64 l[i].c) ∧ w.cell? ⟨g, off + i * 3 + 1, none⟩ = some (.int .i64 l[i].n) ∧ w.cell? ⟨g, off + i * 3 + 2, none⟩ = some (.string l[i].t)) :
    ∀ j u, (cellsOf l)[j]? = some u → w.cell? ⟨g, off + j, none⟩ = some u := by
  induction l generalizing off with
  | nil => intro j u hu; simp [cellsOf] at hu
  | cons a l ih =>
    intro j u hu
    have h0 := h 0 (by simp)
    simp at h0
    obtain ⟨h0, h1, h2⟩ := h0
    simp only [cellsOf, List.flatMap_cons, Req.cells] at hu
    match j, hu with
    | 0, hu => simp at hu; subst hu; simpa using h0
    | 1, hu => simp at hu; subst hu; exact h1
    | 2, hu => simp at hu; subst hu; exact h2
    | j + 3, hu =>
      have := ih (off + 3) (fun i hi => by
        have := h (i + 1) (by simpa using hi)
        simp only [List.getElem_cons_succ] at this
        rw [show off + 3 + i * 3 = off + (i + 1) * 3 by omega]
        exact this) j u (by simpa [cellsOf] using hu)
      rw [show off + (j + 3) = off + 3 + j by omega]
      exact this

/-- A request's numbers and text fit. -/
def Req.fits (r : Req) : Prop := (Lit.int .i64 r.c).wf = true ∧ (Lit.int .i64 r.n).wf = true ∧ r.t.size ≤ maxLen

theorem open_reqs {H : Type} {enc : TypeId × Value → H} {w : World} {base : Nat} {spare : Nat → Bool} {held : Bool} {fuel : Nat} {a0 : Option Addr} {len cap : Nat} {x : DataW H × List MemPlace}
    (h : DataW.trod enc Try.prog w base spare held fuel 26 [.slice a0 len cap] = some x) :
    ∃ l : List Req, l.length = len ∧ Rd w w.heap.size 3 (.slice a0 len cap) l.length (cellsOf l) ∧ len ≤ maxLen ∧ ∀ r ∈ l, r.fits := by
  rcases open_slice_fields (e := 28) Try.underlying26 Try.underlying28 (by kernel_rfl) (by kernel_rfl) h with ⟨hcs, _⟩ | ⟨a, l, c, m, D, Pl, hcs, _, hl, hm, hmm, _, hf⟩
  · simp at hcs
    obtain ⟨rfl, rfl, rfl⟩ := hcs
    exact ⟨[], rfl, by simpa [cellsOf] using Rd.nil w w.heap.size 3 0, by simp, by simp⟩
  · simp at hcs
    obtain ⟨rfl, rfl, rfl⟩ := hcs
    have hlm : len ≤ m := by rw [hmm]; split <;> omega
    have hcell : ∀ i, i < len → ∃ r : Req, w.cell? (a.add (i * 3)) = some (.int .i64 r.c) ∧ w.cell? (a.add (i * 3 + 1)) = some (.int .i64 r.n) ∧ w.cell? (a.add (i * 3 + 2)) = some (.string r.t) ∧ r.fits := by
      intro i hi
      obtain ⟨ys, n, _, _, _, hg⟩ := hf i (by omega)
      obtain ⟨v0, y0, c0, _, t0⟩ := hg 0 _ rfl
      obtain ⟨v1, y1, c1, _, t1⟩ := hg 1 _ rfl
      obtain ⟨v2, y2, c2, _, t2⟩ := hg 2 _ rfl
      obtain ⟨n0, e0, _, w0⟩ := DataW.trod_int Try.underlying3 t0
      obtain ⟨n1, e1, _, w1⟩ := DataW.trod_int Try.underlying3 t1
      obtain ⟨s2, e2, _, w2⟩ := DataW.trod_string Try.underlying9 t2
      simp at e0 e1 e2
      subst e0 e1 e2
      exact ⟨⟨n0, n1, s2⟩, c0, c1, c2, w0, w1, w2⟩
    obtain ⟨rs, hrl, hr⟩ := exists_list len _ hcell
    refine ⟨rs, hrl, ⟨cellsOf_length _, some a, cap, by rw [hrl], by omega, ?_⟩, by omega, fun r hr' => ?_⟩
    · by_cases h0 : rs.length = 0
      · exact .inl h0
      · obtain ⟨b, off, spot⟩ := a
        have hc := (hr 0 (by omega)).1
        have hspot : spot = none := by simpa [Addr.add] using World.cell?_spot hc
        subst hspot
        refine .inr ⟨b, off, rfl, by simpa [Addr.add] using World.block_lt_of_cell? _ _ hc, rd_of_cells w b off rs (fun i hi => ?_)⟩
        obtain ⟨k0, k1, k2, _⟩ := hr i hi
        rw [Addr.add_lit] at k0 k1 k2
        exact ⟨k0, k1, k2⟩
    · obtain ⟨i, hi, rfl⟩ := List.getElem_of_mem hr'
      exact (hr i hi).2.2.2

end Go.Proofs.Ytemldlfolacekaa
