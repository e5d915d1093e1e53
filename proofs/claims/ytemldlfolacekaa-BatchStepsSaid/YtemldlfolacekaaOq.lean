/- A slice of steps that came in, opened to its cells. -/
import Derived.Test.YtemldlfolacekaaOp
import Derived.Test.YtemldlfolacekaaBo
namespace Go.Proofs.Ytemldlfolacekaa
open Go.RowKit Go.ChangeShapes Go.WideShapes Go.Deep

theorem rd_of_cells4 (w : World) (g off : Nat) (l : List Stp) (h : ∀ i (hi : i < l.length), w.cell? ⟨g, off + i * 4, none⟩ = some (.int .i64 l[i].what) ∧ w.cell? ⟨g, off + i * 4 + 1, none⟩ = some (.int .i64 l[i].r.c) ∧ w.cell? ⟨g, off + i * 4 + 2, none⟩ = some (.int .i64 l[i].r.n) ∧ w.cell? ⟨g, off + i * 4 + 3, none⟩ = some (.string l[i].r.t)) :
    ∀ j u, (cellsSt l)[j]? = some u → w.cell? ⟨g, off + j, none⟩ = some u := by
  induction l generalizing off with
  | nil => intro j u hu; simp [cellsSt] at hu
  | cons a l ih =>
    intro j u hu
    have h0 := h 0 (by simp)
    simp at h0
    obtain ⟨h0, h1, h2, h3⟩ := h0
    simp only [cellsSt, List.flatMap_cons, Stp.cells] at hu
    match j, hu with
    | 0, hu => simp at hu; subst hu; simpa using h0
    | 1, hu => simp at hu; subst hu; exact h1
    | 2, hu => simp at hu; subst hu; exact h2
    | 3, hu => simp at hu; subst hu; exact h3
    | j + 4, hu =>
      have := ih (off + 4) (fun i hi => by
        have := h (i + 1) (by simpa using hi)
        simp only [List.getElem_cons_succ] at this
        rw [show off + 4 + i * 4 = off + (i + 1) * 4 by omega]
        exact this) j u (by simpa [cellsSt] using hu)
      rw [show off + (j + 4) = off + 4 + j by omega]
      exact this

theorem cells30 : Try.prog.cellsOf 30 = 4 := by kernel_rfl
theorem cells28' : Try.prog.cellsOf 28 = 3 := by kernel_rfl
theorem cells3' : Try.prog.cellsOf 3 = 1 := by kernel_rfl
theorem cells9' : Try.prog.cellsOf 9 = 1 := by kernel_rfl

theorem four {α : Type} (l : List α) (h : l.length = 4) : ∃ a b c d, l = [a, b, c, d] := by
  match l, h with
  | [a, b, c, d], _ => exact ⟨a, b, c, d, rfl⟩

section
variable {H : Type} {enc : TypeId × Value → H} {w : World} {base : Nat} {spare : Nat → Bool} {held : Bool} {fuel : Nat}
theorem open_req_cells {v0 v1 v2 : Value} {x : DataW H × List MemPlace} (h : DataW.trod enc Try.prog w base spare held fuel 28 [v0, v1, v2] = some x) :
    ∃ r : Req, v0 = .int .i64 r.c ∧ v1 = .int .i64 r.n ∧ v2 = .string r.t ∧ r.fits := by
  obtain ⟨xs, n, _, _, _, hxl, hf⟩ := DataW.trod_struct Try.underlying28 h
  have hxl : xs.length = 3 := hxl
  have t0 : DataW.trod enc Try.prog w base spare held n 3 (([v0, v1, v2].drop 0).take (Try.prog.cellsOf 3)) = xs[0]? := hf 0 _ rfl
  have t1 : DataW.trod enc Try.prog w base spare held n 3 (([v0, v1, v2].drop 1).take (Try.prog.cellsOf 3)) = xs[1]? := hf 1 _ rfl
  have t2 : DataW.trod enc Try.prog w base spare held n 9 (([v0, v1, v2].drop 2).take (Try.prog.cellsOf 9)) = xs[2]? := hf 2 _ rfl
  rw [cells3'] at t0 t1
  rw [cells9'] at t2
  rw [List.getElem?_eq_getElem (by omega)] at t0 t1 t2
  obtain ⟨n0, e0, _, w0⟩ := DataW.trod_int Try.underlying3 t0
  obtain ⟨n1, e1, _, w1⟩ := DataW.trod_int Try.underlying3 t1
  obtain ⟨s2, e2, _, w2⟩ := DataW.trod_string Try.underlying9 t2
  simp at e0 e1 e2
  exact ⟨⟨n0, n1, s2⟩, e0, e1, e2, w0, w1, w2⟩

theorem open_steps {a0 : Option Addr} {len cap : Nat} {x : DataW H × List MemPlace} (h : DataW.trod enc Try.prog w base spare held fuel 22 [.slice a0 len cap] = some x) :
    ∃ l : List Stp, l.length = len ∧ Rd w w.heap.size 4 (.slice a0 len cap) l.length (cellsSt l) ∧ len ≤ maxLen ∧ ∀ s ∈ l, (Lit.int .i64 s.what).wf = true ∧ s.r.fits := by
  rcases open_slice (e := 30) Try.underlying22 h with ⟨hcs, _⟩ | ⟨a, l, c, m, n, D, Pl, hcs, _, hl, hm, hmm, _, hf⟩
  · simp at hcs
    obtain ⟨rfl, rfl, rfl⟩ := hcs
    exact ⟨[], rfl, by simpa [cellsSt] using Rd.nil w w.heap.size 4 0, by simp, by simp⟩
  · simp at hcs
    obtain ⟨rfl, rfl, rfl⟩ := hcs
    have hlm : len ≤ m := by rw [hmm]; split <;> omega
    have hcell : ∀ i, i < len → ∃ s : Stp, w.cell? (a.add (i * 4)) = some (.int .i64 s.what) ∧ w.cell? (a.add (i * 4 + 1)) = some (.int .i64 s.r.c) ∧ w.cell? (a.add (i * 4 + 2)) = some (.int .i64 s.r.n) ∧ w.cell? (a.add (i * 4 + 3)) = some (.string s.r.t) ∧ (Lit.int .i64 s.what).wf = true ∧ s.r.fits := by
      intro i hi
      obtain ⟨cs', hc, ht⟩ := hf i (by omega)
      rw [cells30] at hc
      obtain ⟨_, hcl, hat⟩ := World.cells?_some hc
      obtain ⟨v0, v1, v2, v3, rfl⟩ := four cs' hcl
      obtain ⟨xs, n2, _, _, _, hxl, hg⟩ := DataW.trod_struct Try.underlying30 ht
      have hxl : xs.length = 2 := hxl
      have t0 : DataW.trod enc Try.prog w base spare held n2 3 (([v0, v1, v2, v3].drop 0).take (Try.prog.cellsOf 3)) = xs[0]? := hg 0 _ rfl
      have t1 : DataW.trod enc Try.prog w base spare held n2 28 (([v0, v1, v2, v3].drop 1).take (Try.prog.cellsOf 28)) = xs[1]? := hg 1 _ rfl
      rw [cells3'] at t0
      rw [cells28'] at t1
      rw [List.getElem?_eq_getElem (by omega)] at t0 t1
      obtain ⟨n0, e0, _, w0⟩ := DataW.trod_int Try.underlying3 t0
      obtain ⟨r, e1, e2, e3, hr⟩ := open_req_cells t1
      simp at e0
      subst e0 e1 e2 e3
      have c0 := hat 0 (by omega)
      have c1 := hat 1 (by omega)
      have c2 := hat 2 (by omega)
      have c3 := hat 3 (by omega)
      rw [Go.Deep.add_add] at c0 c1 c2 c3
      exact ⟨⟨n0, r⟩, c0, c1, c2, c3, w0, hr⟩
    obtain ⟨rs, hrl, hr⟩ := exists_list len _ hcell
    refine ⟨rs, hrl, ⟨cellsSt_length _, some a, cap, by rw [hrl], by omega, ?_⟩, by omega, fun r hr' => ?_⟩
    · by_cases h0 : rs.length = 0
      · exact .inl h0
      · obtain ⟨b, off, spot⟩ := a
        have hc := (hr 0 (by omega)).1
        have hspot : spot = none := by simpa [Addr.add] using World.cell?_spot hc
        subst hspot
        refine .inr ⟨b, off, rfl, by simpa [Addr.add] using World.block_lt_of_cell? _ _ hc, rd_of_cells4 w b off rs (fun i hi => ?_)⟩
        obtain ⟨k0, k1, k2, k3, _⟩ := hr i hi
        rw [Addr.add_lit] at k0 k1 k2 k3
        exact ⟨k0, k1, k2, k3⟩
    · obtain ⟨i, hi, rfl⟩ := List.getElem_of_mem hr'
      exact (hr i hi).2.2.2.2
end

end Go.Proofs.Ytemldlfolacekaa
