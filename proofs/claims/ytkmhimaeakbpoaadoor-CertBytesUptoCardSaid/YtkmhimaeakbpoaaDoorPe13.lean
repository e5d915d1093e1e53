/- What comes in: a certificate, opened. -/
import Derived.Test.YtkmhimaeakbpoaaDoorPe11
import Derived.Test.YtkmhimaeakbpoaaDoorPe12
set_option linter.unusedVariables false
set_option linter.unusedSimpArgs false
set_option linter.unnecessarySimpa false
namespace Go.Proofs.YtkmhimaeakbpoaaDoor
open Go.RowKit Go.ChangeShapes Go.WideShapes Go.Deep

/-- A certificate, and where its tags lie. -/
structure CrtV where
  t : Bs
  g : Int
  tags : List TagV
  A : Option Addr
  cap : Nat
def CrtV.cells (c : CrtV) : List Value := [.string ⟨c.t.toArray⟩, .int .i64 c.g, .slice c.A c.tags.length c.cap]
def i64B (n : Int) : Prop := -9223372036854775808 ≤ n ∧ n ≤ 9223372036854775807
structure CrtV.Ok (w : World) (c : CrtV) : Prop where
  rd : Rd w w.heap.size 2 (.slice c.A c.tags.length c.cap) c.tags.length (cellsT c.tags)
  tl : c.tags.length ≤ 1048576
  ts : ∀ x ∈ c.tags, x.2.length ≤ 1048576 ∧ i64B x.1
  t : c.t.length ≤ 1048576
  g : i64B c.g
theorem cells_i : Tryd.prog.cellsOf 3 = 1 := by kernel_rfl
theorem cells_s : Tryd.prog.cellsOf 9 = 1 := by kernel_rfl
theorem cells_tag : Tryd.prog.cellsOf 64 = 2 := by kernel_rfl
theorem cells_tags : Tryd.prog.cellsOf 22 = 1 := by kernel_rfl
theorem cells_cert : Tryd.prog.cellsOf 24 = 3 := by kernel_rfl
section
variable {H : Type} {enc : TypeId × Value → H} {w : World} {base : Nat} {spare : Nat → Bool} {held : Bool}
theorem open_tag (n : Nat) (cs : List Value) (y : DataW H × List MemPlace) (h : DataW.trod enc Tryd.prog w base spare held n 64 cs = some y) (hb : Rows.uptoBulk y.1 ≤ 1048576) :
    ∃ o : TagV, cs = tagC o ∧ (o.2.length ≤ 1048576 ∧ i64B o.1) := by
  have hcl := trod_cells Tryd.underlying64 h
  rw [cells_tag] at hcl
  obtain ⟨v0, v1, rfl⟩ : ∃ a b, cs = [a, b] := by match cs, hcl with | [a, b], _ => exact ⟨a, b, rfl⟩
  obtain ⟨_, y0, t0, b0⟩ := trod_field Tryd.underlying64 h hb 0 _ rfl
  obtain ⟨_, y1, t1, b1⟩ := trod_field Tryd.underlying64 h hb 1 _ rfl
  replace t0 : DataW.trod enc Tryd.prog w base spare held _ 3 (([v0, v1].drop 0).take (Tryd.prog.cellsOf 3)) = some y0 := t0
  replace t1 : DataW.trod enc Tryd.prog w base spare held _ 9 (([v0, v1].drop 1).take (Tryd.prog.cellsOf 9)) = some y1 := t1
  simp only [cells_i, cells_s, List.drop_zero, List.drop_succ_cons, List.take_succ_cons, List.take_zero] at t0 t1
  obtain ⟨n0, e0, h0⟩ := trod_i64 Tryd.underlying3 t0
  obtain ⟨s1, e1, h1⟩ := trod_str Tryd.underlying9 t1 b1
  simp at e0 e1
  subst e0 e1
  exact ⟨(n0, s1), rfl, h1, h0⟩
theorem open_cert (n : Nat) (cs : List Value) (y : DataW H × List MemPlace) (h : DataW.trod enc Tryd.prog w base spare held n 24 cs = some y) (hb : Rows.uptoBulk y.1 ≤ 1048576) :
    ∃ o : CrtV, cs = o.cells ∧ o.Ok w := by
  have hcl := trod_cells Tryd.underlying24 h
  rw [cells_cert] at hcl
  obtain ⟨v0, v1, v2, rfl⟩ : ∃ a b c, cs = [a, b, c] := by match cs, hcl with | [a, b, c], _ => exact ⟨a, b, c, rfl⟩
  obtain ⟨_, y0, t0, b0⟩ := trod_field Tryd.underlying24 h hb 0 _ rfl
  obtain ⟨_, y1, t1, b1⟩ := trod_field Tryd.underlying24 h hb 1 _ rfl
  obtain ⟨_, y2, t2, b2⟩ := trod_field Tryd.underlying24 h hb 2 _ rfl
  replace t0 : DataW.trod enc Tryd.prog w base spare held _ 9 (([v0, v1, v2].drop 0).take (Tryd.prog.cellsOf 9)) = some y0 := t0
  replace t1 : DataW.trod enc Tryd.prog w base spare held _ 3 (([v0, v1, v2].drop 1).take (Tryd.prog.cellsOf 3)) = some y1 := t1
  replace t2 : DataW.trod enc Tryd.prog w base spare held _ 22 (([v0, v1, v2].drop 2).take (Tryd.prog.cellsOf 22)) = some y2 := t2
  simp only [cells_i, cells_s, cells_tags, List.drop_zero, List.drop_succ_cons, List.take_succ_cons, List.take_zero] at t0 t1 t2
  obtain ⟨s0, e0, h0⟩ := trod_str Tryd.underlying9 t0 b0
  obtain ⟨n1, e1, h1⟩ := trod_i64 Tryd.underlying3 t1
  obtain ⟨A, len, cap, e2⟩ : ∃ A len cap, v2 = .slice A len cap := by
    rcases Go.Deep.open_slice Tryd.underlying22 t2 with ⟨e, _⟩ | ⟨a, l, c, _, _, _, _, e, _⟩
    · simp at e; exact ⟨_, _, _, e⟩
    · simp at e; exact ⟨_, _, _, e⟩
  subst e2
  simp at e0 e1
  subst e0 e1
  obtain ⟨l, hl, hr, hm, hg⟩ := open_list tagC 2 (by omega) (fun _ => rfl) (fun o : TagV => o.2.length ≤ 1048576 ∧ i64B o.1) Tryd.underlying22 cells_tag open_tag t2 b2
  subst hl
  exact ⟨⟨s0, n1, l, A, cap⟩, rfl, hr, hm, hg, h0, h1⟩
end

end Go.Proofs.YtkmhimaeakbpoaaDoor
