/- What comes in: what was signed, opened. -/
import Derived.Test.YtkmhimaeakbpoaaDoorPd14
set_option linter.unusedVariables false
set_option linter.unusedSimpArgs false
set_option linter.unnecessarySimpa false
namespace Go.Proofs.YtkmhimaeakbpoaaDoor
open Go.RowKit Go.ChangeShapes Go.WideShapes Go.Deep

structure SgnV where
  g : Int
  n : Int
  text : Bs
  tag : Bs
def SgnV.cells (c : SgnV) : List Value := [.int .i64 c.g, .int .i64 c.n, .string ⟨c.text.toArray⟩, .string ⟨c.tag.toArray⟩]
structure SgnV.Ok (w : World) (c : SgnV) : Prop where
  text : c.text.length ≤ 1048576
  tag : c.tag.length ≤ 1048576
theorem cells_sgn : Tryd.prog.cellsOf 28 = 4 := by kernel_rfl
theorem cells_pty : Tryd.prog.cellsOf 26 = 2 := by kernel_rfl
section
variable {H : Type} {enc : TypeId × Value → H} {w : World} {base : Nat} {spare : Nat → Bool} {held : Bool}
theorem open_sgn (n : Nat) (cs : List Value) (y : DataW H × List MemPlace) (h : DataW.trod enc Tryd.prog w base spare held n 28 cs = some y) (hb : Rows.uptoBulk y.1 ≤ 1048576) :
    ∃ o : SgnV, cs = o.cells ∧ o.Ok w := by
  have hcl := trod_cells Tryd.underlying28 h
  rw [cells_sgn] at hcl
  obtain ⟨v0, v1, v2, v3, rfl⟩ : ∃ a b c d, cs = [a, b, c, d] := by match cs, hcl with | [a, b, c, d], _ => exact ⟨a, b, c, d, rfl⟩
  obtain ⟨_, y0, t0, b0⟩ := trod_field Tryd.underlying28 h hb 0 _ rfl
  obtain ⟨_, y1, t1, b1⟩ := trod_field Tryd.underlying28 h hb 1 _ rfl
  obtain ⟨_, y2, t2, b2⟩ := trod_field Tryd.underlying28 h hb 2 _ rfl
  replace t0 : DataW.trod enc Tryd.prog w base spare held _ 26 (([v0, v1, v2, v3].drop 0).take (Tryd.prog.cellsOf 26)) = some y0 := t0
  replace t1 : DataW.trod enc Tryd.prog w base spare held _ 9 (([v0, v1, v2, v3].drop 2).take (Tryd.prog.cellsOf 9)) = some y1 := t1
  replace t2 : DataW.trod enc Tryd.prog w base spare held _ 9 (([v0, v1, v2, v3].drop 3).take (Tryd.prog.cellsOf 9)) = some y2 := t2
  simp only [cells_s, cells_pty, List.drop_zero, List.drop_succ_cons, List.take_succ_cons, List.take_zero] at t0 t1 t2
  obtain ⟨s1, e1, h1⟩ := trod_str Tryd.underlying9 t1 b1
  obtain ⟨s2, e2, h2⟩ := trod_str Tryd.underlying9 t2 b2
  obtain ⟨_, x0, u0, _⟩ := trod_field Tryd.underlying26 t0 b0 0 _ rfl
  obtain ⟨_, x1, u1, _⟩ := trod_field Tryd.underlying26 t0 b0 1 _ rfl
  replace u0 : DataW.trod enc Tryd.prog w base spare held _ 3 (([v0, v1].drop 0).take (Tryd.prog.cellsOf 3)) = some x0 := u0
  replace u1 : DataW.trod enc Tryd.prog w base spare held _ 3 (([v0, v1].drop 1).take (Tryd.prog.cellsOf 3)) = some x1 := u1
  simp only [cells_i, List.drop_zero, List.drop_succ_cons, List.take_succ_cons, List.take_zero] at u0 u1
  obtain ⟨n0, e3, _⟩ := trod_i64 Tryd.underlying3 u0
  obtain ⟨n1, e4, _⟩ := trod_i64 Tryd.underlying3 u1
  simp at e1 e2 e3 e4
  subst e1 e2 e3 e4
  exact ⟨⟨n0, n1, s1, s2⟩, rfl, h1, h2⟩
end

end Go.Proofs.YtkmhimaeakbpoaaDoor
