/- MarkNil: a step opened; the law's walk. -/
import Derived.Test.YtogpbldipmcbdaaDoorKh
set_option linter.unusedVariables false
set_option linter.unusedSimpArgs false
set_option linter.unnecessarySimpa false
namespace Go.Proofs.YtogpbldipmcbdaaDoor
open Go.RowKit Go.Shelf Go.ChangeShapes Go.WideShapes Go.Deep

structure StpM where
  what : Int
  no : Int
  n : Int
  s : Bs
  t : Bs
  c : CrtV
def StpM.cells (o : StpM) : List Value := [.int .i64 o.what, .int .i64 o.no, .int .i64 o.n, .string ⟨o.s.toArray⟩, .string ⟨o.t.toArray⟩, .string ⟨o.c.t.toArray⟩, .int .i64 o.c.g, .slice o.c.A o.c.tags.length o.c.cap]
structure StpM.Ok (w : World) (o : StpM) : Prop where
  s : o.s.length ≤ 1048576
  t : o.t.length ≤ 1048576
  c : o.c.Ok w
theorem cells_stpm : Tryd.prog.cellsOf 52 = 8 := by kernel_rfl
section
variable {H : Type} {enc : TypeId × Value → H} {w : World} {base : Nat} {spare : Nat → Bool} {held : Bool}
theorem open_stpm (n : Nat) (cs : List Value) (y : DataW H × List MemPlace) (h : DataW.trod enc Tryd.prog w base spare held n 52 cs = some y) (hb : Rows.uptoBulk y.1 ≤ 1048576) :
    ∃ o : StpM, cs = o.cells ∧ o.Ok w := by
  have hcl := trod_cells Tryd.underlying52 h
  rw [cells_stpm] at hcl
  obtain ⟨v0, v1, v2, v3, v4, v5, v6, v7, rfl⟩ : ∃ a b c d e f g h, cs = [a, b, c, d, e, f, g, h] := by match cs, hcl with | [a, b, c, d, e, f, g, h], _ => exact ⟨a, b, c, d, e, f, g, h, rfl⟩
  obtain ⟨_, y0, t0, b0⟩ := trod_field Tryd.underlying52 h hb 0 _ rfl
  obtain ⟨_, y1, t1, b1⟩ := trod_field Tryd.underlying52 h hb 1 _ rfl
  obtain ⟨_, y2, t2, b2⟩ := trod_field Tryd.underlying52 h hb 2 _ rfl
  obtain ⟨_, y3, t3, b3⟩ := trod_field Tryd.underlying52 h hb 3 _ rfl
  obtain ⟨_, y4, t4, b4⟩ := trod_field Tryd.underlying52 h hb 4 _ rfl
  obtain ⟨_, y5, t5, b5⟩ := trod_field Tryd.underlying52 h hb 5 _ rfl
  replace t0 : DataW.trod enc Tryd.prog w base spare held _ 3 (([v0, v1, v2, v3, v4, v5, v6, v7].drop 0).take (Tryd.prog.cellsOf 3)) = some y0 := t0
  replace t1 : DataW.trod enc Tryd.prog w base spare held _ 3 (([v0, v1, v2, v3, v4, v5, v6, v7].drop 1).take (Tryd.prog.cellsOf 3)) = some y1 := t1
  replace t2 : DataW.trod enc Tryd.prog w base spare held _ 3 (([v0, v1, v2, v3, v4, v5, v6, v7].drop 2).take (Tryd.prog.cellsOf 3)) = some y2 := t2
  replace t3 : DataW.trod enc Tryd.prog w base spare held _ 9 (([v0, v1, v2, v3, v4, v5, v6, v7].drop 3).take (Tryd.prog.cellsOf 9)) = some y3 := t3
  replace t4 : DataW.trod enc Tryd.prog w base spare held _ 9 (([v0, v1, v2, v3, v4, v5, v6, v7].drop 4).take (Tryd.prog.cellsOf 9)) = some y4 := t4
  replace t5 : DataW.trod enc Tryd.prog w base spare held _ 35 (([v0, v1, v2, v3, v4, v5, v6, v7].drop 5).take (Tryd.prog.cellsOf 35)) = some y5 := t5
  simp only [cells_i, cells_s, cells_cert, List.drop_zero, List.drop_succ_cons, List.take_succ_cons, List.take_zero] at t0 t1 t2 t3 t4 t5
  obtain ⟨n0, e0, _⟩ := trod_i64 Tryd.underlying3 t0
  obtain ⟨n1, e1, _⟩ := trod_i64 Tryd.underlying3 t1
  obtain ⟨n2, e2, _⟩ := trod_i64 Tryd.underlying3 t2
  obtain ⟨s3, e3, h3⟩ := trod_str Tryd.underlying9 t3 b3
  obtain ⟨s4, e4, h4⟩ := trod_str Tryd.underlying9 t4 b4
  obtain ⟨c5, e5, h5⟩ := open_cert _ _ _ t5 b5
  simp [CrtV.cells] at e0 e1 e2 e3 e4 e5
  obtain ⟨e5, e6, e7⟩ := e5
  subst e0 e1 e2 e3 e4 e5 e6 e7
  exact ⟨⟨n0, n1, n2, s3, s4, c5⟩, rfl, h3, h4, h5⟩
theorem open_stpms {fuel : Nat} {a0 : Option Addr} {len cap : Nat} {x : DataW H × List MemPlace} (h : DataW.trod enc Tryd.prog w base spare held fuel 50 [.slice a0 len cap] = some x) (hb : Rows.uptoBulk x.1 ≤ 1048576) :
    ∃ l : List StpM, l.length = len ∧ Rd w w.heap.size 8 (.slice a0 len cap) l.length (l.flatMap StpM.cells) ∧ l.length ≤ 1048576 ∧ ∀ o ∈ l, o.Ok w :=
  open_list StpM.cells 8 (by omega) (fun _ => rfl) (fun o => o.Ok w) Tryd.underlying50 cells_stpm open_stpm h hb
end

set_option maxHeartbeats 4000000 in
set_option maxRecDepth 100000 in
theorem mnil_law (o : StpM) (w : World) (hl : Lay w) (hg : o.Ok w) :
    Calls Tryd.prog 7 #[.agg o.cells.toArray] w fun e w' => e = .returned (.bool true) ∧ Below w.heap.size w w' := by
  have hb0 := below_alloc1 w (.cells o.cells.toArray 52)
  have hB := Blk.new w 52 o.cells.toArray
  obtain ⟨what, no, n, s, t, ct, cg, tags, A, cap⟩ := o
  simp only [StpM.cells] at hB hb0 ⊢
  by_cases hno : no < 0
  case' pos => have hv : (if no < 0 then (1 : Int) else 7) = 1 := if_pos hno
  case' neg => have hv : (if no < 0 then (1 : Int) else 7) = 7 := if_neg hno
  all_goals
    have HV := mvote_nil no n s t
    rw [hv] at HV
    have HV2 := Lib.hid HV
    clear HV hv
    go_enter Tryd.func7, Tryd.ntmps7
    go_wp2_with fail
    refine (HV2.out _).mono ?_
    rintro e w1 ⟨rfl, rfl⟩
    go_wp2_with fail
    refine (madopt_nil ⟨ct, cg, tags, A, cap⟩ _).mono ?_
    rintro e w2 ⟨rfl, hb2⟩
    have hb12 := hb0.trans (hb2.mono (by simp))
    have hB2 := hB.below hb2 hB.lt
    go_wp2_with fail
    refine (mstable_nil _).mono ?_
    rintro e w3 ⟨rfl, hb3⟩
    have hb13 := hb12.trans (hb3.mono hb12.size)
    have hB3 := hB2.below hb3 hB2.lt
    have c1 : ∀ o, (w3.alloc o).cell? ⟨w.heap.size, 1, none⟩ = some (.int .i64 no) := fun o => (hB3.alloc o).cell 1
    have HB := Lib.hid hb13
    clear hB hB2 hb0 hb12 hb13 hb2 hb3
    go_wp2_with fail
    refine (mof_nil no _).mono ?_
    rintro e w4 ⟨rfl, rfl⟩
    go_wp2_with fail
    refine (one_any _ (hl.later (HB.out.alloc HB.out.size _))).mono ?_
    rintro e w5 ⟨rfl, hb5⟩
    go_wp2
    go_ret
    exact ⟨rfl, (HB.out.alloc HB.out.size _).trans (hb5.mono (by have := HB.out.size; simp; omega))⟩

end Go.Proofs.YtogpbldipmcbdaaDoor
