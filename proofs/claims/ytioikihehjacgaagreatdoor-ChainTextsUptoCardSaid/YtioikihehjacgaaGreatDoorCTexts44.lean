/- What comes in: a command, a configuration, opened to their cells. -/
import Derived.Test.YtioikihehjacgaaGreatDoorCTexts36
import Derived.ProofKit
import Derived.OpenShut
import Derived.ShutString
import Derived.ChangeOld
import Derived.ChangeSlices
import Derived.Deep.Slices
import Derived.Deep.Fields
import Derived.ChangeSame
set_option linter.unusedVariables false
set_option linter.unusedSimpArgs false
set_option linter.unnecessarySimpa false
namespace Go.Proofs.YtioikihehjacgaaGreatDoor
open Go.RowKit Go.ChangeShapes Go.WideShapes Go.Deep

theorem cells_int : Tryz.prog.cellsOf 3 = 1 := by kernel_rfl
theorem cells_ints : Tryz.prog.cellsOf 22 = 1 := by kernel_rfl
theorem cells_arr : Tryz.prog.cellsOf 23 = 4 := by kernel_rfl
theorem cells_cfg : Tryz.prog.cellsOf 25 = 6 := by kernel_rfl
theorem cells_cmd : Tryz.prog.cellsOf 49 = 3 := by kernel_rfl

theorem three_of {α : Type} (l : List α) (h : l.length = 3) : ∃ a b c, l = [a, b, c] := by
  match l, h with
  | [a, b, c], _ => exact ⟨a, b, c, rfl⟩
theorem six_of {α : Type} (l : List α) (h : l.length = 6) : ∃ a b c d e f, l = [a, b, c, d, e, f] := by
  match l, h with
  | [a, b, c, d, e, f], _ => exact ⟨a, b, c, d, e, f, rfl⟩

theorem rd_of_ints {w : World} {a : Addr} {len cap : Nat} {zs : List Int} (hl : len ≤ zs.length) (hlc : len ≤ cap) (hc : ∀ i, i < zs.length → w.cell? (a.add i) = some (.int .i64 (zs.getD i 0))) :
    Rd w w.heap.size 1 (.slice (some a) len cap) (zs.take len).length (ints (zs.take len)) := by
  have hlen : (zs.take len).length = len := by rw [List.length_take]; omega
  refine ⟨by rw [ints_length, Nat.mul_one], some a, cap, by rw [hlen], by omega, ?_⟩
  by_cases h0 : len = 0
  · left; omega
  · right
    obtain ⟨b, off, spot⟩ := a
    have hc0 := hc 0 (by omega)
    have hspot : spot = none := by simpa [Addr.add] using World.cell?_spot hc0
    subst hspot
    refine ⟨b, off, rfl, by simpa [Addr.add] using World.block_lt_of_cell? _ _ hc0, fun j u hu => ?_⟩
    have hj : j < len := by
      rcases Nat.lt_or_ge j len with h | h
      · exact h
      · rw [List.getElem?_eq_none (by rw [ints_length]; omega)] at hu; cases hu
    rw [ints_get _ j (by omega)] at hu
    have := hc j (by omega)
    rw [Addr.add_lit] at this
    rw [this, ← hu, List.getD_eq_getElem?_getD, List.getElem?_eq_getElem (by omega)]
    simp

section
variable {H : Type} {enc : TypeId × Value → H} {w : World} {base : Nat} {spare : Nat → Bool} {held : Bool} {fuel : Nat}
theorem open_cmd {cs : List Value} {x : DataW H × List MemPlace} (h : DataW.trod enc Tryz.prog w base spare held fuel 49 cs = some x) :
    ∃ c : Cmd, cs = [.int .i64 c.kind, .int .i64 c.group, .int .i64 c.shard] := by
  obtain ⟨xs, n, _, _, hcl, hxl, hf⟩ := DataW.trod_struct Tryz.underlying49 h
  rw [cells_cmd] at hcl
  obtain ⟨v0, v1, v2, rfl⟩ := three_of cs hcl
  have hxl : xs.length = 3 := hxl
  have t0 : DataW.trod enc Tryz.prog w base spare held n 3 (([v0, v1, v2].drop 0).take (Tryz.prog.cellsOf 3)) = xs[0]? := hf 0 _ rfl
  have t1 : DataW.trod enc Tryz.prog w base spare held n 3 (([v0, v1, v2].drop 1).take (Tryz.prog.cellsOf 3)) = xs[1]? := hf 1 _ rfl
  have t2 : DataW.trod enc Tryz.prog w base spare held n 3 (([v0, v1, v2].drop 2).take (Tryz.prog.cellsOf 3)) = xs[2]? := hf 2 _ rfl
  rw [cells_int] at t0 t1 t2
  rw [List.getElem?_eq_getElem (by omega)] at t0 t1 t2
  obtain ⟨n0, e0, _, w0⟩ := DataW.trod_int Tryz.underlying3 t0
  obtain ⟨n1, e1, _, w1⟩ := DataW.trod_int Tryz.underlying3 t1
  obtain ⟨n2, e2, _, w2⟩ := DataW.trod_int Tryz.underlying3 t2
  simp at e0 e1 e2
  subst e0 e1 e2
  exact ⟨⟨n0, n1, n2⟩, rfl⟩

theorem open_cfg {cs : List Value} {x : DataW H × List MemPlace} (h : DataW.trod enc Tryz.prog w base spare held fuel 25 cs = some x) :
    ∃ (c : Cfg) (A : Option Addr) (cc : Nat), cs = [.int .i64 c.num, .slice A c.gs.length cc, .int .i64 c.o.a, .int .i64 c.o.b, .int .i64 c.o.c, .int .i64 c.o.d] ∧ Rd w w.heap.size 1 (.slice A c.gs.length cc) c.gs.length (ints c.gs) ∧ c.gs.length ≤ maxLen := by
  obtain ⟨xs, n, _, _, hcl, hxl, hf⟩ := DataW.trod_struct Tryz.underlying25 h
  rw [cells_cfg] at hcl
  obtain ⟨v0, v1, v2, v3, v4, v5, rfl⟩ := six_of cs hcl
  have hxl : xs.length = 3 := hxl
  have t0 : DataW.trod enc Tryz.prog w base spare held n 3 (([v0, v1, v2, v3, v4, v5].drop 0).take (Tryz.prog.cellsOf 3)) = xs[0]? := hf 0 _ rfl
  have t1 : DataW.trod enc Tryz.prog w base spare held n 22 (([v0, v1, v2, v3, v4, v5].drop 1).take (Tryz.prog.cellsOf 22)) = xs[1]? := hf 1 _ rfl
  have t2 : DataW.trod enc Tryz.prog w base spare held n 23 (([v0, v1, v2, v3, v4, v5].drop 2).take (Tryz.prog.cellsOf 23)) = xs[2]? := hf 2 _ rfl
  rw [cells_int] at t0
  rw [cells_ints] at t1
  rw [cells_arr] at t2
  rw [List.getElem?_eq_getElem (by omega)] at t0 t1 t2
  obtain ⟨n0, e0, _, w0⟩ := DataW.trod_int Tryz.underlying3 t0
  obtain ⟨ys, m, _, _, hyc, hyl, hy⟩ := DataW.trod_array Tryz.underlying23 t2
  have g : ∀ i, i < 4 → ∃ k : Int, ([v2, v3, v4, v5] : List Value)[i]? = some (.int .i64 k) := by
    intro i hi
    have hyi : i < ys.length := by omega
    have hh := hy i hi
    rw [cells_int] at hh
    rw [List.getElem?_eq_getElem hyi] at hh
    obtain ⟨k, e, _, _⟩ := DataW.trod_int Tryz.underlying3 hh
    refine ⟨k, ?_⟩
    have e' := congrArg (fun l => l[0]?) e
    have h4 : i = 0 ∨ i = 1 ∨ i = 2 ∨ i = 3 := by omega
    rcases h4 with rfl | rfl | rfl | rfl <;> simpa using e'
  obtain ⟨k0, g0⟩ := g 0 (by omega)
  obtain ⟨k1, g1⟩ := g 1 (by omega)
  obtain ⟨k2, g2⟩ := g 2 (by omega)
  obtain ⟨k3, g3⟩ := g 3 (by omega)
  simp at e0 g0 g1 g2 g3
  subst e0 g0 g1 g2 g3
  rcases open_ints Tryz.underlying22 Tryz.underlying3 cells_int t1 with ⟨hcs, _⟩ | ⟨a, len, cap, zs, hcs, _, hlc, hcm, hzl, _, hcell, _⟩
  · simp at hcs
    subst hcs
    exact ⟨⟨n0, [], ⟨k0, k1, k2, k3⟩⟩, none, 0, rfl, Rd.nil _ _ _ _, by simp⟩
  · simp at hcs
    subst hcs
    have hl : len ≤ zs.length := by rw [hzl]; split <;> omega
    have hlen : (zs.take len).length = len := by rw [List.length_take]; omega
    have hrd := rd_of_ints hl hlc hcell
    refine ⟨⟨n0, zs.take len, ⟨k0, k1, k2, k3⟩⟩, some a, cap, by simp only [hlen], ?_, by simp only [hlen]; omega⟩
    simp only [hlen] at hrd ⊢
    exact hrd
end

end Go.Proofs.YtioikihehjacgaaGreatDoor
