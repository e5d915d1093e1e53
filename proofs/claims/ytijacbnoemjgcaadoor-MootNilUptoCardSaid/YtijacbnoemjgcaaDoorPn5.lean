/- What the library's contracts ask of a world; a number's text, and back. -/
import Derived.Test.YtijacbnoemjgcaaDoorPn1
import Derived.Test.YtijacbnoemjgcaaDoorPn2
import Derived.Test.YtijacbnoemjgcaaDoorPn4
import Derived.Lib.AppendIntMem
set_option linter.unusedVariables false
set_option linter.unusedSimpArgs false
set_option linter.unnecessarySimpa false
namespace Go.Proofs.YtijacbnoemjgcaaDoor
open Go.RowKit Go.Shelf

theorem var_later {P : Program} {w w' : World} {n : String} {cs : Array Value} (h : w.var? P n = some cs) (hb : Below w.heap.size w w') : w'.var? P n = some cs := by
  unfold World.var? at h ⊢
  cases hg : P.globalNamed n with
  | none => rw [hg] at h; cases h
  | some g =>
    rw [hg] at h
    simp only [Option.bind_some] at h ⊢
    have hlt : g < w.heap.size := by
      rcases Nat.lt_or_ge g w.heap.size with hlt | hge
      · exact hlt
      · rw [Array.getElem?_eq_none hge] at h; cases h
    rw [hb.block g hlt]
    exact h

/-- The library's tables, as the laws' rows lay them. -/
structure Lay (w : World) : Prop where
  tab : Lib.TabIs Tryd.prog w "internal/strconv.uint64pow10" .u64 Lib.pow10Tab
/-- The tables alone. -/
structure LayN (w : World) : Prop where
  tab : Lib.TabIs Tryd.prog w "internal/strconv.uint64pow10" .u64 Lib.pow10Tab
theorem LayN.later {w w' : World} (h : LayN w) (hb : Below w.heap.size w w') : LayN w' := ⟨var_later h.tab hb⟩
theorem Lay.n {w : World} (h : Lay w) : LayN w := ⟨h.tab⟩
theorem Lay.later {w w' : World} (h : Lay w) (hb : Below w.heap.size w w') : Lay w' := ⟨var_later h.tab hb⟩
theorem Lay.drew {w : World} (h : Lay w) : Lay w.drew := h.later ((Below.refl _ w).drew)
theorem Lay.drewN {w : World} (h : Lay w) (n : Nat) : Lay (w.drewN n) := h.later (below_drewN (Below.refl _ w) n)

theorem var_lt {P : Program} {w : World} {n : String} {cs : Array Value} (h : w.var? P n = some cs) {g : Nat} (hg : P.globalNamed n = some g) : g < w.heap.size := by
  unfold World.var? at h
  rw [hg] at h
  simp only [Option.bind_some] at h
  rcases Nat.lt_or_ge g w.heap.size with hlt | hge
  · exact hlt
  · rw [Array.getElem?_eq_none hge] at h; cases h
theorem var_chg {P : Program} {w w' : World} {n : String} {cs : Array Value} {bs : Nat} (h : w.var? P n = some cs) (hc : Chg (fun k => k = bs) w w') (hne : P.globalNamed n ≠ some bs) : w'.var? P n = some cs := by
  cases hg : P.globalNamed n with
  | none => unfold World.var? at h; rw [hg] at h; cases h
  | some g =>
    have hlt := var_lt h hg
    unfold World.var? at h ⊢
    rw [hg] at h ⊢
    simp only [Option.bind_some] at h ⊢
    rw [hc.block g hlt (fun e => hne (by rw [hg, e]))]
    exact h
def str (s : Bs) : Value := .string ⟨s.toArray⟩

set_option maxHeartbeats 4000000 in
set_option maxRecDepth 100000 in
theorem num_anyN (n : Int) (h0 : -9223372036854775808 ≤ n) (h1 : n ≤ 9223372036854775807) (w : World) (hl : LayN w) :
    Calls Tryd.prog 20 #[.int .i64 n] w fun e w' => e = .returned (.string ⟨(Lib.itoa n).toArray⟩) ∧ Below w.heap.size w w' := by
  go_enter Tryd.func20, Tryd.ntmps20
  go_wp2_with (go_at_call 30; refine (Tryd.strconv_Itoa n h0 h1 _ hl.tab).mono ?_; rintro e w' ⟨rfl, k, os, rfl⟩)
  go_ret
  exact ⟨rfl, Lib.below_grow _ w (Nat.le_refl _) k os⟩

theorem num_any (n : Int) (h0 : -9223372036854775808 ≤ n) (h1 : n ≤ 9223372036854775807) (w : World) (hl : Lay w) :
    Calls Tryd.prog 20 #[.int .i64 n] w fun e w' => e = .returned (.string ⟨(Lib.itoa n).toArray⟩) ∧ Below w.heap.size w w' := num_anyN n h0 h1 w hl.n

end Go.Proofs.YtijacbnoemjgcaaDoor
