/- What the library's contracts ask of a world; a number's text, and back. -/
import Derived.Test.YtkmhimaeakbpoaaDoorPe1
import Derived.Test.YtkmhimaeakbpoaaDoorPe2
import Derived.Test.YtkmhimaeakbpoaaDoorPe4
import Derived.Lib.AppendIntMem
set_option linter.unusedVariables false
set_option linter.unusedSimpArgs false
set_option linter.unnecessarySimpa false
namespace Go.Proofs.YtkmhimaeakbpoaaDoor
open Go.RowKit Go.Shelf

theorem var_later {P : Program} {w w' : World} {n : String} {cs : Array Value} (h : w.var? P n = some cs) (hb : Below w.heap.size w w') : w'.var? P n = some cs := by
  unfold World.var? at h ⊢
  cases hg : P.globalNamed n with
  | none => rw [hg] at h; cases h
  | some g =>
    rw [hg] at h
    simp only [Option.bind_some] at h ⊢
    have hlt : g < w.heap.size := by
      rcases Nat.lt_or_ge g w.heap.size with hlt | hge
      · exact hlt
      · rw [Array.getElem?_eq_none hge] at h; cases h
    rw [hb.block g hlt]
    exact h

/-- The library's tables, errors and MaxLen, as the laws' rows lay them. -/
structure Lay (w : World) : Prop where
  tab : Lib.TabIs Tryd.prog w "internal/strconv.uint64pow10" .u64 Lib.pow10Tab
  syn : ∃ tp p, w.var? Tryd.prog "strconv.ErrSyntax" = some #[.iface tp p]
  rng : ∃ tp p, w.var? Tryd.prog "strconv.ErrRange" = some #[.iface tp p]
  max : ∃ m, w.cell? ⟨5, 0, none⟩ = some (.int .i64 m)
/-- The tables alone. -/
structure LayN (w : World) : Prop where
  tab : Lib.TabIs Tryd.prog w "internal/strconv.uint64pow10" .u64 Lib.pow10Tab
theorem LayN.later {w w' : World} (h : LayN w) (hb : Below w.heap.size w w') : LayN w' := ⟨var_later h.tab hb⟩
theorem Lay.n {w : World} (h : Lay w) : LayN w := ⟨h.tab⟩
theorem Lay.later {w w' : World} (h : Lay w) (hb : Below w.heap.size w w') : Lay w' :=
  ⟨var_later h.tab hb, by obtain ⟨tp, p, e⟩ := h.syn; exact ⟨tp, p, var_later e hb⟩, by obtain ⟨tp, p, e⟩ := h.rng; exact ⟨tp, p, var_later e hb⟩,
    by obtain ⟨m, e⟩ := h.max; exact ⟨m, (hb.cell (p := ⟨5, 0, none⟩) (World.block_lt_of_cell? _ _ e)).trans e⟩⟩
theorem Lay.drew {w : World} (h : Lay w) : Lay w.drew := h.later ((Below.refl _ w).drew)
theorem Lay.drewN {w : World} (h : Lay w) (n : Nat) : Lay (w.drewN n) := h.later (below_drewN (Below.refl _ w) n)

theorem var_lt {P : Program} {w : World} {n : String} {cs : Array Value} (h : w.var? P n = some cs) {g : Nat} (hg : P.globalNamed n = some g) : g < w.heap.size := by
  unfold World.var? at h
  rw [hg] at h
  simp only [Option.bind_some] at h
  rcases Nat.lt_or_ge g w.heap.size with hlt | hge
  · exact hlt
  · rw [Array.getElem?_eq_none hge] at h; cases h
theorem var_chg {P : Program} {w w' : World} {n : String} {cs : Array Value} {bs : Nat} (h : w.var? P n = some cs) (hc : Chg (fun k => k = bs) w w') (hne : P.globalNamed n ≠ some bs) : w'.var? P n = some cs := by
  cases hg : P.globalNamed n with
  | none => unfold World.var? at h; rw [hg] at h; cases h
  | some g =>
    have hlt := var_lt h hg
    unfold World.var? at h ⊢
    rw [hg] at h ⊢
    simp only [Option.bind_some] at h ⊢
    rw [hc.block g hlt (fun e => hne (by rw [hg, e]))]
    exact h
/-- Block b is none of the library's variables. -/
structure Far (b : Nat) : Prop where
  tab : Tryd.prog.globalNamed "internal/strconv.uint64pow10" ≠ some b
  syn : Tryd.prog.globalNamed "strconv.ErrSyntax" ≠ some b
  rng : Tryd.prog.globalNamed "strconv.ErrRange" ≠ some b
  max : 5 ≠ b
theorem Lay.far {w : World} (h : Lay w) {b : Nat} (hb : w.heap.size ≤ b) : Far b :=
  ⟨fun e => by have := var_lt h.tab e; omega, fun e => by obtain ⟨_, _, h1⟩ := h.syn; have := var_lt h1 e; omega, fun e => by obtain ⟨_, _, h1⟩ := h.rng; have := var_lt h1 e; omega,
    fun e => by obtain ⟨m, h1⟩ := h.max; have := World.block_lt_of_cell? _ _ h1; simp only at this; omega⟩
theorem Lay.chg {w w' : World} {b : Nat} (h : Lay w) (hc : Chg (fun k => k = b) w w') (hf : Far b) : Lay w' :=
  ⟨var_chg h.tab hc hf.tab, by obtain ⟨tp, p, e⟩ := h.syn; exact ⟨tp, p, var_chg e hc hf.syn⟩, by obtain ⟨tp, p, e⟩ := h.rng; exact ⟨tp, p, var_chg e hc hf.rng⟩,
    by obtain ⟨m, e⟩ := h.max; exact ⟨m, hc.cell e hf.max⟩⟩

/-- The library's variables lie below B. -/
structure Low (B : Nat) : Prop where
  tab : ∀ g, Tryd.prog.globalNamed "internal/strconv.uint64pow10" = some g → g < B
  syn : ∀ g, Tryd.prog.globalNamed "strconv.ErrSyntax" = some g → g < B
  rng : ∀ g, Tryd.prog.globalNamed "strconv.ErrRange" = some g → g < B
  max : 5 < B
theorem Lay.low {w : World} (h : Lay w) : Low w.heap.size :=
  ⟨fun _ e => var_lt h.tab e, fun _ e => by obtain ⟨_, _, h1⟩ := h.syn; exact var_lt h1 e, fun _ e => by obtain ⟨_, _, h1⟩ := h.rng; exact var_lt h1 e,
    by obtain ⟨m, h1⟩ := h.max; exact World.block_lt_of_cell? _ _ h1⟩
theorem var_keep {P : Program} {B : Nat} {w w' : World} {n : String} {cs : Array Value} (h : w.var? P n = some cs) (hb : Below B w w') (hlt : ∀ g, P.globalNamed n = some g → g < B) : w'.var? P n = some cs := by
  cases hg : P.globalNamed n with
  | none => unfold World.var? at h; rw [hg] at h; cases h
  | some g =>
    have hl := hlt g hg
    unfold World.var? at h ⊢
    rw [hg] at h ⊢
    simp only [Option.bind_some] at h ⊢
    rw [hb.block g hl]
    exact h
theorem Lay.keep {w w' : World} {B : Nat} (h : Lay w) (hb : Below B w w') (hB : Low B) : Lay w' :=
  ⟨var_keep h.tab hb hB.tab, by obtain ⟨tp, p, e⟩ := h.syn; exact ⟨tp, p, var_keep e hb hB.syn⟩, by obtain ⟨tp, p, e⟩ := h.rng; exact ⟨tp, p, var_keep e hb hB.rng⟩,
    by obtain ⟨m, e⟩ := h.max; exact ⟨m, (hb.cell (p := ⟨5, 0, none⟩) hB.max).trans e⟩⟩

def str (s : Bs) : Value := .string ⟨s.toArray⟩

set_option maxHeartbeats 4000000 in
set_option maxRecDepth 100000 in
theorem num_anyN (n : Int) (h0 : -9223372036854775808 ≤ n) (h1 : n ≤ 9223372036854775807) (w : World) (hl : LayN w) :
    Calls Tryd.prog 37 #[.int .i64 n] w fun e w' => e = .returned (.string ⟨(Lib.itoa n).toArray⟩) ∧ Below w.heap.size w w' := by
  go_enter Tryd.func37, Tryd.ntmps37
  go_wp2_with (go_at_call 52; refine (Tryd.strconv_Itoa n h0 h1 _ hl.tab).mono ?_; rintro e w' ⟨rfl, k, os, rfl⟩)
  go_ret
  exact ⟨rfl, Lib.below_grow _ w (Nat.le_refl _) k os⟩

theorem num_any (n : Int) (h0 : -9223372036854775808 ≤ n) (h1 : n ≤ 9223372036854775807) (w : World) (hl : Lay w) :
    Calls Tryd.prog 37 #[.int .i64 n] w fun e w' => e = .returned (.string ⟨(Lib.itoa n).toArray⟩) ∧ Below w.heap.size w w' := num_anyN n h0 h1 w hl.n


theorem below_bytes (w : World) (e : TypeId) (s : ByteArray) : Below w.heap.size w (Lib.bytesWorld w e s) := by
  unfold Lib.bytesWorld
  have h := ((Below.refl w.heap.size w).drew).alloc (Nat.le_refl _) (.cells (Lib.bytesCells w e s) e)
  refine ⟨h.os, h.tape, h.output, ?_, fun k hk => ?_⟩
  · simpa [World.freeze] using h.size
  · rw [← h.block k hk]
    simp [World.freeze, Array.getElem?_modify]
    omega

/-- strconv.Atoi at every text. -/
theorem atoi_any (s : Bs) (hs : s.length ≤ 281474976710656) (w : World) (hl : Lay w) :
    Calls Tryd.prog 56 #[.string ⟨s.toArray⟩] w fun e w' => (∃ v err, e = .returned (.tuple #[.int .i64 v, err]) ∧ ((err = .nilIface ∧ Lib.atoiAll s = .ok v) ∨ (∃ t p, err = .iface t p) ∧ ∀ x, Lib.atoiAll s ≠ .ok x)) ∧ Below w.heap.size w w' := by
  have hz : (⟨s.toArray⟩ : ByteArray).size ≤ 281474976710656 := by show s.toArray.size ≤ _; simpa using hs
  cases h : Lib.atoiAll s
  · rename_i v
    refine (Tryd.strconv_Atoi_ok ⟨s.toArray⟩ (by omega) v (by simpa using h) w).mono ?_
    rintro e w' ⟨rfl, hw⟩
    refine ⟨⟨v, _, rfl, .inl ⟨rfl, rfl⟩⟩, ?_⟩
    rcases hw with rfl | ⟨t, rfl⟩
    · exact Below.refl _ _
    · exact below_bytes _ _ _
  · obtain ⟨tp, p, hv⟩ := hl.syn
    have hA := Any.strconv_Atoi_syntax_var Tryd.laysC172 ⟨s.toArray⟩ hz (by simpa using h) tp p w hv
    refine Calls.mono hA ?_
    rintro e w' ⟨N, rfl, _, _, hb⟩
    exact ⟨⟨_, _, rfl, .inr ⟨⟨_, _, rfl⟩, fun x hx => by cases hx⟩⟩, hb⟩
  · obtain ⟨tp, p, hv⟩ := hl.rng
    have hA := Any.strconv_Atoi_range_var Tryd.laysC172 ⟨s.toArray⟩ hz (by simpa using h) tp p w hv
    refine Calls.mono hA ?_
    rintro e w' ⟨N, rfl, _, _, hb⟩
    exact ⟨⟨_, _, rfl, .inr ⟨⟨_, _, rfl⟩, fun x hx => by cases hx⟩⟩, hb⟩

set_option maxHeartbeats 4000000 in
set_option maxRecDepth 100000 in
theorem toNum_any (s : Bs) (hs : s.length ≤ 281474976710656) (w : World) (hl : Lay w) :
    Calls Tryd.prog 42 #[.string ⟨s.toArray⟩] w fun e w' => e = .returned (.tuple #[.int .i64 (toNumB s).1, .int .i64 (toNumB s).2]) ∧ Below w.heap.size w w' := by
  go_enter Tryd.func42, Tryd.ntmps42
  go_wp2_with fail
  refine (atoi_any s hs _ hl).mono ?_
  rintro e w1 ⟨⟨v, err, rfl, ⟨rfl, hv⟩ | ⟨⟨tp, p, rfl⟩, hv⟩⟩, hb1⟩
  · have hl1 := hl.later hb1
    have hvb := Lib.atoiAll_bounds hv
    have e0 : toNumB s = if Lib.itoa v = s then (v, 0) else (0, 4) := by unfold toNumB; rw [hv]
    go_wp2_with (go_at_call 37; refine (num_any v hvb.1 hvb.2 _ hl1).mono ?_; rintro e w2 ⟨rfl, hb2⟩)
    all_goals go_ret2
    all_goals (rename_i hq; refine ⟨?_, hb1.trans (hb2.mono hb1.size)⟩; rw [e0])
    · rw [if_neg (by intro e; rw [e] at hq; simp at hq)]; rfl
    · rw [if_pos (by simpa using hq)]; rfl
  · have e0 : toNumB s = (0, 4) := by
      unfold toNumB
      split
      · rename_i x hx
        exact absurd hx (hv x)
      · rfl
    go_wp2
    go_ret2
    exact ⟨by rw [e0]; rfl, hb1⟩

end Go.Proofs.YtkmhimaeakbpoaaDoor
