/- Configurations: the next one, where nothing is wrong. -/
import Derived.Test.YtijacbnoemjgcaaGreatDoorPb15
import Derived.Deep.CutBlock
import Derived.Deep.DeepCutAuto
set_option linter.unusedVariables false
set_option linter.unusedSimpArgs false
set_option linter.unnecessarySimpa false
namespace Go.Proofs.YtijacbnoemjgcaaGreatDoor
open Go.RowKit Go.Shelf

theorem refused_zero {c : Cfg} {x : Cmd} (h : refusedS c x = 0) : groupB x.group = true ∧ c.num ≠ 1099511627776 ∧
    ((x.kind = 1 ∧ inS x.group c.gs = false) ∨ (x.kind = 2 ∧ inS x.group c.gs = true ∧ c.gs.length ≠ 1) ∨ (x.kind = 3 ∧ inS x.group c.gs = true ∧ 0 ≤ x.shard ∧ x.shard < 4)) := by
  unfold refusedS at h
  by_cases h1 : x.kind < 1 ∨ 3 < x.kind ∨ groupB x.group = false
  · rw [if_pos h1] at h; omega
  · rw [if_neg h1] at h
    by_cases h2 : (x.kind = 3 ∧ (x.shard < 0 ∨ 4 ≤ x.shard)) ∨ (x.kind ≠ 3 ∧ x.shard ≠ 0)
    · rw [if_pos h2] at h; omega
    · rw [if_neg h2] at h
      by_cases h3 : (inS x.group c.gs = decide (x.kind = 1)) ∨ (x.kind = 2 ∧ c.gs.length = 1) ∨ (x.kind = 3 ∧ c.o.get x.shard.toNat = x.group)
      · rw [if_pos h3] at h; omega
      · rw [if_neg h3] at h
        by_cases h4 : c.num = 1099511627776
        · rw [if_pos h4] at h; omega
        · have hg : groupB x.group = true := by
            cases hg : groupB x.group with
            | true => rfl
            | false => exact absurd (.inr (.inr hg)) h1
          refine ⟨hg, h4, ?_⟩
          have hk : x.kind = 1 ∨ x.kind = 2 ∨ x.kind = 3 := by omega
          have hin : ¬ (inS x.group c.gs = decide (x.kind = 1)) := fun e => h3 (.inl e)
          rcases hk with hk | hk | hk
          · left; refine ⟨hk, ?_⟩; rw [hk] at hin; simpa using hin
          · right; left; refine ⟨hk, ?_, fun e => h3 (.inr (.inl ⟨hk, e⟩))⟩; rw [hk] at hin; simpa using hin
          · right; right; refine ⟨hk, ?_, ?_, ?_⟩
            · rw [hk] at hin; simpa using hin
            · omega
            · omega

theorem isort_length (l : List Int) : (isort l).length = l.length := outK_length l l.length
theorem swapS_mem (p : Int → Prop) (cur : List Int) (j : Nat) (h0 : p 0) (h : ∀ x ∈ cur, p x) : ∀ x ∈ swapS cur j, p x := by
  have hd : ∀ i, p (cur.getD i 0) := by
    intro i
    rw [List.getD_eq_getElem?_getD]
    cases e : cur[i]? with
    | none => exact h0
    | some y => exact h y (List.mem_of_getElem? e)
  intro x hx
  unfold swapS at hx
  rcases List.mem_or_eq_of_mem_set hx with hx | rfl
  · rcases List.mem_or_eq_of_mem_set hx with hx | rfl
    · exact h x hx
    · exact hd _
  · exact hd _
theorem five_sorted : ∀ (l : List Int), (∀ x ∈ l, 0 ≤ x ∧ x < 5) → ∀ x ∈ isort l, 0 ≤ x ∧ x < 5 := by
  intro l h
  have hdown : ∀ (j : Nat) (cur : List Int), (∀ x ∈ cur, 0 ≤ x ∧ x < 5) → ∀ x ∈ downS cur j, 0 ≤ x ∧ x < 5 := by
    intro j
    induction j with
    | zero => intro cur hc; simpa [downS] using hc
    | succ j ih =>
      intro cur hc
      rw [downS]
      split
      · exact ih _ (swapS_mem _ cur j (by omega) hc)
      · exact hc
  have hout : ∀ k, ∀ x ∈ outK l k, 0 ≤ x ∧ x < 5 := by
    intro k
    induction k with
    | zero => simpa [outK] using h
    | succ k ih => rw [outK]; exact hdown _ _ ih
  exact hout l.length

theorem rd_far {w : World} {base g b : Nat} {n cap : Nat} {xs : List Value} (h : w.ownsRow base 3 1 (.slice (some ⟨g, 0, none⟩) n cap) n xs) (hne : g ≠ b) :
    ∀ w', Chg (fun i => i = b) w w' → Rd w' w.heap.size 1 (.slice (some ⟨g, 0, none⟩) n cap) n xs := fun w' hc => by
  have ho : w'.ownsRow base 3 1 (.slice (some ⟨g, 0, none⟩) n cap) n xs := hc.owns h (fun k hk => by simp [Value.ownBlock] at hk; omega)
  have hg := (h.lt g rfl).2
  have hr := Rd.of_own ho
  obtain ⟨hl, A, c, hv, hc', hr'⟩ := hr
  refine ⟨hl, A, c, hv, hc', ?_⟩
  rcases hr' with hr' | ⟨g', off, hA, hg', hcell⟩
  · exact .inl hr'
  · refine .inr ⟨g', off, hA, ?_, hcell⟩
    injection hv with hv
    rw [hA] at hv
    injection hv with hv
    injection hv with hv
    omega

/-- What the next configuration's end does: the six cells of c are handed back. -/
theorem next_end {w W : World} {c : Cfg} {s' : Value} {base : Nat} (hb : Below w.heap.size w W) (hg : W.ownsRow base 3 1 s' c.gs.length (ints c.gs)) (hbase : w.heap.size ≤ base) (cs : Array Value) (hz : Blk W (w.heap.size + 2) 46 cs) (W' : World) (hc : Chg (fun i => i = w.heap.size + 2) W W') :
    W'.ownsRow w.heap.size 3 1 s' c.gs.length (ints c.gs) ∧ Below w.heap.size w W' := by
  refine ⟨own_weaken (hc.owns hg (fun k hk e => ?_)) hbase, (((Chg.of_below hb).trans (F := fun i => i = w.heap.size + 2) hc (fun i _ h => h))).to_below (by intro i hi; omega) (Nat.le_refl _)⟩
  exact own_blk_ne hg hz (by decide) (by rw [hk, e])

theorem offpos : allCfg (fun gs _ g => !inS g gs || gs.length == 1 || decide (0 < (offS g gs).length)) = true := by decide +kernel

set_option maxHeartbeats 4000000 in
set_option maxRecDepth 100000 in
theorem next_ok (c : Cfg) (x : Cmd) (s : Value) (w : World) (hr : Rd w w.heap.size 1 s c.gs.length (ints c.gs)) (hm : c.gs.length ≤ 1000) (hck : checkB c = true) (hrf : refusedS c x = 0) :
    Calls Tryz.prog 43 #[.agg #[.int .i64 c.num, s, .int .i64 c.o.a, .int .i64 c.o.b, .int .i64 c.o.c, .int .i64 c.o.d], .agg #[.int .i64 x.kind, .int .i64 x.group, .int .i64 x.shard]] w fun e w' =>
      ∃ s', e = .returned (.tuple #[(nextS c x).1.val s', .int .i64 (nextS c x).2]) ∧ w'.ownsRow w.heap.size 3 1 s' (nextS c x).1.gs.length (ints (nextS c x).1.gs) ∧ Below w.heap.size w w' := by
  have HRa : Hid (∀ o o' o2, Rd (((w.alloc o).alloc o').alloc o2) w.heap.size 1 s c.gs.length (ints c.gs)) := fun o o' o2 => hr.below ((((Below.refl _ w).alloc (Nat.le_refl _) o).alloc (by simp) o').alloc (by simp; omega) o2)
  have HR := Lib.hid hr
  clear hr
  have he : Hid (nextS c x = (⟨c.num + 1, nextGs c.gs x, nextOwn c x⟩, 0)) := by unfold Hid nextS; rw [if_neg (by rw [hck]; simp), if_neg (by rw [hrf]; simp)]
  obtain ⟨n0, n1, hl4, hgr, h5⟩ := check_bounds hck
  have HGR := Lib.hid hgr
  have H5 := Lib.hid h5
  obtain ⟨hgb, hnum, hcase⟩ := refused_zero hrf
  have HCASE := Lib.hid hcase
  have HGB := Lib.hid hgb
  have HCK := Lib.hid hck
  have n2 : c.num < 1099511627776 := by omega
  clear hgr h5 hcase hgb hnum hck
  go_enter Tryz.func43, Tryz.ntmps43
  go_wp2_with fail
  refine (check_any c s _ w.heap.size (by simp; omega) (HRa.out _ _ _) (by omega)).mono ?_
  rintro e w1 ⟨rfl, hb⟩
  rw [HCK.out]
  have hz : Blk w1 (w.heap.size + 2) 46 (cfgCells 0 (.slice none 0 0) ⟨0, 0, 0, 0⟩) := Blk.below ((Blk.new ((w.alloc _).alloc _) _ _).cast_ (by simp)) hb (by simp)
  have hx : Blk w1 (w.heap.size + 1) 38 #[.int .i64 x.kind, .int .i64 x.group, .int .i64 x.shard] := Blk.below (((Blk.new (w.alloc _) _ _).alloc _).cast_ (by simp)) hb (by simp)
  have hc : Blk w1 w.heap.size 46 (cfgCells c.num s c.o) := Blk.below (((Blk.new w _ _).alloc _).alloc _) hb (by simp; omega)
  have HBW : Hid (Below w.heap.size w w1) := ((((Below.refl _ w).alloc (Nat.le_refl _) _).alloc (by simp) _).alloc (by simp; omega) _).trans (hb.mono (by simp; omega))
  obtain ⟨q0, q1, q2, q3, q4, q5⟩ := keep6 hc (Below.refl _ _)
  have y0 : w1.cell? ⟨w.heap.size + 1, 0, none⟩ = some (.int .i64 x.kind) := hx.cell 0
  have y1 : w1.cell? ⟨w.heap.size + 1, 1, none⟩ = some (.int .i64 x.group) := hx.cell 1
  have y2 : w1.cell? ⟨w.heap.size + 1, 2, none⟩ = some (.int .i64 x.shard) := hx.cell 2
  have HZ := Lib.hid hz
  have HX := Lib.hid hx
  have HC := Lib.hid hc
  clear hb hz hx hc
  simp only [errC]
  go_wp2_with fail
  refine (refused_any c x s w1 w.heap.size HBW.out.size (HR.out.below HBW.out) hm).mono ?_
  rintro e w2 ⟨rfl, hb2⟩
  have hc2 := (show Blk w1 w.heap.size 46 (cfgCells c.num s c.o) from HC.out).below hb2 HC.out.lt
  have hx2 := HX.out.below hb2 HX.out.lt
  have hz2 := HZ.out.below hb2 HZ.out.lt
  have HBW2 := Lib.hid (HBW.out.trans (hb2.mono HBW.out.size))
  have g0 : w2.cell? ⟨w.heap.size, 0, none⟩ = some (.int .i64 c.num) := hc2.cell 0
  have g1 : w2.cell? ⟨w.heap.size, 1, none⟩ = some s := hc2.cell 1
  have fr0 := hc2.frozen 0
  have HC2 := Lib.hid hc2
  have HX2 := Lib.hid hx2
  have HZ2 := Lib.hid hz2
  clear hc2 hx2 hz2 hb2 q0 q1 q2 q3 q4 q5 y0 y1 y2 HX HZ HC HBW
  rw [hrf]
  clear hrf
  go_wp2_with fail
  have hsx : Chg (fun i => i = w.heap.size) w2 (w2.setCell ⟨w.heap.size, 0, none⟩ (.int .i64 (c.num + 1))) := Chg.setCell (F := fun i => i = w.heap.size) (Chg.refl _ w2) (fun _ => rfl) _
  refine (clone_any s c.gs _ w.heap.size (by have := HBW2.out.size; simp; omega) ((HR.out.below HBW2.out).chg hsx (by intro i hi; omega)) hm).mono ?_
  rintro e w3 ⟨v', rfl, hown3, hb3⟩
  have hc3 : Blk w3 w.heap.size 46 (cfgCells (c.num + 1) s c.o) := Blk.below (HC2.out.set_ 0 (.int .i64 (c.num + 1))) hb3 (by have := HC2.out.lt; simpa using this)
  have hx3 := (HX2.out.far (p := ⟨w.heap.size, 0, none⟩) (by simp) (.int .i64 (c.num + 1))).below hb3 (by have := HX2.out.lt; simpa using this)
  have hz3 := (HZ2.out.far (p := ⟨w.heap.size, 0, none⟩) (by simp) (.int .i64 (c.num + 1))).below hb3 (by have := HZ2.out.lt; simpa using this)
  have HBW3 : Hid (Below w.heap.size w w3) := ((((Chg.of_below HBW2.out).setCell (F := fun i => i = w.heap.size) (fun _ => rfl) _).below hb3).to_below (by intro i hi; omega) (Nat.le_refl _))
  have hbase : w.heap.size + 3 ≤ (w2.setCell ⟨w.heap.size, 0, none⟩ (.int .i64 (c.num + 1))).heap.size := by have := HZ2.out.lt; simp; omega
  have HOWN3 := Lib.hid (own_weaken hown3 hbase)
  clear hown3 hb3 hsx g0 g1 fr0 HC2 HX2 HZ2 HBW2 hbase
  obtain ⟨Av, cv, rfl⟩ := own_shape HOWN3.out
  have fr1 := hc3.frozen 1
  have c1 : w3.cell? ⟨w.heap.size, 1, none⟩ = some s := hc3.cell 1
  have y0 : w3.cell? ⟨w.heap.size + 1, 0, none⟩ = some (.int .i64 x.kind) := hx3.cell 0
  have y1 : w3.cell? ⟨w.heap.size + 1, 1, none⟩ = some (.int .i64 x.group) := hx3.cell 1
  have y2 : w3.cell? ⟨w.heap.size + 1, 2, none⟩ = some (.int .i64 x.shard) := hx3.cell 2
  have hsz3 : w.heap.size + 2 < w3.heap.size := hz3.lt
  have HC3 := Lib.hid hc3
  have HX3 := Lib.hid hx3
  have HZ3 := Lib.hid hz3
  clear hc3 hx3 hz3
  -- c.Groups is stored
  have hc4 : Blk (w3.setCell ⟨w.heap.size, 1, none⟩ (.slice Av c.gs.length cv)) w.heap.size 46 (cfgCells (c.num + 1) (.slice Av c.gs.length cv) c.o) := HC3.out.set_ 1 _
  have hx4 := HX3.out.far (p := ⟨w.heap.size, 1, none⟩) (by simp) (.slice Av c.gs.length cv)
  have hz4 := HZ3.out.far (p := ⟨w.heap.size, 1, none⟩) (by simp) (.slice Av c.gs.length cv)
  have ho4 : (w3.setCell ⟨w.heap.size, 1, none⟩ (.slice Av c.gs.length cv)).ownsRow (w.heap.size + 3) 3 1 (.slice Av c.gs.length cv) c.gs.length (ints c.gs) :=
    (((Chg.refl (fun i => i = w.heap.size) w3)).setCell (fun _ => rfl) _).owns HOWN3.out (fun k hk e => own_blk_ne HOWN3.out HC3.out (by decide) (by rw [hk, e]))
  have hb4 : Below w.heap.size w (w3.setCell ⟨w.heap.size, 1, none⟩ (.slice Av c.gs.length cv)) := ((Chg.of_below HBW3.out).setCell (F := fun i => i = w.heap.size) (fun _ => rfl) _).to_below (by intro i hi; omega) (Nat.le_refl _)
  have HC4 := Lib.hid hc4
  have HX4 := Lib.hid hx4
  have HZ4 := Lib.hid hz4
  have HO4 := Lib.hid ho4
  have HB4 := Lib.hid hb4
  clear hc4 hx4 hz4 ho4 hb4 HX3 HZ3 HOWN3 HBW3
  obtain ⟨i0, hi0, hz0, hz1, hz2⟩ := info_parts int_info
  rcases HCASE.out with ⟨hk, hin⟩ | ⟨hk, hin, hl1⟩ | ⟨hk, hin, hs0, hs4⟩
  · -- Join
    clear HCASE
    obtain ⟨L, hL⟩ : ∃ L, L = c.gs ++ [x.group] := ⟨_, rfl⟩
    have hLl : c.gs.length + 1 = L.length := by rw [hL]; simp
    have hLi : ints c.gs ++ [.int .i64 x.group] = ints L := by rw [hL, ints_append]; rfl
    have hG := allCfg_at gives HCK.out HGB.out
    rw [hin, ← hL] at hG
    have hGg : giveS (isort L) c.o = some ((giveS (isort L) c.o).getD c.o) := by
      cases e : giveS (isort L) c.o with
      | none => rw [e] at hG; simp at hG
      | some of => rfl
    have hgs : nextGs c.gs x = isort L := by unfold nextGs; rw [if_pos hk, hL]
    have how : nextOwn c x = (giveS (isort L) c.o).getD c.o := by unfold nextOwn; rw [if_neg (by omega), hgs]
    have hgx : 0 ≤ x.group ∧ x.group < 5 := by have := HGB.out; simp only [groupB, Bool.and_eq_true, decide_eq_true_eq] at this; omega
    have HS5 : Hid (∀ y ∈ isort L, 0 ≤ y ∧ y < 5) := five_sorted L (by
      intro y hy
      rw [hL] at hy
      rcases List.mem_append.1 hy with hy | hy
      · have := HGR.out y hy; omega
      · simp at hy; rw [hy]; exact hgx)
    have HSl := Lib.hid (isort_length L)
    generalize (giveS (isort L) c.o).getD c.o = of at hGg how
    rw [hgs, how] at he
    have HGG := Lib.hid hGg
    have HL := Lib.hid hLl
    have HLi := Lib.hid hLi
    have hL5 : 0 < L.length := by omega
    have hL6 : L.length ≤ 5 := by omega
    clear hgs how hGg hG hin hLl hLi hL hgx
    rw [hk] at y0
    have hone : ∀ u ∈ [Value.int .i64 x.group], u.oneCell' = true := by intro u hu; simp at hu; subst hu; rfl
    have HONE := Lib.hid hone
    clear hone hk
    go_wp2_with (at_builtin; refine wpList_append_lies _ rfl (.tmp 34) (.tmp 37) _ rfl (w.heap.size + 3) 3 i0 _ 1 8 Tryz.underlying43 hi0 hz0 hz1 hz2 rfl (by omega) (.slice Av c.gs.length cv) c.gs.length (ints c.gs) rfl (HO4.out.alloc _) ⟨w3.heap.size, 0, none⟩ 1 1 [.int .i64 x.group] rfl rfl (news_box (by simp)) HONE.out (by omega) (by unfold maxLen; omega) (by omega) (by simp; omega) (w3.heap.size + 1) (by simp) ?_; intro g2 cap2 w4 hown4 hg4 hat4 hlt4; rw [HL.out, HLi.out] at hown4; rw [HL.out]; have hc5 := (HC4.out.alloc _).grown hg4 (fun e => own_blk_ne HO4.out HC4.out (by decide) e.symm); have fr5 := hc5.frozen 1; have c5 : w4.cell? ⟨w.heap.size, 1, none⟩ = some (.slice Av c.gs.length cv) := hc5.cell 1)
    have HC5 := Lib.hid hc5
    have HX5 := Lib.hid ((HX4.out.alloc _).grown hg4 (fun e => own_blk_ne HO4.out HX4.out (by decide) e.symm))
    have HZ5 := Lib.hid ((HZ4.out.alloc _).grown hg4 (fun e => own_blk_ne HO4.out HZ4.out (by decide) e.symm))
    have hng : g2 ≠ w.heap.size := fun e => own_blk_ne hown4 HC5.out (by decide) (by rw [e]; rfl)
    have HO5 : Hid ((w4.setCell ⟨w.heap.size, 1, none⟩ (.slice (some ⟨g2, 0, none⟩) L.length cap2)).ownsRow (w.heap.size + 3) 3 1 (.slice (some ⟨g2, 0, none⟩) L.length cap2) L.length (ints L)) :=
      ((Chg.refl (fun i => i = w.heap.size) w4).setCell (fun _ => rfl) _).owns hown4 (fun k hk e => own_blk_ne hown4 HC5.out (by decide) (by rw [hk, e]))
    have hc6 : Blk (w4.setCell ⟨w.heap.size, 1, none⟩ (.slice (some ⟨g2, 0, none⟩) L.length cap2)) w.heap.size 46 (cfgCells (c.num + 1) (.slice (some ⟨g2, 0, none⟩) L.length cap2) c.o) := HC5.out.set_ 1 _
    have hz6 := HZ5.out.far (p := ⟨w.heap.size, 1, none⟩) (by simp) (.slice (some ⟨g2, 0, none⟩) L.length cap2)
    have hb6 : Below w.heap.size w (w4.setCell ⟨w.heap.size, 1, none⟩ (.slice (some ⟨g2, 0, none⟩) L.length cap2)) :=
      ((((Chg.of_below HB4.out).alloc _).grown hg4 (fun k hk hlt => by have := own_blk_ne HO4.out HC4.out (by decide); exact absurd hk (fun e => by have := (HO4.out.lt k e).1; omega))).setCell (F := fun i => i = w.heap.size) (fun _ => rfl) _).to_below (by intro i hi; omega) (Nat.le_refl _)
    refine (sort_any g2 cap2 L _ (w.heap.size + 3) hL5 (by omega) HO5.out).mono ?_
    rintro e w5 ⟨rfl, hown5, hg5⟩
    have hc7 := hc6.grown hg5 (by intro e; injection e with e; exact hng e.symm)
    have hz7 := hz6.grown hg5 (by intro e; injection e with e; exact own_blk_ne HO5.out hz6 (by decide) (by rw [← e]; rfl))
    have hb7 : Below w.heap.size w w5 := ((Chg.of_below (F := fun i => i = w.heap.size) hb6).grown hg5 (fun k hk hlt => by injection hk with hk; have := (HO5.out.lt g2 rfl).1; omega)).to_below (by intro i hi; omega) (Nat.le_refl _)
    have HRR := Lib.hid (rd_far hown5 hng)
    have HC7 := Lib.hid hc7
    have HZ7 := Lib.hid hz7
    have HB7 := Lib.hid hb7
    have HO7 := Lib.hid hown5
    clear hc6 hz6 hb6 hc7 hz7 hb7 hown5 hg5 HO5 HC5 HX5 HZ5 hown4 hg4 hat4 hlt4 fr5 c5 HO4 HC4 HX4 HZ4 HB4 fr1 c1 y0 y1 y2 HL HLi
    rw [← HSl.out] at HRR HO7 HC7
    generalize isort L = S at *
    have hS5 : 0 < S.length := by have := HSl.out; omega
    have hS6 : S.length ≤ 5 := by have := HSl.out; omega
    go_wp2_with fail
    refine (give_any w.heap.size (c.num + 1) S c.o of (.slice (some ⟨g2, 0, none⟩) S.length cap2) w5 w5.heap.size (Nat.le_refl _) HC7.out HRR.out (by omega) H5.out HS5.out hS5 HGG.out).mono ?_
    rintro e w6 ⟨rfl, hk6, hch6⟩
    have hz8 := HZ7.out.chg hch6 (by omega)
    have hb8 : Below w.heap.size w w6 := ((Chg.of_below HB7.out).trans (F := fun i => i = w.heap.size) hch6 (fun i _ h => h)).to_below (by intro i hi; omega) (Nat.le_refl _)
    have ho8 := hch6.owns HO7.out (fun k hk e => own_blk_ne HO7.out HC7.out (by decide) (by rw [hk, e]))
    obtain ⟨e0, e1, e2, e3, e4, e5⟩ := keep6 hk6 (Below.refl _ _)
    obtain ⟨z0, z1, z2, z3, z4, z5⟩ := keep6 hz8 (Below.refl _ _)
    have f0 := hz8.frozen 0
    have f1 := hz8.frozen 1
    have f2 := hz8.frozen 2
    have f3 := hz8.frozen 3
    have f4 := hz8.frozen 4
    have f5 := hz8.frozen 5
    have HZ8 := Lib.hid hz8
    have HB8 := Lib.hid hb8
    have HO8 := Lib.hid ho8
    clear hz8 hb8 ho8 hk6 hch6 HRR HC7 HZ7 HB7 HO7
    go_wp2_with fail
    refine bodyPost_ret (v := .tuple #[(Cfg.mk (c.num + 1) S of).val (.slice (some ⟨g2, 0, none⟩) S.length cap2), .int .i64 0]) (by simp [results, Tryz.results43, go_sem, z0, z1, z2, z3, z4, z5, Cfg.val]) rfl ?_
    rw [he.out]
    exact ⟨_, rfl, next_end (c := ⟨c.num + 1, S, of⟩) HB8.out HO8.out (by omega) _ HZ8.out _ (((((((Chg.refl (fun i => i = w.heap.size + 2) w6).setCell (fun _ => rfl) _).setCell (fun _ => rfl) _).setCell (fun _ => rfl) _).setCell (fun _ => rfl) _).setCell (fun _ => rfl) _).setCell (fun _ => rfl) _)⟩
  · -- Leave
    clear HCASE
    obtain ⟨S, hS⟩ : ∃ S, S = offS x.group c.gs := ⟨_, rfl⟩
    have hG := allCfg_at gives HCK.out HGB.out
    have hP := allCfg_at offpos HCK.out HGB.out
    have hl1b : (c.gs.length == 1) = false := by simpa using hl1
    rw [hin, hl1b, ← hS] at hG hP
    have hGg : giveS S c.o = some ((giveS S c.o).getD c.o) := by
      cases e : giveS S c.o with
      | none => rw [e] at hG; simp at hG
      | some of => rfl
    have hS5 : 0 < S.length := by simpa using hP
    have hgs : nextGs c.gs x = S := by unfold nextGs; rw [if_neg (by omega), if_pos hk, hS]
    have how : nextOwn c x = (giveS S c.o).getD c.o := by unfold nextOwn; rw [if_neg (by omega), hgs]
    have HS5 : Hid (∀ y ∈ S, 0 ≤ y ∧ y < 5) := by
      intro y hy
      rw [hS] at hy
      have := HGR.out y (List.mem_filter.1 hy).1
      omega
    have hS6 : S.length ≤ 4 := by have := List.length_filter_le (· != x.group) c.gs; rw [hS]; unfold offS; omega
    generalize (giveS S c.o).getD c.o = of at hGg how
    rw [hgs, how] at he
    have HGG := Lib.hid hGg
    have HIN := Lib.hid hin
    have HS := Lib.hid hS
    have hpos : 0 < c.gs.length := by
      rcases Nat.eq_zero_or_pos c.gs.length with h0 | h0
      · have : c.gs = [] := List.eq_nil_of_length_eq_zero h0
        rw [this] at hin; simp [inS] at hin
      · exact h0
    clear hgs how hGg hG hP hin hS hl1 hl1b
    rw [hk] at y0
    clear hk
    obtain ⟨g2, cap2, hv, hbg, hglt⟩ := HO4.out.form hpos
    injection hv with hA _ hcc
    subst hA hcc
    have hng : g2 ≠ w.heap.size := by omega
    have HDF := Lib.hid (deleteFunc_any g2 cv c.gs x.group (w.heap.size + 1) _ (w.heap.size + 3) (by omega) (HX4.out.cell 1) HIN.out (by omega) (by have := (own_form HO4.out).2.2.2; unfold maxLen at this; omega) HO4.out)
    have HC4b := Lib.hid (fun (w5 : World) hg5 => (HC4.out.grown (w' := w5) (row := some g2) hg5 (by intro e; injection e with e; exact hng e.symm)))
    rw [← HS.out] at HDF
    go_wp2_with fail
    refine HDF.out.mono ?_
    rintro e w5 ⟨rfl, hown5, hg5⟩
    have hc5 := HC4b.out w5 hg5
    have hz5 := HZ4.out.grown hg5 (by intro e; injection e with e; exact own_blk_ne HO4.out HZ4.out (by decide) (by rw [← e]; rfl))
    have hb5 : Below w.heap.size w w5 := ((Chg.of_below (F := fun i => i = w.heap.size) HB4.out).grown hg5 (fun k hk hlt => by injection hk with hk; omega)).to_below (by intro i hi; omega) (Nat.le_refl _)
    have hc7 : Blk (w5.setCell ⟨w.heap.size, 1, none⟩ (.slice (some ⟨g2, 0, none⟩) S.length cv)) w.heap.size 46 (cfgCells (c.num + 1) (.slice (some ⟨g2, 0, none⟩) S.length cv) c.o) := hc5.set_ 1 _
    have hz7 := hz5.far (p := ⟨w.heap.size, 1, none⟩) (by simp) (.slice (some ⟨g2, 0, none⟩) S.length cv)
    have hb7 : Below w.heap.size w (w5.setCell ⟨w.heap.size, 1, none⟩ (.slice (some ⟨g2, 0, none⟩) S.length cv)) := ((Chg.of_below hb5).setCell (F := fun i => i = w.heap.size) (fun _ => rfl) _).to_below (by intro i hi; omega) (Nat.le_refl _)
    have ho7 : (w5.setCell ⟨w.heap.size, 1, none⟩ (.slice (some ⟨g2, 0, none⟩) S.length cv)).ownsRow (w.heap.size + 3) 3 1 (.slice (some ⟨g2, 0, none⟩) S.length cv) S.length (ints S) :=
      ((Chg.refl (fun i => i = w.heap.size) w5).setCell (fun _ => rfl) _).owns hown5 (fun k hk e => by simp [Value.ownBlock] at hk; omega)
    have fr5 := hc5.frozen 1
    have c5 : w5.cell? ⟨w.heap.size, 1, none⟩ = some (.slice (some ⟨g2, 0, none⟩) c.gs.length cv) := hc5.cell 1
    have HRR := Lib.hid (rd_far ho7 hng)
    have HC7 := Lib.hid hc7
    have HZ7 := Lib.hid hz7
    have HB7 := Lib.hid hb7
    have HO7 := Lib.hid ho7
    clear hc5 hz5 hb5 hc7 hz7 hb7 ho7 hown5 hg5 HDF HC4b HO4 HC4 HX4 HZ4 HB4 fr1 c1 y0 y1 y2
    go_wp2_with fail
    refine (give_any w.heap.size (c.num + 1) S c.o of (.slice (some ⟨g2, 0, none⟩) S.length cv) _ _ (Nat.le_refl _) HC7.out HRR.out (by omega) H5.out HS5.out hS5 HGG.out).mono ?_
    rintro e w6 ⟨rfl, hk6, hch6⟩
    have hz8 := HZ7.out.chg hch6 (by omega)
    have hb8 : Below w.heap.size w w6 := ((Chg.of_below HB7.out).trans (F := fun i => i = w.heap.size) hch6 (fun i _ h => h)).to_below (by intro i hi; omega) (Nat.le_refl _)
    have ho8 := hch6.owns HO7.out (fun k hk e => own_blk_ne HO7.out HC7.out (by decide) (by rw [hk, e]))
    obtain ⟨e0, e1, e2, e3, e4, e5⟩ := keep6 hk6 (Below.refl _ _)
    obtain ⟨z0, z1, z2, z3, z4, z5⟩ := keep6 hz8 (Below.refl _ _)
    have f0 := hz8.frozen 0
    have f1 := hz8.frozen 1
    have f2 := hz8.frozen 2
    have f3 := hz8.frozen 3
    have f4 := hz8.frozen 4
    have f5 := hz8.frozen 5
    have HZ8 := Lib.hid hz8
    have HB8 := Lib.hid hb8
    have HO8 := Lib.hid ho8
    clear hz8 hb8 ho8 hk6 hch6 HRR HC7 HZ7 HB7 HO7
    go_wp2_with fail
    refine bodyPost_ret (v := .tuple #[(Cfg.mk (c.num + 1) S of).val (.slice (some ⟨g2, 0, none⟩) S.length cv), .int .i64 0]) (by simp [results, Tryz.results43, go_sem, z0, z1, z2, z3, z4, z5, Cfg.val]) rfl ?_
    rw [he.out]
    exact ⟨_, rfl, next_end (c := ⟨c.num + 1, S, of⟩) HB8.out HO8.out (by omega) _ HZ8.out _ (((((((Chg.refl (fun i => i = w.heap.size + 2) w6).setCell (fun _ => rfl) _).setCell (fun _ => rfl) _).setCell (fun _ => rfl) _).setCell (fun _ => rfl) _).setCell (fun _ => rfl) _).setCell (fun _ => rfl) _)⟩
  · -- Move
    clear HCASE
    have hgs : nextGs c.gs x = c.gs := by unfold nextGs; rw [if_neg (by omega), if_neg (by omega)]
    have h4 : x.shard = 0 ∨ x.shard = 1 ∨ x.shard = 2 ∨ x.shard = 3 := by omega
    have how0 : nextOwn c x = c.o.put x.shard.toNat x.group := by unfold nextOwn; rw [if_pos hk]
    rw [hk] at y0
    rw [hgs] at he
    clear hgs hk hin hs0 hs4
    rcases h4 with hs | hs | hs | hs
    · have how : nextOwn c x = c.o.put 0 x.group := by rw [how0, hs]; rfl
      rw [how] at he
      rw [hs] at y2
      have hk6 : Blk ((w3.setCell ⟨w.heap.size, 1, none⟩ (.slice Av c.gs.length cv)).setCell ⟨w.heap.size, 2, none⟩ (.int .i64 x.group)) w.heap.size 46 (cfgCells (c.num + 1) (.slice Av c.gs.length cv) (c.o.put 0 x.group)) := blk_put HC4.out 0 (by omega) x.group
      have hz8 := HZ4.out.far (p := ⟨w.heap.size, 2, none⟩) (by simp) (.int .i64 x.group)
      have HB8 : Hid (Below w.heap.size w ((w3.setCell ⟨w.heap.size, 1, none⟩ (.slice Av c.gs.length cv)).setCell ⟨w.heap.size, 2, none⟩ (.int .i64 x.group))) := ((Chg.of_below HB4.out).setCell (F := fun i => i = w.heap.size) (fun _ => rfl) _).to_below (by intro i hi; omega) (Nat.le_refl _)
      have HO8 := Lib.hid ((((Chg.refl (fun i => i = w.heap.size) (w3.setCell ⟨w.heap.size, 1, none⟩ (.slice Av c.gs.length cv)))).setCell (p := ⟨w.heap.size, 2, none⟩) (fun _ => rfl) (.int .i64 x.group)).owns HO4.out (fun k hk e => own_blk_ne HO4.out HC4.out (by decide) (by rw [hk, e])))
      have fk : w3.frozen? ⟨w.heap.size, 2, none⟩ = false := HC3.out.frozen 2
      have ck : w3.cell? ⟨w.heap.size, 2, none⟩ = some (.int .i64 (c.o.get 0)) := blk_own HC3.out 0 (by omega)
      have HK6 := Lib.hid hk6
      have HZ8 := Lib.hid hz8
      clear how how0 hs hk6 hz8
      go_upto_region 19 with fail
      clear HC4 HX4 HZ4 HO4 HB4 fk ck y0 y1 y2 HC3 c1 fr1
      generalize c.o.put 0 x.group = of at *
      generalize ((w3.setCell ⟨w.heap.size, 1, none⟩ (.slice Av c.gs.length cv)).setCell ⟨w.heap.size, 2, none⟩ (.int .i64 x.group)) = W8 at *
      obtain ⟨e0, e1, e2, e3, e4, e5⟩ := keep6 HK6.out (Below.refl _ _)
      obtain ⟨z0, z1, z2, z3, z4, z5⟩ := keep6 HZ8.out (Below.refl _ _)
      have f0 := HZ8.out.frozen 0
      have f1 := HZ8.out.frozen 1
      have f2 := HZ8.out.frozen 2
      have f3 := HZ8.out.frozen 3
      have f4 := HZ8.out.frozen 4
      have f5 := HZ8.out.frozen 5
      go_wp2_with fail
      refine bodyPost_ret (v := .tuple #[(Cfg.mk (c.num + 1) c.gs of).val (.slice Av c.gs.length cv), .int .i64 0]) (by simp [results, Tryz.results43, go_sem, z0, z1, z2, z3, z4, z5, Cfg.val]) rfl ?_
      rw [he.out]
      exact ⟨_, rfl, next_end (c := ⟨c.num + 1, c.gs, of⟩) HB8.out HO8.out (by omega) _ HZ8.out _ (((((((Chg.refl (fun i => i = w.heap.size + 2) W8).setCell (fun _ => rfl) _).setCell (fun _ => rfl) _).setCell (fun _ => rfl) _).setCell (fun _ => rfl) _).setCell (fun _ => rfl) _).setCell (fun _ => rfl) _)⟩
    · have how : nextOwn c x = c.o.put 1 x.group := by rw [how0, hs]; rfl
      rw [how] at he
      rw [hs] at y2
      have hk6 : Blk ((w3.setCell ⟨w.heap.size, 1, none⟩ (.slice Av c.gs.length cv)).setCell ⟨w.heap.size, 3, none⟩ (.int .i64 x.group)) w.heap.size 46 (cfgCells (c.num + 1) (.slice Av c.gs.length cv) (c.o.put 1 x.group)) := blk_put HC4.out 1 (by omega) x.group
      have hz8 := HZ4.out.far (p := ⟨w.heap.size, 3, none⟩) (by simp) (.int .i64 x.group)
      have HB8 : Hid (Below w.heap.size w ((w3.setCell ⟨w.heap.size, 1, none⟩ (.slice Av c.gs.length cv)).setCell ⟨w.heap.size, 3, none⟩ (.int .i64 x.group))) := ((Chg.of_below HB4.out).setCell (F := fun i => i = w.heap.size) (fun _ => rfl) _).to_below (by intro i hi; omega) (Nat.le_refl _)
      have HO8 := Lib.hid ((((Chg.refl (fun i => i = w.heap.size) (w3.setCell ⟨w.heap.size, 1, none⟩ (.slice Av c.gs.length cv)))).setCell (p := ⟨w.heap.size, 3, none⟩) (fun _ => rfl) (.int .i64 x.group)).owns HO4.out (fun k hk e => own_blk_ne HO4.out HC4.out (by decide) (by rw [hk, e])))
      have fk : w3.frozen? ⟨w.heap.size, 3, none⟩ = false := HC3.out.frozen 3
      have ck : w3.cell? ⟨w.heap.size, 3, none⟩ = some (.int .i64 (c.o.get 1)) := blk_own HC3.out 1 (by omega)
      have HK6 := Lib.hid hk6
      have HZ8 := Lib.hid hz8
      clear how how0 hs hk6 hz8
      go_upto_region 19 with fail
      clear HC4 HX4 HZ4 HO4 HB4 fk ck y0 y1 y2 HC3 c1 fr1
      generalize c.o.put 1 x.group = of at *
      generalize ((w3.setCell ⟨w.heap.size, 1, none⟩ (.slice Av c.gs.length cv)).setCell ⟨w.heap.size, 3, none⟩ (.int .i64 x.group)) = W8 at *
      obtain ⟨e0, e1, e2, e3, e4, e5⟩ := keep6 HK6.out (Below.refl _ _)
      obtain ⟨z0, z1, z2, z3, z4, z5⟩ := keep6 HZ8.out (Below.refl _ _)
      have f0 := HZ8.out.frozen 0
      have f1 := HZ8.out.frozen 1
      have f2 := HZ8.out.frozen 2
      have f3 := HZ8.out.frozen 3
      have f4 := HZ8.out.frozen 4
      have f5 := HZ8.out.frozen 5
      go_wp2_with fail
      refine bodyPost_ret (v := .tuple #[(Cfg.mk (c.num + 1) c.gs of).val (.slice Av c.gs.length cv), .int .i64 0]) (by simp [results, Tryz.results43, go_sem, z0, z1, z2, z3, z4, z5, Cfg.val]) rfl ?_
      rw [he.out]
      exact ⟨_, rfl, next_end (c := ⟨c.num + 1, c.gs, of⟩) HB8.out HO8.out (by omega) _ HZ8.out _ (((((((Chg.refl (fun i => i = w.heap.size + 2) W8).setCell (fun _ => rfl) _).setCell (fun _ => rfl) _).setCell (fun _ => rfl) _).setCell (fun _ => rfl) _).setCell (fun _ => rfl) _).setCell (fun _ => rfl) _)⟩
    · have how : nextOwn c x = c.o.put 2 x.group := by rw [how0, hs]; rfl
      rw [how] at he
      rw [hs] at y2
      have hk6 : Blk ((w3.setCell ⟨w.heap.size, 1, none⟩ (.slice Av c.gs.length cv)).setCell ⟨w.heap.size, 4, none⟩ (.int .i64 x.group)) w.heap.size 46 (cfgCells (c.num + 1) (.slice Av c.gs.length cv) (c.o.put 2 x.group)) := blk_put HC4.out 2 (by omega) x.group
      have hz8 := HZ4.out.far (p := ⟨w.heap.size, 4, none⟩) (by simp) (.int .i64 x.group)
      have HB8 : Hid (Below w.heap.size w ((w3.setCell ⟨w.heap.size, 1, none⟩ (.slice Av c.gs.length cv)).setCell ⟨w.heap.size, 4, none⟩ (.int .i64 x.group))) := ((Chg.of_below HB4.out).setCell (F := fun i => i = w.heap.size) (fun _ => rfl) _).to_below (by intro i hi; omega) (Nat.le_refl _)
      have HO8 := Lib.hid ((((Chg.refl (fun i => i = w.heap.size) (w3.setCell ⟨w.heap.size, 1, none⟩ (.slice Av c.gs.length cv)))).setCell (p := ⟨w.heap.size, 4, none⟩) (fun _ => rfl) (.int .i64 x.group)).owns HO4.out (fun k hk e => own_blk_ne HO4.out HC4.out (by decide) (by rw [hk, e])))
      have fk : w3.frozen? ⟨w.heap.size, 4, none⟩ = false := HC3.out.frozen 4
      have ck : w3.cell? ⟨w.heap.size, 4, none⟩ = some (.int .i64 (c.o.get 2)) := blk_own HC3.out 2 (by omega)
      have HK6 := Lib.hid hk6
      have HZ8 := Lib.hid hz8
      clear how how0 hs hk6 hz8
      go_upto_region 19 with fail
      clear HC4 HX4 HZ4 HO4 HB4 fk ck y0 y1 y2 HC3 c1 fr1
      generalize c.o.put 2 x.group = of at *
      generalize ((w3.setCell ⟨w.heap.size, 1, none⟩ (.slice Av c.gs.length cv)).setCell ⟨w.heap.size, 4, none⟩ (.int .i64 x.group)) = W8 at *
      obtain ⟨e0, e1, e2, e3, e4, e5⟩ := keep6 HK6.out (Below.refl _ _)
      obtain ⟨z0, z1, z2, z3, z4, z5⟩ := keep6 HZ8.out (Below.refl _ _)
      have f0 := HZ8.out.frozen 0
      have f1 := HZ8.out.frozen 1
      have f2 := HZ8.out.frozen 2
      have f3 := HZ8.out.frozen 3
      have f4 := HZ8.out.frozen 4
      have f5 := HZ8.out.frozen 5
      go_wp2_with fail
      refine bodyPost_ret (v := .tuple #[(Cfg.mk (c.num + 1) c.gs of).val (.slice Av c.gs.length cv), .int .i64 0]) (by simp [results, Tryz.results43, go_sem, z0, z1, z2, z3, z4, z5, Cfg.val]) rfl ?_
      rw [he.out]
      exact ⟨_, rfl, next_end (c := ⟨c.num + 1, c.gs, of⟩) HB8.out HO8.out (by omega) _ HZ8.out _ (((((((Chg.refl (fun i => i = w.heap.size + 2) W8).setCell (fun _ => rfl) _).setCell (fun _ => rfl) _).setCell (fun _ => rfl) _).setCell (fun _ => rfl) _).setCell (fun _ => rfl) _).setCell (fun _ => rfl) _)⟩
    · have how : nextOwn c x = c.o.put 3 x.group := by rw [how0, hs]; rfl
      rw [how] at he
      rw [hs] at y2
      have hk6 : Blk ((w3.setCell ⟨w.heap.size, 1, none⟩ (.slice Av c.gs.length cv)).setCell ⟨w.heap.size, 5, none⟩ (.int .i64 x.group)) w.heap.size 46 (cfgCells (c.num + 1) (.slice Av c.gs.length cv) (c.o.put 3 x.group)) := blk_put HC4.out 3 (by omega) x.group
      have hz8 := HZ4.out.far (p := ⟨w.heap.size, 5, none⟩) (by simp) (.int .i64 x.group)
      have HB8 : Hid (Below w.heap.size w ((w3.setCell ⟨w.heap.size, 1, none⟩ (.slice Av c.gs.length cv)).setCell ⟨w.heap.size, 5, none⟩ (.int .i64 x.group))) := ((Chg.of_below HB4.out).setCell (F := fun i => i = w.heap.size) (fun _ => rfl) _).to_below (by intro i hi; omega) (Nat.le_refl _)
      have HO8 := Lib.hid ((((Chg.refl (fun i => i = w.heap.size) (w3.setCell ⟨w.heap.size, 1, none⟩ (.slice Av c.gs.length cv)))).setCell (p := ⟨w.heap.size, 5, none⟩) (fun _ => rfl) (.int .i64 x.group)).owns HO4.out (fun k hk e => own_blk_ne HO4.out HC4.out (by decide) (by rw [hk, e])))
      have fk : w3.frozen? ⟨w.heap.size, 5, none⟩ = false := HC3.out.frozen 5
      have ck : w3.cell? ⟨w.heap.size, 5, none⟩ = some (.int .i64 (c.o.get 3)) := blk_own HC3.out 3 (by omega)
      have HK6 := Lib.hid hk6
      have HZ8 := Lib.hid hz8
      clear how how0 hs hk6 hz8
      go_upto_region 19 with fail
      clear HC4 HX4 HZ4 HO4 HB4 fk ck y0 y1 y2 HC3 c1 fr1
      generalize c.o.put 3 x.group = of at *
      generalize ((w3.setCell ⟨w.heap.size, 1, none⟩ (.slice Av c.gs.length cv)).setCell ⟨w.heap.size, 5, none⟩ (.int .i64 x.group)) = W8 at *
      obtain ⟨e0, e1, e2, e3, e4, e5⟩ := keep6 HK6.out (Below.refl _ _)
      obtain ⟨z0, z1, z2, z3, z4, z5⟩ := keep6 HZ8.out (Below.refl _ _)
      have f0 := HZ8.out.frozen 0
      have f1 := HZ8.out.frozen 1
      have f2 := HZ8.out.frozen 2
      have f3 := HZ8.out.frozen 3
      have f4 := HZ8.out.frozen 4
      have f5 := HZ8.out.frozen 5
      go_wp2_with fail
      refine bodyPost_ret (v := .tuple #[(Cfg.mk (c.num + 1) c.gs of).val (.slice Av c.gs.length cv), .int .i64 0]) (by simp [results, Tryz.results43, go_sem, z0, z1, z2, z3, z4, z5, Cfg.val]) rfl ?_
      rw [he.out]
      exact ⟨_, rfl, next_end (c := ⟨c.num + 1, c.gs, of⟩) HB8.out HO8.out (by omega) _ HZ8.out _ (((((((Chg.refl (fun i => i = w.heap.size + 2) W8).setCell (fun _ => rfl) _).setCell (fun _ => rfl) _).setCell (fun _ => rfl) _).setCell (fun _ => rfl) _).setCell (fun _ => rfl) _).setCell (fun _ => rfl) _)⟩

theorem next_any (c : Cfg) (x : Cmd) (s : Value) (w : World) (hr : Rd w w.heap.size 1 s c.gs.length (ints c.gs)) (hm : c.gs.length ≤ 1000) :
    Calls Tryz.prog 43 #[.agg #[.int .i64 c.num, s, .int .i64 c.o.a, .int .i64 c.o.b, .int .i64 c.o.c, .int .i64 c.o.d], .agg #[.int .i64 x.kind, .int .i64 x.group, .int .i64 x.shard]] w fun e w' =>
      ∃ s', e = .returned (.tuple #[(nextS c x).1.val s', .int .i64 (nextS c x).2]) ∧ w'.ownsRow w.heap.size 3 1 s' (nextS c x).1.gs.length (ints (nextS c x).1.gs) ∧ Below w.heap.size w w' := by
  by_cases hck : checkB c = true
  · by_cases hrf : refusedS c x = 0
    · exact next_ok c x s w hr hm hck hrf
    · exact next_bad c x s w hr hm (fun _ => hrf)
  · exact next_bad c x s w hr hm (fun h => absurd h hck)

end Go.Proofs.YtijacbnoemjgcaaGreatDoor
