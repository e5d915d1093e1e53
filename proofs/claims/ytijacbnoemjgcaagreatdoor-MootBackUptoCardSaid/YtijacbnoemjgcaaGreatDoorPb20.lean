/- The reference: the next configuration, where nothing is wrong. -/
import Derived.Test.YtijacbnoemjgcaaGreatDoorPb19
set_option linter.unusedVariables false
set_option linter.unusedSimpArgs false
set_option linter.unnecessarySimpa false
namespace Go.Proofs.YtijacbnoemjgcaaGreatDoor
open Go.RowKit Go.Shelf

/-- Is g a group behind the command? -/
def isG (gs : List Int) (x : Cmd) (g : Int) : Bool := if x.group == g then x.kind != 2 else inS g gs
def upG (gs : List Int) (x : Cmd) : Nat → List Int
  | 0 => []
  | k + 1 => if isG gs x (k + 1 : Nat) = true then upG gs x k ++ [((k + 1 : Nat) : Int)] else upG gs x k
theorem upG_length (gs : List Int) (x : Cmd) (k : Nat) : (upG gs x k).length ≤ k := by
  induction k with
  | zero => simp [upG]
  | succ k ih => rw [upG]; split <;> first | omega | (simp; omega)
theorem ups : allCfg (fun gs _ g => (inS g gs || upG gs ⟨1, g, 0⟩ 4 == isort (gs ++ [g])) && (!inS g gs || upG gs ⟨2, g, 0⟩ 4 == offS g gs) && (!inS g gs || upG gs ⟨3, g, 0⟩ 4 == gs)) = true := by decide +kernel
theorem upG_shard (gs : List Int) (k g s s' : Int) (n : Nat) : upG gs ⟨k, g, s⟩ n = upG gs ⟨k, g, s'⟩ n := by
  induction n with
  | zero => rfl
  | succ n ih => rw [upG, upG, ih]; rfl
theorem upG_next {c : Cfg} {x : Cmd} (hck : checkB c = true) (hrf : refusedS c x = 0) : upG c.gs x 4 = nextGs c.gs x := by
  obtain ⟨hgb, _, hcase⟩ := refused_zero hrf
  have hU := allCfg_at ups hck hgb
  obtain ⟨kind, grp, sh⟩ := x
  rw [upG_shard _ _ _ sh 0]
  simp only [Bool.and_eq_true, Bool.or_eq_true, Bool.not_eq_true', beq_iff_eq] at hU
  obtain ⟨⟨h1, h2⟩, h3⟩ := hU
  rcases hcase with ⟨rfl, hin⟩ | ⟨rfl, hin, _⟩ | ⟨rfl, hin, _⟩
  · simp only at hin; rw [hin] at h1; simpa [nextGs] using h1
  · simp only at hin; rw [hin] at h2; simpa [nextGs] using h2
  · simp only at hin; rw [hin] at h3; simpa [nextGs] using h3

theorem upG_mem (gs : List Int) (x : Cmd) (k : Nat) (hk : k ≤ 4) : ∀ g ∈ upG gs x k, 0 ≤ g ∧ g < 5 := by
  induction k with
  | zero => simp [upG]
  | succ k ih =>
    intro g hg
    rw [upG] at hg
    split at hg
    · rcases List.mem_append.1 hg with h | h
      · exact ih (by omega) g h
      · simp at h; omega
    · exact ih (by omega) g hg
theorem give_some {c : Cfg} {x : Cmd} (hck : checkB c = true) (hrf : refusedS c x = 0) (hk : x.kind ≠ 3) : giveS (nextGs c.gs x) c.o = some (nextOwn c x) ∧ 0 < (nextGs c.gs x).length := by
  obtain ⟨hgb, _, hcase⟩ := refused_zero hrf
  have hG := allCfg_at gives hck hgb
  have hP := allCfg_at offpos hck hgb
  have how : nextOwn c x = (giveS (nextGs c.gs x) c.o).getD c.o := by unfold nextOwn; rw [if_neg hk]
  rcases hcase with ⟨h1, hin⟩ | ⟨h1, hin, hl⟩ | ⟨h1, _⟩
  · have hgs : nextGs c.gs x = isort (c.gs ++ [x.group]) := by unfold nextGs; rw [if_pos h1]
    rw [how, hgs]
    rw [hin] at hG
    refine ⟨?_, by rw [isort_length]; simp⟩
    cases e : giveS (isort (c.gs ++ [x.group])) c.o with
    | none => rw [e] at hG; simp at hG
    | some of => rfl
  · have hgs : nextGs c.gs x = offS x.group c.gs := by unfold nextGs; rw [if_neg (by omega), if_pos h1]
    have hl1b : (c.gs.length == 1) = false := by simpa using hl
    rw [how, hgs]
    rw [hin, hl1b] at hG hP
    refine ⟨?_, by simpa using hP⟩
    cases e : giveS (offS x.group c.gs) c.o with
    | none => rw [e] at hG; simp at hG
    | some of => rfl
  · exact absurd h1 hk

/-- What holds at the head of the loop over the groups: b is the block of 'out'. -/
structure RL (c : Cfg) (x : Cmd) (b : Nat) (W : World) (k : Nat) (so : Value) (wr : World) : Prop where
  hb : Blk wr b 92 (cfgCells (c.num + 1) so c.o)
  ho : wr.ownsRow (b + 1) 3 1 so (upG c.gs x k).length (ints (upG c.gs x k))
  hw : Below b W wr
def RLx (c : Cfg) (x : Cmd) (b : Nat) (W : World) (k : Nat) (wr : World) : Prop := ∃ so, RL c x b W k so wr

theorem rnext_end {w W : World} {s' : Value} {base : Nat} {gs : List Int} (hb : Below w.heap.size w W) (hg : W.ownsRow base 3 1 s' gs.length (ints gs)) (hbase : w.heap.size ≤ base) (cs : Array Value) (hz : Blk W (w.heap.size + 2) 92 cs) (W' : World) (hc : Chg (fun i => i = w.heap.size + 2) W W') :
    W'.ownsRow w.heap.size 3 1 s' gs.length (ints gs) ∧ Below w.heap.size w W' := by
  refine ⟨own_weaken (hc.owns hg (fun k hk e => ?_)) hbase, (((Chg.of_below hb).trans (F := fun i => i = w.heap.size + 2) hc (fun i _ h => h))).to_below (by intro i hi; omega) (Nat.le_refl _)⟩
  exact own_blk_ne hg hz (by decide) (by rw [hk, e])

set_option maxHeartbeats 4000000 in
set_option maxRecDepth 100000 in
theorem rnext_join (c : Cfg) (grp : Int) (A : Option Addr) (cc : Nat) (w : World) (hr : Rd w w.heap.size 1 (.slice A c.gs.length cc) c.gs.length (ints c.gs)) (hm : c.gs.length ≤ 1000) (hck : checkB c = true) (hrf : refusedS c ⟨1, grp, 0⟩ = 0)
    (g1 : decide (grp < 1) = false) (g2 : decide (4 < grp) = false) (hin : inS grp c.gs = false) (hn : (c.num == 1099511627776) = false)  : RNext c ⟨1, grp, 0⟩ (.slice A c.gs.length cc) w := by
  have HRa : Hid (∀ o o' o2, Rd (((w.alloc o).alloc o').alloc o2) w.heap.size 1 (.slice A c.gs.length cc) c.gs.length (ints c.gs)) := fun o o' o2 => hr.below ((((Below.refl _ w).alloc (Nat.le_refl _) o).alloc (by simp) o').alloc (by simp; omega) o2)
  have HR := Lib.hid hr
  clear hr
  obtain ⟨i0, hi0, hz0, hz1, hz2⟩ := info_parts int_info
  have he : Hid (nextS c ⟨1, grp, 0⟩ = (⟨c.num + 1, upG c.gs ⟨1, grp, 0⟩ 4, nextOwn c ⟨1, grp, 0⟩⟩, 0)) := by unfold Hid nextS; rw [if_neg (by rw [hck]; simp), if_neg (by rw [hrf]; simp), upG_next hck hrf]
  obtain ⟨n0, n1, hl4, hgr, h5⟩ := check_bounds hck
  have HGR := Lib.hid hgr
  have H5 := Lib.hid h5
  have hupn := Lib.hid (upG_next hck hrf)
  have n2 : c.num < 1099511627776 := by have : c.num ≠ 1099511627776 := by simpa using hn
                                        omega
  have HRF := Lib.hid hrf
  have HCK := Lib.hid hck
  have HIN := Lib.hid hin
  clear hck hrf hin hgr h5
  unfold RNext
  go_enter Tryz.func33, Tryz.ntmps33
  go_wp2_with fail
  refine (rcheck_any c _ _ w.heap.size (by simp; omega) (HRa.out _ _ _) (by omega)).mono ?_
  rintro e w1 ⟨rfl, hb⟩
  rw [HCK.out]
  have hR : RAt c ⟨1, grp, 0⟩ (.slice A c.gs.length cc) w w1 := rat_of hb
  obtain ⟨q0, q1, q2, q3, q4, q5⟩ := keep6 hR.hc (Below.refl _ _)
  have y0 : w1.cell? ⟨w.heap.size + 1, 0, none⟩ = some (.int .i64 1) := hR.hx.cell 0
  have y1 : w1.cell? ⟨w.heap.size + 1, 1, none⟩ = some (.int .i64 grp) := hR.hx.cell 1
  have y2 : w1.cell? ⟨w.heap.size + 1, 2, none⟩ = some (.int .i64 0) := hR.hx.cell 2
  have HR1 := Lib.hid hR
  clear hR hb HRa
  simp only [errC]
  go_wp2_with fail
  refine (rin_any _ c.gs grp w1 w.heap.size (HR.out.below HR1.out.hb) (by omega)).mono ?_
  rintro e w2 ⟨rfl, rfl⟩
  rw [HIN.out]
  go_wp2_with fail
  go_quiet (fail)
  have HRq : Hid (RAt c ⟨1, grp, 0⟩ (.slice A c.gs.length cc) w (w1.drewN nq)) := ⟨HR1.out.hc.drewN nq, HR1.out.hx.drewN nq, HR1.out.hz.drewN nq, below_drewN HR1.out.hb nq⟩
  clear q0 q1 q2 q3 q4 q5 y0 y1 y2 HR1
  generalize w1.drewN nq = wq at *
  clear w1
  obtain ⟨q0, q1, q2, q3, q4, q5⟩ := keep6 HRq.out.hc (Below.refl _ _)
  go_wp2_with fail
  have HRX : Hid (∀ wr : World, Below wq.heap.size wq wr → RAt c ⟨1, grp, 0⟩ (.slice A c.gs.length cc) w wr) := fun wr h =>
    ⟨HRq.out.hc.below h HRq.out.hc.lt, HRq.out.hx.below h HRq.out.hx.lt, HRq.out.hz.below h HRq.out.hz.lt, HRq.out.hb.trans (h.mono HRq.out.hb.size)⟩
  go_loopw [8] (fun i wr => ∃ k : Nat, k ≤ 4 ∧ i = .int .i64 ((k : Int) + 1) ∧ RLx c ⟨1, grp, 0⟩ wq.heap.size wq k wr) (fun i _ => 5 - (intOf i).toNat)
  case atStart =>
    refine ⟨0, by omega, rfl, .slice none 0 0, ?_, World.ownsRow_nil _ _ _ _, ?_⟩
    · exact (Blk.new wq 92 (cfgCells (c.num + 1) (.slice none 0 0) c.o))
    · exact (Below.refl _ _).alloc (Nat.le_refl _) _
  case round =>
    obtain ⟨k, hk, rfl, so, hL⟩ := hrel
    obtain ⟨Ao, co, rfl⟩ := own_shape hL.ho
    clear q0 q1 q2 q3 q4 q5
    by_cases hlt : k < 4
    · have hup : Hid (upG c.gs ⟨1, grp, 0⟩ (k + 1) = if isG c.gs ⟨1, grp, 0⟩ (k + 1 : Nat) = true then upG c.gs ⟨1, grp, 0⟩ k ++ [((k + 1 : Nat) : Int)] else upG c.gs ⟨1, grp, 0⟩ k) := rfl
      have hlen := upG_length c.gs ⟨1, grp, 0⟩ k
      have hRx := HRX.out _ hL.hw
      obtain ⟨q0, q1, q2, q3, q4, q5⟩ := keep6 hRx.hc (Below.refl _ _)
      have y0 : wr.cell? ⟨w.heap.size + 1, 0, none⟩ = some (.int .i64 1) := hRx.hx.cell 0
      have y1 : wr.cell? ⟨w.heap.size + 1, 1, none⟩ = some (.int .i64 grp) := hRx.hx.cell 1
      have u1 : wr.cell? ⟨wq.heap.size, 1, none⟩ = some (.slice Ao (upG c.gs ⟨1, grp, 0⟩ k).length co) := hL.hb.cell 1
      have g1' := hL.hb.frozen 1
      have HRr := Lib.hid (HR.out.below hRx.hb)
      have HLL := Lib.hid hL
      have HLr := Lib.hid (hL.hw)
      clear hL hRx
      cases hgk : (grp == ((k : Int) + 1)) with
      | true =>
        have hi : Hid (isG c.gs ⟨1, grp, 0⟩ (k + 1 : Nat) = true) := by
          have e : (grp == ((k + 1 : Nat) : Int)) = true := by simpa using hgk
          unfold Hid isG; simp only; rw [e]; rfl
        have hup2 : Hid (upG c.gs ⟨1, grp, 0⟩ (k + 1) = upG c.gs ⟨1, grp, 0⟩ k ++ [((k + 1 : Nat) : Int)]) := by unfold Hid; rw [hup.out, hi.out]; rfl
        clear hup hi
        have hgc : grp = (k : Int) + 1 := by simpa using hgk
        have hin3 : inS ((k : Int) + 1) c.gs = false := by rw [← hgc]; exact HIN.out
        clear hgc
        generalize hU : upG c.gs ⟨1, grp, 0⟩ k = U at *
        have hone : Hid (∀ u ∈ [Value.int .i64 ((k : Int) + 1)], u.oneCell' = true) := by intro u hu; simp at hu; subst hu; rfl
        have hsz := HLL.out.hb.lt
        have HOo := Lib.hid (show wr.ownsRow (wq.heap.size + 1) 3 1 (.slice Ao U.length co) U.length (ints U) by have := HLL.out.ho; rw [hU] at this; exact this)
        clear hU
        go_wp2_with fail
        refine (rin_any _ c.gs ((k : Int) + 1) wr w.heap.size HRr.out (by omega)).mono ?_
        rintro e w2 ⟨rfl, rfl⟩
        rw [hin3]
        go_wp2_with (at_builtin; refine wpList_append_lies _ rfl (.tmp 132) (.tmp 134) _ rfl (wq.heap.size + 1) 3 i0 _ 1 8 Tryz.underlying43 hi0 hz0 hz1 hz2 rfl (by omega) (.slice Ao U.length co) U.length (ints U) rfl (HOo.out.alloc _) ⟨wr.heap.size, 0, none⟩ 1 1 [.int .i64 ((k : Int) + 1)] rfl rfl (news_box (by simp)) hone.out (by omega) (by unfold maxLen; omega) (by omega) (by simp; omega) (wr.heap.size + 1) (by simp) ?_; intro g2 cap2 w4 hown4 hg4 hat4 hlt4; have hb5 := (HLL.out.hb.alloc _).grown hg4 (fun e => own_blk_ne HOo.out HLL.out.hb (by decide) e.symm); have fr5 := hb5.frozen 1; have c5 : w4.cell? ⟨wq.heap.size, 1, none⟩ = some (.slice Ao U.length co) := hb5.cell 1)
        have hfin : Hid (RLx c ⟨1, grp, 0⟩ wq.heap.size wq (k + 1) (w4.setCell ⟨wq.heap.size, 1, none⟩ (.slice (some ⟨g2, 0, none⟩) (U.length + 1) cap2))) := by
          refine ⟨_, hb5.set_ 1 _, ?_, ?_⟩
          · rw [hup2.out]
            have hne : g2 ≠ wq.heap.size := fun e => own_blk_ne hown4 hb5 (by decide) (by rw [e]; rfl)
            have := (((Chg.refl (fun i => i = wq.heap.size) w4)).setCell (p := ⟨wq.heap.size, 1, none⟩) (fun _ => rfl) (.slice (some ⟨g2, 0, none⟩) (U.length + 1) cap2)).owns hown4 (fun k hk e => by simp [Value.ownBlock] at hk; omega)
            simpa [ints_append, ints] using this
          · exact (((((Chg.of_below (F := fun i => i = wq.heap.size) HLL.out.hw).trans (Chg.refl (fun i => i = wq.heap.size) wr) (fun _ _ h => h)).alloc _).grown hg4 (fun k hk hlt => by have := (HOo.out.lt k hk).1; omega)).setCell (fun _ => rfl) _).to_below (by intro i hi; omega) (Nat.le_refl _)
        clear hb5 hown4 hg4 hat4 hlt4 HLL HLr HOo HRr q0 q1 q2 q3 q4 q5 y0 y1 u1 g1'
        go_wp2_with fail
        go_roundw
        case rel => exact ⟨k + 1, by omega, by go_num, hfin.out⟩
        case measure => simp [intOf]; omega
      | false =>
        cases hin2 : inS ((k : Int) + 1) c.gs with
        | true =>
          have hi : Hid (isG c.gs ⟨1, grp, 0⟩ (k + 1 : Nat) = true) := by
            have e : (grp == ((k + 1 : Nat) : Int)) = false := by simpa using hgk
            unfold Hid isG; simp only; rw [e]; simpa using hin2
          have hup2 : Hid (upG c.gs ⟨1, grp, 0⟩ (k + 1) = upG c.gs ⟨1, grp, 0⟩ k ++ [((k + 1 : Nat) : Int)]) := by unfold Hid; rw [hup.out, hi.out]; rfl
          clear hup hi
          generalize hU : upG c.gs ⟨1, grp, 0⟩ k = U at *
          have hone : Hid (∀ u ∈ [Value.int .i64 ((k : Int) + 1)], u.oneCell' = true) := by intro u hu; simp at hu; subst hu; rfl
          have hsz := HLL.out.hb.lt
          have HOo := Lib.hid (show wr.ownsRow (wq.heap.size + 1) 3 1 (.slice Ao U.length co) U.length (ints U) by have := HLL.out.ho; rw [hU] at this; exact this)
          clear hU
          go_wp2_with fail
          refine (rin_any _ c.gs ((k : Int) + 1) wr w.heap.size HRr.out (by omega)).mono ?_
          rintro e w2 ⟨rfl, rfl⟩
          rw [hin2]
          go_wp2_with (at_builtin; refine wpList_append_lies _ rfl (.tmp 132) (.tmp 134) _ rfl (wq.heap.size + 1) 3 i0 _ 1 8 Tryz.underlying43 hi0 hz0 hz1 hz2 rfl (by omega) (.slice Ao U.length co) U.length (ints U) rfl (HOo.out.alloc _) ⟨wr.heap.size, 0, none⟩ 1 1 [.int .i64 ((k : Int) + 1)] rfl rfl (news_box (by simp)) hone.out (by omega) (by unfold maxLen; omega) (by omega) (by simp; omega) (wr.heap.size + 1) (by simp) ?_; intro g2 cap2 w4 hown4 hg4 hat4 hlt4; have hb5 := (HLL.out.hb.alloc _).grown hg4 (fun e => own_blk_ne HOo.out HLL.out.hb (by decide) e.symm); have fr5 := hb5.frozen 1; have c5 : w4.cell? ⟨wq.heap.size, 1, none⟩ = some (.slice Ao U.length co) := hb5.cell 1)
          have hfin : Hid (RLx c ⟨1, grp, 0⟩ wq.heap.size wq (k + 1) (w4.setCell ⟨wq.heap.size, 1, none⟩ (.slice (some ⟨g2, 0, none⟩) (U.length + 1) cap2))) := by
            refine ⟨_, hb5.set_ 1 _, ?_, ?_⟩
            · rw [hup2.out]
              have hne : g2 ≠ wq.heap.size := fun e => own_blk_ne hown4 hb5 (by decide) (by rw [e]; rfl)
              have := (((Chg.refl (fun i => i = wq.heap.size) w4)).setCell (p := ⟨wq.heap.size, 1, none⟩) (fun _ => rfl) (.slice (some ⟨g2, 0, none⟩) (U.length + 1) cap2)).owns hown4 (fun k hk e => by simp [Value.ownBlock] at hk; omega)
              simpa [ints_append, ints] using this
            · exact (((((Chg.of_below (F := fun i => i = wq.heap.size) HLL.out.hw).trans (Chg.refl (fun i => i = wq.heap.size) wr) (fun _ _ h => h)).alloc _).grown hg4 (fun k hk hlt => by have := (HOo.out.lt k hk).1; omega)).setCell (fun _ => rfl) _).to_below (by intro i hi; omega) (Nat.le_refl _)
          clear hb5 hown4 hg4 hat4 hlt4 HLL HLr HOo HRr q0 q1 q2 q3 q4 q5 y0 y1 u1 g1'
          go_wp2_with fail
          go_roundw
          case rel => exact ⟨k + 1, by omega, by go_num, hfin.out⟩
          case measure => simp [intOf]; omega
        | false =>
          have hi : Hid (isG c.gs ⟨1, grp, 0⟩ (k + 1 : Nat) = false) := by
            have e : (grp == ((k + 1 : Nat) : Int)) = false := by simpa using hgk
            unfold Hid isG; simp only; rw [e]; simpa using hin2
          have hup2 : Hid (upG c.gs ⟨1, grp, 0⟩ (k + 1) = upG c.gs ⟨1, grp, 0⟩ k) := by unfold Hid; rw [hup.out, hi.out]; rfl
          clear hup hi
          go_wp2_with fail
          refine (rin_any _ c.gs ((k : Int) + 1) wr w.heap.size HRr.out (by omega)).mono ?_
          rintro e w2 ⟨rfl, rfl⟩
          rw [hin2]
          go_wp2_with fail
          go_roundw
          case rel => exact ⟨k + 1, by omega, by go_num, .slice Ao (upG c.gs ⟨1, grp, 0⟩ k).length co, HLL.out.hb, by rw [hup2.out]; exact HLL.out.ho, HLL.out.hw⟩
          case measure => simp [intOf]; omega
    · obtain rfl : k = 4 := by omega
      have hRx := HRX.out _ hL.hw
      have hLb := hL.hb
      have hLo := hL.ho
      clear hL
      have hgv := give_some HCK.out HRF.out (by simp)
      rw [← hupn.out] at hgv
      have HU5 := Lib.hid (upG_mem c.gs ⟨1, grp, 0⟩ 4 (by omega))
      have hul := upG_length c.gs ⟨1, grp, 0⟩ 4
      clear hupn HRF
      generalize nextOwn c ⟨1, grp, 0⟩ = of at *
      generalize upG c.gs ⟨1, grp, 0⟩ 4 = S at *
      obtain ⟨hgv1, hgv2⟩ := hgv
      have HGV := Lib.hid hgv1
      have y0 : wr.cell? ⟨w.heap.size + 1, 0, none⟩ = some (.int .i64 1) := hRx.hx.cell 0
      obtain ⟨e0, e1, e2, e3, e4, e5⟩ := keep6 hLb (Below.refl _ _)
      have hrd := Lib.hid (Rd.of_own hLo)
      have HLL := Lib.hid hLo
      have HRR := Lib.hid hRx
      have hsw : w.heap.size ≤ wq.heap.size := HRq.out.hb.size
      clear hLb hLo hRx hgv1 HRX HRq HR
      go_wp2_with fail
      refine (rgive_any (c.num + 1) S c.o of (.slice Ao S.length co) wr wr.heap.size (Nat.le_refl _) hrd.out (by omega) H5.out HU5.out hgv2 HGV.out).mono ?_
      rintro e w6 ⟨rfl, hb6⟩
      have hz8 := HRR.out.hz.below hb6 HRR.out.hz.lt
      have hb8 := HRR.out.hb.trans (hb6.mono HRR.out.hb.size)
      have ho8 := own_below HLL.out hb6
      obtain ⟨z0, z1, z2, z3, z4, z5⟩ := keep6 hz8 (Below.refl _ _)
      have f0 := hz8.frozen 0
      have f1 := hz8.frozen 1
      have f2 := hz8.frozen 2
      have f3 := hz8.frozen 3
      have f4 := hz8.frozen 4
      have f5 := hz8.frozen 5
      have HZ8 := Lib.hid hz8
      have HB8 := Lib.hid hb8
      have HO8 := Lib.hid ho8
      clear hz8 hb8 ho8 hb6 HLL HRR hrd
      unfold cfgCells
      go_wp2_with fail
      refine bodyPost_ret (v := .tuple #[(Cfg.mk (c.num + 1) S of).val (.slice Ao S.length co), .int .i64 0]) (by simp [results, Tryz.results33, go_sem, z0, z1, z2, z3, z4, z5, Cfg.val]) rfl ?_
      rw [he.out]
      exact ⟨_, rfl, rnext_end HB8.out HO8.out (by omega) _ HZ8.out _ (((((((Chg.refl (fun i => i = w.heap.size + 2) w6).setCell (fun _ => rfl) _).setCell (fun _ => rfl) _).setCell (fun _ => rfl) _).setCell (fun _ => rfl) _).setCell (fun _ => rfl) _).setCell (fun _ => rfl) _)⟩

set_option maxHeartbeats 4000000 in
set_option maxRecDepth 100000 in
theorem rnext_leave (c : Cfg) (grp : Int) (A : Option Addr) (cc : Nat) (w : World) (hr : Rd w w.heap.size 1 (.slice A c.gs.length cc) c.gs.length (ints c.gs)) (hm : c.gs.length ≤ 1000) (hck : checkB c = true) (hrf : refusedS c ⟨2, grp, 0⟩ = 0)
    (g1 : decide (grp < 1) = false) (g2 : decide (4 < grp) = false) (hin : inS grp c.gs = true) (hn : (c.num == 1099511627776) = false) (hl : ((c.gs.length : Int) == 1) = false) : RNext c ⟨2, grp, 0⟩ (.slice A c.gs.length cc) w := by
  have HRa : Hid (∀ o o' o2, Rd (((w.alloc o).alloc o').alloc o2) w.heap.size 1 (.slice A c.gs.length cc) c.gs.length (ints c.gs)) := fun o o' o2 => hr.below ((((Below.refl _ w).alloc (Nat.le_refl _) o).alloc (by simp) o').alloc (by simp; omega) o2)
  have HR := Lib.hid hr
  clear hr
  obtain ⟨i0, hi0, hz0, hz1, hz2⟩ := info_parts int_info
  have he : Hid (nextS c ⟨2, grp, 0⟩ = (⟨c.num + 1, upG c.gs ⟨2, grp, 0⟩ 4, nextOwn c ⟨2, grp, 0⟩⟩, 0)) := by unfold Hid nextS; rw [if_neg (by rw [hck]; simp), if_neg (by rw [hrf]; simp), upG_next hck hrf]
  obtain ⟨n0, n1, hl4, hgr, h5⟩ := check_bounds hck
  have HGR := Lib.hid hgr
  have H5 := Lib.hid h5
  have hupn := Lib.hid (upG_next hck hrf)
  have n2 : c.num < 1099511627776 := by have : c.num ≠ 1099511627776 := by simpa using hn
                                        omega
  have HRF := Lib.hid hrf
  have HCK := Lib.hid hck
  have HIN := Lib.hid hin
  clear hck hrf hin hgr h5
  unfold RNext
  go_enter Tryz.func33, Tryz.ntmps33
  go_wp2_with fail
  refine (rcheck_any c _ _ w.heap.size (by simp; omega) (HRa.out _ _ _) (by omega)).mono ?_
  rintro e w1 ⟨rfl, hb⟩
  rw [HCK.out]
  have hR : RAt c ⟨2, grp, 0⟩ (.slice A c.gs.length cc) w w1 := rat_of hb
  obtain ⟨q0, q1, q2, q3, q4, q5⟩ := keep6 hR.hc (Below.refl _ _)
  have y0 : w1.cell? ⟨w.heap.size + 1, 0, none⟩ = some (.int .i64 2) := hR.hx.cell 0
  have y1 : w1.cell? ⟨w.heap.size + 1, 1, none⟩ = some (.int .i64 grp) := hR.hx.cell 1
  have y2 : w1.cell? ⟨w.heap.size + 1, 2, none⟩ = some (.int .i64 0) := hR.hx.cell 2
  have HR1 := Lib.hid hR
  clear hR hb HRa
  simp only [errC]
  go_wp2_with fail
  refine (rin_any _ c.gs grp w1 w.heap.size (HR.out.below HR1.out.hb) (by omega)).mono ?_
  rintro e w2 ⟨rfl, rfl⟩
  rw [HIN.out]
  go_wp2_with fail
  go_quiet (fail)
  have HRq : Hid (RAt c ⟨2, grp, 0⟩ (.slice A c.gs.length cc) w (w1.drewN nq)) := ⟨HR1.out.hc.drewN nq, HR1.out.hx.drewN nq, HR1.out.hz.drewN nq, below_drewN HR1.out.hb nq⟩
  clear q0 q1 q2 q3 q4 q5 y0 y1 y2 HR1
  generalize w1.drewN nq = wq at *
  clear w1
  obtain ⟨q0, q1, q2, q3, q4, q5⟩ := keep6 HRq.out.hc (Below.refl _ _)
  go_wp2_with fail
  have HRX : Hid (∀ wr : World, Below wq.heap.size wq wr → RAt c ⟨2, grp, 0⟩ (.slice A c.gs.length cc) w wr) := fun wr h =>
    ⟨HRq.out.hc.below h HRq.out.hc.lt, HRq.out.hx.below h HRq.out.hx.lt, HRq.out.hz.below h HRq.out.hz.lt, HRq.out.hb.trans (h.mono HRq.out.hb.size)⟩
  go_loopw [8] (fun i wr => ∃ k : Nat, k ≤ 4 ∧ i = .int .i64 ((k : Int) + 1) ∧ RLx c ⟨2, grp, 0⟩ wq.heap.size wq k wr) (fun i _ => 5 - (intOf i).toNat)
  case atStart =>
    refine ⟨0, by omega, rfl, .slice none 0 0, ?_, World.ownsRow_nil _ _ _ _, ?_⟩
    · exact (Blk.new wq 92 (cfgCells (c.num + 1) (.slice none 0 0) c.o))
    · exact (Below.refl _ _).alloc (Nat.le_refl _) _
  case round =>
    obtain ⟨k, hk, rfl, so, hL⟩ := hrel
    obtain ⟨Ao, co, rfl⟩ := own_shape hL.ho
    clear q0 q1 q2 q3 q4 q5
    by_cases hlt : k < 4
    · have hup : Hid (upG c.gs ⟨2, grp, 0⟩ (k + 1) = if isG c.gs ⟨2, grp, 0⟩ (k + 1 : Nat) = true then upG c.gs ⟨2, grp, 0⟩ k ++ [((k + 1 : Nat) : Int)] else upG c.gs ⟨2, grp, 0⟩ k) := rfl
      have hlen := upG_length c.gs ⟨2, grp, 0⟩ k
      have hRx := HRX.out _ hL.hw
      obtain ⟨q0, q1, q2, q3, q4, q5⟩ := keep6 hRx.hc (Below.refl _ _)
      have y0 : wr.cell? ⟨w.heap.size + 1, 0, none⟩ = some (.int .i64 2) := hRx.hx.cell 0
      have y1 : wr.cell? ⟨w.heap.size + 1, 1, none⟩ = some (.int .i64 grp) := hRx.hx.cell 1
      have u1 : wr.cell? ⟨wq.heap.size, 1, none⟩ = some (.slice Ao (upG c.gs ⟨2, grp, 0⟩ k).length co) := hL.hb.cell 1
      have g1' := hL.hb.frozen 1
      have HRr := Lib.hid (HR.out.below hRx.hb)
      have HLL := Lib.hid hL
      have HLr := Lib.hid (hL.hw)
      clear hL hRx
      cases hgk : (grp == ((k : Int) + 1)) with
      | true =>
        have hi : Hid (isG c.gs ⟨2, grp, 0⟩ (k + 1 : Nat) = false) := by
          have e : (grp == ((k + 1 : Nat) : Int)) = true := by simpa using hgk
          unfold Hid isG; simp only; rw [e]; rfl
        have hup2 : Hid (upG c.gs ⟨2, grp, 0⟩ (k + 1) = upG c.gs ⟨2, grp, 0⟩ k) := by unfold Hid; rw [hup.out, hi.out]; rfl
        clear hup hi
        have hgc : grp = (k : Int) + 1 := by simpa using hgk
        have hin3 : inS ((k : Int) + 1) c.gs = true := by rw [← hgc]; exact HIN.out
        clear hgc
        go_wp2_with fail
        refine (rin_any _ c.gs ((k : Int) + 1) wr w.heap.size HRr.out (by omega)).mono ?_
        rintro e w2 ⟨rfl, rfl⟩
        rw [hin3]
        go_wp2_with fail
        go_roundw
        case rel => exact ⟨k + 1, by omega, by go_num, .slice Ao (upG c.gs ⟨2, grp, 0⟩ k).length co, HLL.out.hb, by rw [hup2.out]; exact HLL.out.ho, HLL.out.hw⟩
        case measure => simp [intOf]; omega
      | false =>
        cases hin2 : inS ((k : Int) + 1) c.gs with
        | true =>
          have hi : Hid (isG c.gs ⟨2, grp, 0⟩ (k + 1 : Nat) = true) := by
            have e : (grp == ((k + 1 : Nat) : Int)) = false := by simpa using hgk
            unfold Hid isG; simp only; rw [e]; simpa using hin2
          have hup2 : Hid (upG c.gs ⟨2, grp, 0⟩ (k + 1) = upG c.gs ⟨2, grp, 0⟩ k ++ [((k + 1 : Nat) : Int)]) := by unfold Hid; rw [hup.out, hi.out]; rfl
          clear hup hi
          generalize hU : upG c.gs ⟨2, grp, 0⟩ k = U at *
          have hone : Hid (∀ u ∈ [Value.int .i64 ((k : Int) + 1)], u.oneCell' = true) := by intro u hu; simp at hu; subst hu; rfl
          have hsz := HLL.out.hb.lt
          have HOo := Lib.hid (show wr.ownsRow (wq.heap.size + 1) 3 1 (.slice Ao U.length co) U.length (ints U) by have := HLL.out.ho; rw [hU] at this; exact this)
          clear hU
          go_wp2_with fail
          refine (rin_any _ c.gs ((k : Int) + 1) wr w.heap.size HRr.out (by omega)).mono ?_
          rintro e w2 ⟨rfl, rfl⟩
          rw [hin2]
          go_wp2_with (at_builtin; refine wpList_append_lies _ rfl (.tmp 132) (.tmp 134) _ rfl (wq.heap.size + 1) 3 i0 _ 1 8 Tryz.underlying43 hi0 hz0 hz1 hz2 rfl (by omega) (.slice Ao U.length co) U.length (ints U) rfl (HOo.out.alloc _) ⟨wr.heap.size, 0, none⟩ 1 1 [.int .i64 ((k : Int) + 1)] rfl rfl (news_box (by simp)) hone.out (by omega) (by unfold maxLen; omega) (by omega) (by simp; omega) (wr.heap.size + 1) (by simp) ?_; intro g2 cap2 w4 hown4 hg4 hat4 hlt4; have hb5 := (HLL.out.hb.alloc _).grown hg4 (fun e => own_blk_ne HOo.out HLL.out.hb (by decide) e.symm); have fr5 := hb5.frozen 1; have c5 : w4.cell? ⟨wq.heap.size, 1, none⟩ = some (.slice Ao U.length co) := hb5.cell 1)
          have hfin : Hid (RLx c ⟨2, grp, 0⟩ wq.heap.size wq (k + 1) (w4.setCell ⟨wq.heap.size, 1, none⟩ (.slice (some ⟨g2, 0, none⟩) (U.length + 1) cap2))) := by
            refine ⟨_, hb5.set_ 1 _, ?_, ?_⟩
            · rw [hup2.out]
              have hne : g2 ≠ wq.heap.size := fun e => own_blk_ne hown4 hb5 (by decide) (by rw [e]; rfl)
              have := (((Chg.refl (fun i => i = wq.heap.size) w4)).setCell (p := ⟨wq.heap.size, 1, none⟩) (fun _ => rfl) (.slice (some ⟨g2, 0, none⟩) (U.length + 1) cap2)).owns hown4 (fun k hk e => by simp [Value.ownBlock] at hk; omega)
              simpa [ints_append, ints] using this
            · exact (((((Chg.of_below (F := fun i => i = wq.heap.size) HLL.out.hw).trans (Chg.refl (fun i => i = wq.heap.size) wr) (fun _ _ h => h)).alloc _).grown hg4 (fun k hk hlt => by have := (HOo.out.lt k hk).1; omega)).setCell (fun _ => rfl) _).to_below (by intro i hi; omega) (Nat.le_refl _)
          clear hb5 hown4 hg4 hat4 hlt4 HLL HLr HOo HRr q0 q1 q2 q3 q4 q5 y0 y1 u1 g1'
          go_wp2_with fail
          go_roundw
          case rel => exact ⟨k + 1, by omega, by go_num, hfin.out⟩
          case measure => simp [intOf]; omega
        | false =>
          have hi : Hid (isG c.gs ⟨2, grp, 0⟩ (k + 1 : Nat) = false) := by
            have e : (grp == ((k + 1 : Nat) : Int)) = false := by simpa using hgk
            unfold Hid isG; simp only; rw [e]; simpa using hin2
          have hup2 : Hid (upG c.gs ⟨2, grp, 0⟩ (k + 1) = upG c.gs ⟨2, grp, 0⟩ k) := by unfold Hid; rw [hup.out, hi.out]; rfl
          clear hup hi
          go_wp2_with fail
          refine (rin_any _ c.gs ((k : Int) + 1) wr w.heap.size HRr.out (by omega)).mono ?_
          rintro e w2 ⟨rfl, rfl⟩
          rw [hin2]
          go_wp2_with fail
          go_roundw
          case rel => exact ⟨k + 1, by omega, by go_num, .slice Ao (upG c.gs ⟨2, grp, 0⟩ k).length co, HLL.out.hb, by rw [hup2.out]; exact HLL.out.ho, HLL.out.hw⟩
          case measure => simp [intOf]; omega
    · obtain rfl : k = 4 := by omega
      have hRx := HRX.out _ hL.hw
      have hLb := hL.hb
      have hLo := hL.ho
      clear hL
      have hgv := give_some HCK.out HRF.out (by simp)
      rw [← hupn.out] at hgv
      have HU5 := Lib.hid (upG_mem c.gs ⟨2, grp, 0⟩ 4 (by omega))
      have hul := upG_length c.gs ⟨2, grp, 0⟩ 4
      clear hupn HRF
      generalize nextOwn c ⟨2, grp, 0⟩ = of at *
      generalize upG c.gs ⟨2, grp, 0⟩ 4 = S at *
      obtain ⟨hgv1, hgv2⟩ := hgv
      have HGV := Lib.hid hgv1
      have y0 : wr.cell? ⟨w.heap.size + 1, 0, none⟩ = some (.int .i64 2) := hRx.hx.cell 0
      obtain ⟨e0, e1, e2, e3, e4, e5⟩ := keep6 hLb (Below.refl _ _)
      have hrd := Lib.hid (Rd.of_own hLo)
      have HLL := Lib.hid hLo
      have HRR := Lib.hid hRx
      have hsw : w.heap.size ≤ wq.heap.size := HRq.out.hb.size
      clear hLb hLo hRx hgv1 HRX HRq HR
      go_wp2_with fail
      refine (rgive_any (c.num + 1) S c.o of (.slice Ao S.length co) wr wr.heap.size (Nat.le_refl _) hrd.out (by omega) H5.out HU5.out hgv2 HGV.out).mono ?_
      rintro e w6 ⟨rfl, hb6⟩
      have hz8 := HRR.out.hz.below hb6 HRR.out.hz.lt
      have hb8 := HRR.out.hb.trans (hb6.mono HRR.out.hb.size)
      have ho8 := own_below HLL.out hb6
      obtain ⟨z0, z1, z2, z3, z4, z5⟩ := keep6 hz8 (Below.refl _ _)
      have f0 := hz8.frozen 0
      have f1 := hz8.frozen 1
      have f2 := hz8.frozen 2
      have f3 := hz8.frozen 3
      have f4 := hz8.frozen 4
      have f5 := hz8.frozen 5
      have HZ8 := Lib.hid hz8
      have HB8 := Lib.hid hb8
      have HO8 := Lib.hid ho8
      clear hz8 hb8 ho8 hb6 HLL HRR hrd
      unfold cfgCells
      go_wp2_with fail
      refine bodyPost_ret (v := .tuple #[(Cfg.mk (c.num + 1) S of).val (.slice Ao S.length co), .int .i64 0]) (by simp [results, Tryz.results33, go_sem, z0, z1, z2, z3, z4, z5, Cfg.val]) rfl ?_
      rw [he.out]
      exact ⟨_, rfl, rnext_end HB8.out HO8.out (by omega) _ HZ8.out _ (((((((Chg.refl (fun i => i = w.heap.size + 2) w6).setCell (fun _ => rfl) _).setCell (fun _ => rfl) _).setCell (fun _ => rfl) _).setCell (fun _ => rfl) _).setCell (fun _ => rfl) _).setCell (fun _ => rfl) _)⟩

set_option maxHeartbeats 4000000 in
set_option maxRecDepth 100000 in
theorem rnext_move (c : Cfg) (grp sh : Int) (A : Option Addr) (cc : Nat) (w : World) (hr : Rd w w.heap.size 1 (.slice A c.gs.length cc) c.gs.length (ints c.gs)) (hm : c.gs.length ≤ 1000) (hck : checkB c = true) (hrf : refusedS c ⟨3, grp, sh⟩ = 0)
    (g1 : decide (grp < 1) = false) (g2 : decide (4 < grp) = false) (hin : inS grp c.gs = true) (hn : (c.num == 1099511627776) = false) (s0 : 0 ≤ sh) (s4 : sh < 4) (s0b : decide (sh < 0) = false) (s4b : decide (4 ≤ sh) = false) (ho : (c.o.get sh.toNat == grp) = false) : RNext c ⟨3, grp, sh⟩ (.slice A c.gs.length cc) w := by
  have HRa : Hid (∀ o o' o2, Rd (((w.alloc o).alloc o').alloc o2) w.heap.size 1 (.slice A c.gs.length cc) c.gs.length (ints c.gs)) := fun o o' o2 => hr.below ((((Below.refl _ w).alloc (Nat.le_refl _) o).alloc (by simp) o').alloc (by simp; omega) o2)
  have HR := Lib.hid hr
  clear hr
  obtain ⟨i0, hi0, hz0, hz1, hz2⟩ := info_parts int_info
  have he : Hid (nextS c ⟨3, grp, sh⟩ = (⟨c.num + 1, upG c.gs ⟨3, grp, sh⟩ 4, nextOwn c ⟨3, grp, sh⟩⟩, 0)) := by unfold Hid nextS; rw [if_neg (by rw [hck]; simp), if_neg (by rw [hrf]; simp), upG_next hck hrf]
  obtain ⟨n0, n1, hl4, hgr, h5⟩ := check_bounds hck
  have HGR := Lib.hid hgr
  have H5 := Lib.hid h5
  have hupn := Lib.hid (upG_next hck hrf)
  have n2 : c.num < 1099511627776 := by have : c.num ≠ 1099511627776 := by simpa using hn
                                        omega
  have HRF := Lib.hid hrf
  have HCK := Lib.hid hck
  have HIN := Lib.hid hin
  clear hck hrf hin hgr h5
  unfold RNext
  go_enter Tryz.func33, Tryz.ntmps33
  go_wp2_with fail
  refine (rcheck_any c _ _ w.heap.size (by simp; omega) (HRa.out _ _ _) (by omega)).mono ?_
  rintro e w1 ⟨rfl, hb⟩
  rw [HCK.out]
  have hR : RAt c ⟨3, grp, sh⟩ (.slice A c.gs.length cc) w w1 := rat_of hb
  obtain ⟨q0, q1, q2, q3, q4, q5⟩ := keep6 hR.hc (Below.refl _ _)
  have y0 : w1.cell? ⟨w.heap.size + 1, 0, none⟩ = some (.int .i64 3) := hR.hx.cell 0
  have y1 : w1.cell? ⟨w.heap.size + 1, 1, none⟩ = some (.int .i64 grp) := hR.hx.cell 1
  have y2 : w1.cell? ⟨w.heap.size + 1, 2, none⟩ = some (.int .i64 sh) := hR.hx.cell 2
  have ck : w1.cell? ⟨w.heap.size, 2 + sh.toNat, none⟩ = some (.int .i64 (c.o.get sh.toNat)) := by rw [hR.hc.cell]; exact cfgCells_get _ _ _ _ (by omega)
  have HR1 := Lib.hid hR
  clear hR hb HRa
  simp only [errC]
  go_wp2_with fail
  refine (rin_any _ c.gs grp w1 w.heap.size (HR.out.below HR1.out.hb) (by omega)).mono ?_
  rintro e w2 ⟨rfl, rfl⟩
  rw [HIN.out]
  go_wp2_with fail
  go_quiet (fail)
  have HRq : Hid (RAt c ⟨3, grp, sh⟩ (.slice A c.gs.length cc) w (w1.drewN nq)) := ⟨HR1.out.hc.drewN nq, HR1.out.hx.drewN nq, HR1.out.hz.drewN nq, below_drewN HR1.out.hb nq⟩
  clear q0 q1 q2 q3 q4 q5 y0 y1 y2 HR1 ck
  generalize w1.drewN nq = wq at *
  clear w1
  obtain ⟨q0, q1, q2, q3, q4, q5⟩ := keep6 HRq.out.hc (Below.refl _ _)
  go_wp2_with fail
  have HRX : Hid (∀ wr : World, Below wq.heap.size wq wr → RAt c ⟨3, grp, sh⟩ (.slice A c.gs.length cc) w wr) := fun wr h =>
    ⟨HRq.out.hc.below h HRq.out.hc.lt, HRq.out.hx.below h HRq.out.hx.lt, HRq.out.hz.below h HRq.out.hz.lt, HRq.out.hb.trans (h.mono HRq.out.hb.size)⟩
  go_loopw [8] (fun i wr => ∃ k : Nat, k ≤ 4 ∧ i = .int .i64 ((k : Int) + 1) ∧ RLx c ⟨3, grp, sh⟩ wq.heap.size wq k wr) (fun i _ => 5 - (intOf i).toNat)
  case atStart =>
    refine ⟨0, by omega, rfl, .slice none 0 0, ?_, World.ownsRow_nil _ _ _ _, ?_⟩
    · exact (Blk.new wq 92 (cfgCells (c.num + 1) (.slice none 0 0) c.o))
    · exact (Below.refl _ _).alloc (Nat.le_refl _) _
  case round =>
    obtain ⟨k, hk, rfl, so, hL⟩ := hrel
    obtain ⟨Ao, co, rfl⟩ := own_shape hL.ho
    clear q0 q1 q2 q3 q4 q5
    by_cases hlt : k < 4
    · have hup : Hid (upG c.gs ⟨3, grp, sh⟩ (k + 1) = if isG c.gs ⟨3, grp, sh⟩ (k + 1 : Nat) = true then upG c.gs ⟨3, grp, sh⟩ k ++ [((k + 1 : Nat) : Int)] else upG c.gs ⟨3, grp, sh⟩ k) := rfl
      have hlen := upG_length c.gs ⟨3, grp, sh⟩ k
      have hRx := HRX.out _ hL.hw
      obtain ⟨q0, q1, q2, q3, q4, q5⟩ := keep6 hRx.hc (Below.refl _ _)
      have y0 : wr.cell? ⟨w.heap.size + 1, 0, none⟩ = some (.int .i64 3) := hRx.hx.cell 0
      have y1 : wr.cell? ⟨w.heap.size + 1, 1, none⟩ = some (.int .i64 grp) := hRx.hx.cell 1
      have u1 : wr.cell? ⟨wq.heap.size, 1, none⟩ = some (.slice Ao (upG c.gs ⟨3, grp, sh⟩ k).length co) := hL.hb.cell 1
      have g1' := hL.hb.frozen 1
      have HRr := Lib.hid (HR.out.below hRx.hb)
      have HLL := Lib.hid hL
      have HLr := Lib.hid (hL.hw)
      clear hL hRx
      cases hgk : (grp == ((k : Int) + 1)) with
      | true =>
        have hi : Hid (isG c.gs ⟨3, grp, sh⟩ (k + 1 : Nat) = true) := by
          have e : (grp == ((k + 1 : Nat) : Int)) = true := by simpa using hgk
          unfold Hid isG; simp only; rw [e]; rfl
        have hup2 : Hid (upG c.gs ⟨3, grp, sh⟩ (k + 1) = upG c.gs ⟨3, grp, sh⟩ k ++ [((k + 1 : Nat) : Int)]) := by unfold Hid; rw [hup.out, hi.out]; rfl
        clear hup hi
        have hgc : grp = (k : Int) + 1 := by simpa using hgk
        have hin3 : inS ((k : Int) + 1) c.gs = true := by rw [← hgc]; exact HIN.out
        clear hgc
        generalize hU : upG c.gs ⟨3, grp, sh⟩ k = U at *
        have hone : Hid (∀ u ∈ [Value.int .i64 ((k : Int) + 1)], u.oneCell' = true) := by intro u hu; simp at hu; subst hu; rfl
        have hsz := HLL.out.hb.lt
        have HOo := Lib.hid (show wr.ownsRow (wq.heap.size + 1) 3 1 (.slice Ao U.length co) U.length (ints U) by have := HLL.out.ho; rw [hU] at this; exact this)
        clear hU
        go_wp2_with fail
        refine (rin_any _ c.gs ((k : Int) + 1) wr w.heap.size HRr.out (by omega)).mono ?_
        rintro e w2 ⟨rfl, rfl⟩
        rw [hin3]
        go_wp2_with (at_builtin; refine wpList_append_lies _ rfl (.tmp 132) (.tmp 134) _ rfl (wq.heap.size + 1) 3 i0 _ 1 8 Tryz.underlying43 hi0 hz0 hz1 hz2 rfl (by omega) (.slice Ao U.length co) U.length (ints U) rfl (HOo.out.alloc _) ⟨wr.heap.size, 0, none⟩ 1 1 [.int .i64 ((k : Int) + 1)] rfl rfl (news_box (by simp)) hone.out (by omega) (by unfold maxLen; omega) (by omega) (by simp; omega) (wr.heap.size + 1) (by simp) ?_; intro g2 cap2 w4 hown4 hg4 hat4 hlt4; have hb5 := (HLL.out.hb.alloc _).grown hg4 (fun e => own_blk_ne HOo.out HLL.out.hb (by decide) e.symm); have fr5 := hb5.frozen 1; have c5 : w4.cell? ⟨wq.heap.size, 1, none⟩ = some (.slice Ao U.length co) := hb5.cell 1)
        have hfin : Hid (RLx c ⟨3, grp, sh⟩ wq.heap.size wq (k + 1) (w4.setCell ⟨wq.heap.size, 1, none⟩ (.slice (some ⟨g2, 0, none⟩) (U.length + 1) cap2))) := by
          refine ⟨_, hb5.set_ 1 _, ?_, ?_⟩
          · rw [hup2.out]
            have hne : g2 ≠ wq.heap.size := fun e => own_blk_ne hown4 hb5 (by decide) (by rw [e]; rfl)
            have := (((Chg.refl (fun i => i = wq.heap.size) w4)).setCell (p := ⟨wq.heap.size, 1, none⟩) (fun _ => rfl) (.slice (some ⟨g2, 0, none⟩) (U.length + 1) cap2)).owns hown4 (fun k hk e => by simp [Value.ownBlock] at hk; omega)
            simpa [ints_append, ints] using this
          · exact (((((Chg.of_below (F := fun i => i = wq.heap.size) HLL.out.hw).trans (Chg.refl (fun i => i = wq.heap.size) wr) (fun _ _ h => h)).alloc _).grown hg4 (fun k hk hlt => by have := (HOo.out.lt k hk).1; omega)).setCell (fun _ => rfl) _).to_below (by intro i hi; omega) (Nat.le_refl _)
        clear hb5 hown4 hg4 hat4 hlt4 HLL HLr HOo HRr q0 q1 q2 q3 q4 q5 y0 y1 u1 g1'
        go_wp2_with fail
        go_roundw
        case rel => exact ⟨k + 1, by omega, by go_num, hfin.out⟩
        case measure => simp [intOf]; omega
      | false =>
        cases hin2 : inS ((k : Int) + 1) c.gs with
        | true =>
          have hi : Hid (isG c.gs ⟨3, grp, sh⟩ (k + 1 : Nat) = true) := by
            have e : (grp == ((k + 1 : Nat) : Int)) = false := by simpa using hgk
            unfold Hid isG; simp only; rw [e]; simpa using hin2
          have hup2 : Hid (upG c.gs ⟨3, grp, sh⟩ (k + 1) = upG c.gs ⟨3, grp, sh⟩ k ++ [((k + 1 : Nat) : Int)]) := by unfold Hid; rw [hup.out, hi.out]; rfl
          clear hup hi
          generalize hU : upG c.gs ⟨3, grp, sh⟩ k = U at *
          have hone : Hid (∀ u ∈ [Value.int .i64 ((k : Int) + 1)], u.oneCell' = true) := by intro u hu; simp at hu; subst hu; rfl
          have hsz := HLL.out.hb.lt
          have HOo := Lib.hid (show wr.ownsRow (wq.heap.size + 1) 3 1 (.slice Ao U.length co) U.length (ints U) by have := HLL.out.ho; rw [hU] at this; exact this)
          clear hU
          go_wp2_with fail
          refine (rin_any _ c.gs ((k : Int) + 1) wr w.heap.size HRr.out (by omega)).mono ?_
          rintro e w2 ⟨rfl, rfl⟩
          rw [hin2]
          go_wp2_with (at_builtin; refine wpList_append_lies _ rfl (.tmp 132) (.tmp 134) _ rfl (wq.heap.size + 1) 3 i0 _ 1 8 Tryz.underlying43 hi0 hz0 hz1 hz2 rfl (by omega) (.slice Ao U.length co) U.length (ints U) rfl (HOo.out.alloc _) ⟨wr.heap.size, 0, none⟩ 1 1 [.int .i64 ((k : Int) + 1)] rfl rfl (news_box (by simp)) hone.out (by omega) (by unfold maxLen; omega) (by omega) (by simp; omega) (wr.heap.size + 1) (by simp) ?_; intro g2 cap2 w4 hown4 hg4 hat4 hlt4; have hb5 := (HLL.out.hb.alloc _).grown hg4 (fun e => own_blk_ne HOo.out HLL.out.hb (by decide) e.symm); have fr5 := hb5.frozen 1; have c5 : w4.cell? ⟨wq.heap.size, 1, none⟩ = some (.slice Ao U.length co) := hb5.cell 1)
          have hfin : Hid (RLx c ⟨3, grp, sh⟩ wq.heap.size wq (k + 1) (w4.setCell ⟨wq.heap.size, 1, none⟩ (.slice (some ⟨g2, 0, none⟩) (U.length + 1) cap2))) := by
            refine ⟨_, hb5.set_ 1 _, ?_, ?_⟩
            · rw [hup2.out]
              have hne : g2 ≠ wq.heap.size := fun e => own_blk_ne hown4 hb5 (by decide) (by rw [e]; rfl)
              have := (((Chg.refl (fun i => i = wq.heap.size) w4)).setCell (p := ⟨wq.heap.size, 1, none⟩) (fun _ => rfl) (.slice (some ⟨g2, 0, none⟩) (U.length + 1) cap2)).owns hown4 (fun k hk e => by simp [Value.ownBlock] at hk; omega)
              simpa [ints_append, ints] using this
            · exact (((((Chg.of_below (F := fun i => i = wq.heap.size) HLL.out.hw).trans (Chg.refl (fun i => i = wq.heap.size) wr) (fun _ _ h => h)).alloc _).grown hg4 (fun k hk hlt => by have := (HOo.out.lt k hk).1; omega)).setCell (fun _ => rfl) _).to_below (by intro i hi; omega) (Nat.le_refl _)
          clear hb5 hown4 hg4 hat4 hlt4 HLL HLr HOo HRr q0 q1 q2 q3 q4 q5 y0 y1 u1 g1'
          go_wp2_with fail
          go_roundw
          case rel => exact ⟨k + 1, by omega, by go_num, hfin.out⟩
          case measure => simp [intOf]; omega
        | false =>
          have hi : Hid (isG c.gs ⟨3, grp, sh⟩ (k + 1 : Nat) = false) := by
            have e : (grp == ((k + 1 : Nat) : Int)) = false := by simpa using hgk
            unfold Hid isG; simp only; rw [e]; simpa using hin2
          have hup2 : Hid (upG c.gs ⟨3, grp, sh⟩ (k + 1) = upG c.gs ⟨3, grp, sh⟩ k) := by unfold Hid; rw [hup.out, hi.out]; rfl
          clear hup hi
          go_wp2_with fail
          refine (rin_any _ c.gs ((k : Int) + 1) wr w.heap.size HRr.out (by omega)).mono ?_
          rintro e w2 ⟨rfl, rfl⟩
          rw [hin2]
          go_wp2_with fail
          go_roundw
          case rel => exact ⟨k + 1, by omega, by go_num, .slice Ao (upG c.gs ⟨3, grp, sh⟩ k).length co, HLL.out.hb, by rw [hup2.out]; exact HLL.out.ho, HLL.out.hw⟩
          case measure => simp [intOf]; omega
    · obtain rfl : k = 4 := by omega
      have hRx := HRX.out _ hL.hw
      have hLb := hL.hb
      have hLo := hL.ho
      have hLw := hL.hw
      clear hL
      have hul := upG_length c.gs ⟨3, grp, sh⟩ 4
      have how0 : nextOwn c ⟨3, grp, sh⟩ = c.o.put sh.toNat grp := by unfold nextOwn; rw [if_pos rfl]
      rw [how0] at he
      have hsw : w.heap.size ≤ wq.heap.size := HRq.out.hb.size
      have hbq : w.heap.size + 2 < wq.heap.size := HRq.out.hz.lt
      have y0 : wr.cell? ⟨w.heap.size + 1, 0, none⟩ = some (.int .i64 3) := hRx.hx.cell 0
      have y1 : wr.cell? ⟨w.heap.size + 1, 1, none⟩ = some (.int .i64 grp) := hRx.hx.cell 1
      have y2 : wr.cell? ⟨w.heap.size + 1, 2, none⟩ = some (.int .i64 sh) := hRx.hx.cell 2
      have HE := Lib.hid he
      clear hupn HRF how0 he
      have h4 : sh = 0 ∨ sh = 1 ∨ sh = 2 ∨ sh = 3 := by omega
      clear s0 s4 s0b s4b ho
      rcases h4 with rfl | rfl | rfl | rfl
      · have he : Hid (nextS c ⟨3, grp, 0⟩ = (⟨c.num + 1, upG c.gs ⟨3, grp, 0⟩ 4, c.o.put 0 grp⟩, 0)) := HE.out
        clear HE
        generalize upG c.gs ⟨3, grp, 0⟩ 4 = S at *
        have ck : wr.cell? ⟨wq.heap.size, 2, none⟩ = some (.int .i64 (c.o.get 0)) := rblk_own hLb 0 (by omega)
        have fk : wr.frozen? ⟨wq.heap.size, 2, none⟩ = false := hLb.frozen 2
        have hk6 : Blk (wr.setCell ⟨wq.heap.size, 2, none⟩ (.int .i64 grp)) wq.heap.size 92 (cfgCells (c.num + 1) (.slice Ao S.length co) (c.o.put 0 grp)) := rblk_put hLb 0 (by omega) grp
        have hz8 := hRx.hz.far (p := ⟨wq.heap.size, 2, none⟩) (by simp; omega) (.int .i64 grp)
        have hb8 : Below w.heap.size w (wr.setCell ⟨wq.heap.size, 2, none⟩ (.int .i64 grp)) := ((Chg.of_below hRx.hb).setCell (F := fun i => i = wq.heap.size) (fun _ => rfl) _).to_below (by intro i hi; omega) (Nat.le_refl _)
        have ho8 := ((Chg.refl (fun i => i = wq.heap.size) wr).setCell (p := ⟨wq.heap.size, 2, none⟩) (fun _ => rfl) (.int .i64 grp)).owns hLo (fun k hk e => own_blk_ne hLo hLb (by decide) (by rw [hk, e]))
        have HK6 := Lib.hid hk6
        have HZ8 := Lib.hid hz8
        have HB8 := Lib.hid hb8
        have HO8 := Lib.hid ho8
        clear hk6 hz8 hb8 ho8 hLb hLo hLw hRx HRX HRq HR
        generalize c.o.put 0 grp = of at *
        go_upto_region 21 with fail
        clear ck fk y0 y1 y2
        generalize wr.setCell ⟨wq.heap.size, 2, none⟩ (.int .i64 grp) = w6 at *
        obtain ⟨e0, e1, e2, e3, e4, e5⟩ := keep6 HK6.out (Below.refl _ _)
        obtain ⟨z0, z1, z2, z3, z4, z5⟩ := keep6 HZ8.out (Below.refl _ _)
        have f0 := HZ8.out.frozen 0
        have f1 := HZ8.out.frozen 1
        have f2 := HZ8.out.frozen 2
        have f3 := HZ8.out.frozen 3
        have f4 := HZ8.out.frozen 4
        have f5 := HZ8.out.frozen 5
        go_wp2_with fail
        refine bodyPost_ret (v := .tuple #[(Cfg.mk (c.num + 1) S of).val (.slice Ao S.length co), .int .i64 0]) (by simp [results, Tryz.results33, go_sem, z0, z1, z2, z3, z4, z5, Cfg.val]) rfl ?_
        rw [he.out]
        exact ⟨_, rfl, rnext_end HB8.out HO8.out (by omega) _ HZ8.out _ (((((((Chg.refl (fun i => i = w.heap.size + 2) w6).setCell (fun _ => rfl) _).setCell (fun _ => rfl) _).setCell (fun _ => rfl) _).setCell (fun _ => rfl) _).setCell (fun _ => rfl) _).setCell (fun _ => rfl) _)⟩
      · have he : Hid (nextS c ⟨3, grp, 1⟩ = (⟨c.num + 1, upG c.gs ⟨3, grp, 1⟩ 4, c.o.put 1 grp⟩, 0)) := HE.out
        clear HE
        generalize upG c.gs ⟨3, grp, 1⟩ 4 = S at *
        have ck : wr.cell? ⟨wq.heap.size, 3, none⟩ = some (.int .i64 (c.o.get 1)) := rblk_own hLb 1 (by omega)
        have fk : wr.frozen? ⟨wq.heap.size, 3, none⟩ = false := hLb.frozen 3
        have hk6 : Blk (wr.setCell ⟨wq.heap.size, 3, none⟩ (.int .i64 grp)) wq.heap.size 92 (cfgCells (c.num + 1) (.slice Ao S.length co) (c.o.put 1 grp)) := rblk_put hLb 1 (by omega) grp
        have hz8 := hRx.hz.far (p := ⟨wq.heap.size, 3, none⟩) (by simp; omega) (.int .i64 grp)
        have hb8 : Below w.heap.size w (wr.setCell ⟨wq.heap.size, 3, none⟩ (.int .i64 grp)) := ((Chg.of_below hRx.hb).setCell (F := fun i => i = wq.heap.size) (fun _ => rfl) _).to_below (by intro i hi; omega) (Nat.le_refl _)
        have ho8 := ((Chg.refl (fun i => i = wq.heap.size) wr).setCell (p := ⟨wq.heap.size, 3, none⟩) (fun _ => rfl) (.int .i64 grp)).owns hLo (fun k hk e => own_blk_ne hLo hLb (by decide) (by rw [hk, e]))
        have HK6 := Lib.hid hk6
        have HZ8 := Lib.hid hz8
        have HB8 := Lib.hid hb8
        have HO8 := Lib.hid ho8
        clear hk6 hz8 hb8 ho8 hLb hLo hLw hRx HRX HRq HR
        generalize c.o.put 1 grp = of at *
        go_upto_region 21 with fail
        clear ck fk y0 y1 y2
        generalize wr.setCell ⟨wq.heap.size, 3, none⟩ (.int .i64 grp) = w6 at *
        obtain ⟨e0, e1, e2, e3, e4, e5⟩ := keep6 HK6.out (Below.refl _ _)
        obtain ⟨z0, z1, z2, z3, z4, z5⟩ := keep6 HZ8.out (Below.refl _ _)
        have f0 := HZ8.out.frozen 0
        have f1 := HZ8.out.frozen 1
        have f2 := HZ8.out.frozen 2
        have f3 := HZ8.out.frozen 3
        have f4 := HZ8.out.frozen 4
        have f5 := HZ8.out.frozen 5
        go_wp2_with fail
        refine bodyPost_ret (v := .tuple #[(Cfg.mk (c.num + 1) S of).val (.slice Ao S.length co), .int .i64 0]) (by simp [results, Tryz.results33, go_sem, z0, z1, z2, z3, z4, z5, Cfg.val]) rfl ?_
        rw [he.out]
        exact ⟨_, rfl, rnext_end HB8.out HO8.out (by omega) _ HZ8.out _ (((((((Chg.refl (fun i => i = w.heap.size + 2) w6).setCell (fun _ => rfl) _).setCell (fun _ => rfl) _).setCell (fun _ => rfl) _).setCell (fun _ => rfl) _).setCell (fun _ => rfl) _).setCell (fun _ => rfl) _)⟩
      · have he : Hid (nextS c ⟨3, grp, 2⟩ = (⟨c.num + 1, upG c.gs ⟨3, grp, 2⟩ 4, c.o.put 2 grp⟩, 0)) := HE.out
        clear HE
        generalize upG c.gs ⟨3, grp, 2⟩ 4 = S at *
        have ck : wr.cell? ⟨wq.heap.size, 4, none⟩ = some (.int .i64 (c.o.get 2)) := rblk_own hLb 2 (by omega)
        have fk : wr.frozen? ⟨wq.heap.size, 4, none⟩ = false := hLb.frozen 4
        have hk6 : Blk (wr.setCell ⟨wq.heap.size, 4, none⟩ (.int .i64 grp)) wq.heap.size 92 (cfgCells (c.num + 1) (.slice Ao S.length co) (c.o.put 2 grp)) := rblk_put hLb 2 (by omega) grp
        have hz8 := hRx.hz.far (p := ⟨wq.heap.size, 4, none⟩) (by simp; omega) (.int .i64 grp)
        have hb8 : Below w.heap.size w (wr.setCell ⟨wq.heap.size, 4, none⟩ (.int .i64 grp)) := ((Chg.of_below hRx.hb).setCell (F := fun i => i = wq.heap.size) (fun _ => rfl) _).to_below (by intro i hi; omega) (Nat.le_refl _)
        have ho8 := ((Chg.refl (fun i => i = wq.heap.size) wr).setCell (p := ⟨wq.heap.size, 4, none⟩) (fun _ => rfl) (.int .i64 grp)).owns hLo (fun k hk e => own_blk_ne hLo hLb (by decide) (by rw [hk, e]))
        have HK6 := Lib.hid hk6
        have HZ8 := Lib.hid hz8
        have HB8 := Lib.hid hb8
        have HO8 := Lib.hid ho8
        clear hk6 hz8 hb8 ho8 hLb hLo hLw hRx HRX HRq HR
        generalize c.o.put 2 grp = of at *
        go_upto_region 21 with fail
        clear ck fk y0 y1 y2
        generalize wr.setCell ⟨wq.heap.size, 4, none⟩ (.int .i64 grp) = w6 at *
        obtain ⟨e0, e1, e2, e3, e4, e5⟩ := keep6 HK6.out (Below.refl _ _)
        obtain ⟨z0, z1, z2, z3, z4, z5⟩ := keep6 HZ8.out (Below.refl _ _)
        have f0 := HZ8.out.frozen 0
        have f1 := HZ8.out.frozen 1
        have f2 := HZ8.out.frozen 2
        have f3 := HZ8.out.frozen 3
        have f4 := HZ8.out.frozen 4
        have f5 := HZ8.out.frozen 5
        go_wp2_with fail
        refine bodyPost_ret (v := .tuple #[(Cfg.mk (c.num + 1) S of).val (.slice Ao S.length co), .int .i64 0]) (by simp [results, Tryz.results33, go_sem, z0, z1, z2, z3, z4, z5, Cfg.val]) rfl ?_
        rw [he.out]
        exact ⟨_, rfl, rnext_end HB8.out HO8.out (by omega) _ HZ8.out _ (((((((Chg.refl (fun i => i = w.heap.size + 2) w6).setCell (fun _ => rfl) _).setCell (fun _ => rfl) _).setCell (fun _ => rfl) _).setCell (fun _ => rfl) _).setCell (fun _ => rfl) _).setCell (fun _ => rfl) _)⟩
      · have he : Hid (nextS c ⟨3, grp, 3⟩ = (⟨c.num + 1, upG c.gs ⟨3, grp, 3⟩ 4, c.o.put 3 grp⟩, 0)) := HE.out
        clear HE
        generalize upG c.gs ⟨3, grp, 3⟩ 4 = S at *
        have ck : wr.cell? ⟨wq.heap.size, 5, none⟩ = some (.int .i64 (c.o.get 3)) := rblk_own hLb 3 (by omega)
        have fk : wr.frozen? ⟨wq.heap.size, 5, none⟩ = false := hLb.frozen 5
        have hk6 : Blk (wr.setCell ⟨wq.heap.size, 5, none⟩ (.int .i64 grp)) wq.heap.size 92 (cfgCells (c.num + 1) (.slice Ao S.length co) (c.o.put 3 grp)) := rblk_put hLb 3 (by omega) grp
        have hz8 := hRx.hz.far (p := ⟨wq.heap.size, 5, none⟩) (by simp; omega) (.int .i64 grp)
        have hb8 : Below w.heap.size w (wr.setCell ⟨wq.heap.size, 5, none⟩ (.int .i64 grp)) := ((Chg.of_below hRx.hb).setCell (F := fun i => i = wq.heap.size) (fun _ => rfl) _).to_below (by intro i hi; omega) (Nat.le_refl _)
        have ho8 := ((Chg.refl (fun i => i = wq.heap.size) wr).setCell (p := ⟨wq.heap.size, 5, none⟩) (fun _ => rfl) (.int .i64 grp)).owns hLo (fun k hk e => own_blk_ne hLo hLb (by decide) (by rw [hk, e]))
        have HK6 := Lib.hid hk6
        have HZ8 := Lib.hid hz8
        have HB8 := Lib.hid hb8
        have HO8 := Lib.hid ho8
        clear hk6 hz8 hb8 ho8 hLb hLo hLw hRx HRX HRq HR
        generalize c.o.put 3 grp = of at *
        go_upto_region 21 with fail
        clear ck fk y0 y1 y2
        generalize wr.setCell ⟨wq.heap.size, 5, none⟩ (.int .i64 grp) = w6 at *
        obtain ⟨e0, e1, e2, e3, e4, e5⟩ := keep6 HK6.out (Below.refl _ _)
        obtain ⟨z0, z1, z2, z3, z4, z5⟩ := keep6 HZ8.out (Below.refl _ _)
        have f0 := HZ8.out.frozen 0
        have f1 := HZ8.out.frozen 1
        have f2 := HZ8.out.frozen 2
        have f3 := HZ8.out.frozen 3
        have f4 := HZ8.out.frozen 4
        have f5 := HZ8.out.frozen 5
        go_wp2_with fail
        refine bodyPost_ret (v := .tuple #[(Cfg.mk (c.num + 1) S of).val (.slice Ao S.length co), .int .i64 0]) (by simp [results, Tryz.results33, go_sem, z0, z1, z2, z3, z4, z5, Cfg.val]) rfl ?_
        rw [he.out]
        exact ⟨_, rfl, rnext_end HB8.out HO8.out (by omega) _ HZ8.out _ (((((((Chg.refl (fun i => i = w.heap.size + 2) w6).setCell (fun _ => rfl) _).setCell (fun _ => rfl) _).setCell (fun _ => rfl) _).setCell (fun _ => rfl) _).setCell (fun _ => rfl) _).setCell (fun _ => rfl) _)⟩

end Go.Proofs.YtijacbnoemjgcaaGreatDoor
