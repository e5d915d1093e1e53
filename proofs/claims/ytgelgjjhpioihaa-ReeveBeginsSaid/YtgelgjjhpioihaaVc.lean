/- Reeve: all configurations of a chain; Chain. -/
import Derived.Test.YtgelgjjhpioihaaVb
namespace Go.Proofs.Ytgelgjjhpioihaa
open Go.RowKit Go.Shelf
set_option linter.unusedVariables false
set_option linter.unusedSimpArgs false

/-- Configurations of one's own: v is their slice (nil where there are none). -/
structure RowC (base : Nat) (w : World) (v : Value) (ps : List CfgV) : Prop where
  row : w.ownsRow base 40 6 v ps.length (cellsP ps)
  own : ∀ p ∈ ps, w.ownsRow base 3 1 p.2 p.1.gs.length (ints p.1.gs)
section
variable {base : Nat} {w w' : World} {v : Value} {ps : List CfgV} {F : Nat → Prop}
theorem RowC.nil (base : Nat) (w : World) : RowC base w (.slice none 0 0) [] := ⟨World.ownsRow_nil _ _ _ _, by simp⟩
def CApart (w : World) (F : Nat → Prop) : Prop := ∀ i, i < w.heap.size → F i → ∃ t cs, Blk w i t cs ∧ t ≠ 40 ∧ t ≠ 3
theorem RowC.chg (hp : RowC base w v ps) (hc : Chg F w w') (ha : CApart w F) : RowC base w' v ps := by
  refine ⟨hc.owns hp.row (fun g hg hF => ?_), fun p hpm => hc.owns (hp.own p hpm) (fun g hg hF => ?_)⟩
  · obtain ⟨t, cs, hb, h2, h3⟩ := ha g (hp.row.lt g hg).2 hF
    exact own_blk_ne hp.row hb (fun e => h2 e.symm) hg
  · obtain ⟨t, cs, hb, h2, h3⟩ := ha g ((hp.own p hpm).lt g hg).2 hF
    exact own_blk_ne (hp.own p hpm) hb (fun e => h3 e.symm) hg
theorem RowC.below (hp : RowC base w v ps) (hb : Below w.heap.size w w') : RowC base w' v ps := hp.chg (Chg.of_below (F := fun _ => False) hb) (fun _ _ h => h.elim)
theorem RowC.weaken {base' : Nat} (hp : RowC base w v ps) (hb : base' ≤ base) : RowC base' w v ps := ⟨own_weaken hp.row hb, fun p hpm => own_weaken (hp.own p hpm) hb⟩
/-- Configurations that read: an argument's, or one's own. -/
structure CRd (w : World) (B : Nat) (v : Value) (ps : List CfgV) : Prop where
  row : Rd w B 6 v ps.length (cellsP ps)
  own : ∀ p ∈ ps, Rd w B 1 p.2 p.1.gs.length (ints p.1.gs)
theorem CRd.below {B : Nat} (h : CRd w B v ps) (hb : Below B w w') : CRd w' B v ps := ⟨h.row.below hb, fun p hp => (h.own p hp).below hb⟩
theorem CRd.more {B B' : Nat} (h : CRd w B v ps) (hb : B ≤ B') : CRd w B' v ps := ⟨h.row.more hb, fun p hp => (h.own p hp).more hb⟩
theorem RowC.rd (hp : RowC base w v ps) : CRd w w.heap.size v ps := ⟨Rd.of_own hp.row, fun p hpm => Rd.of_own (hp.own p hpm)⟩
theorem CRd.get {B : Nat} (h : CRd w B v ps) {k : Nat} (hk : k < ps.length) :
    ∃ g off c, v = .slice (some ⟨g, off, none⟩) ps.length c ∧ g < B ∧ w.cell? ⟨g, off + k * 6, none⟩ = some (.int .i64 ps[k].1.num) ∧ w.cell? ⟨g, off + k * 6 + 1, none⟩ = some ps[k].2 ∧ w.cell? ⟨g, off + k * 6 + 2, none⟩ = some (.int .i64 ps[k].1.o.a)
      ∧ w.cell? ⟨g, off + k * 6 + 3, none⟩ = some (.int .i64 ps[k].1.o.b) ∧ w.cell? ⟨g, off + k * 6 + 4, none⟩ = some (.int .i64 ps[k].1.o.c) ∧ w.cell? ⟨g, off + k * 6 + 5, none⟩ = some (.int .i64 ps[k].1.o.d) := by
  obtain ⟨_, A, c, rfl, hnc, h0⟩ := h.row
  rcases h0 with h0 | ⟨g, off, rfl, hg, hc⟩
  · omega
  · have e : ∀ i, i < 6 → ∀ u, (cfgCells ps[k].1.num ps[k].2 ps[k].1.o)[i]? = some u → w.cell? ⟨g, off + (k * 6 + i), none⟩ = some u := fun i hi u hu => hc _ _ ((cellsP_get ps k ps[k] (List.getElem?_eq_getElem hk) i hi).trans hu)
    have e0 := e 0 (by omega) _ rfl
    rw [Nat.add_zero] at e0
    exact ⟨g, off, c, rfl, hg, e0, by rw [Nat.add_assoc]; exact e 1 (by omega) _ rfl, by rw [Nat.add_assoc]; exact e 2 (by omega) _ rfl, by rw [Nat.add_assoc]; exact e 3 (by omega) _ rfl, by rw [Nat.add_assoc]; exact e 4 (by omega) _ rfl, by rw [Nat.add_assoc]; exact e 5 (by omega) _ rfl⟩
end

/-- Behind an append of one configuration more. -/
theorem crow_push {base : Nat} {v v2 : Value} {ps : List CfgV} {wc w2 : World} {o : Obj} (hp : RowC base wc v ps) (p : CfgV) (hpo : wc.ownsRow base 3 1 p.2 p.1.gs.length (ints p.1.gs))
    (hg : (wc.alloc o).grownBy w2 v.ownBlock) (ho : w2.ownsRow base 40 6 v2 (ps.length + 1) (cellsP ps ++ CfgV.cells p)) : RowC base w2 v2 (ps ++ [p]) := by
  have hch : Chg (fun i => v.ownBlock = some i) wc w2 := (((Chg.refl (fun i => v.ownBlock = some i) wc)).alloc o).grown hg (fun k hk _ => hk)
  have hint : ∀ q : CfgV, wc.ownsRow base 3 1 q.2 q.1.gs.length (ints q.1.gs) → w2.ownsRow base 3 1 q.2 q.1.gs.length (ints q.1.gs) := fun q hq => hch.owns hq (fun k hk hF => by
    rcases hp.row.2 with ⟨hv, h0⟩ | ⟨g', cap', cur', hv', _, hb', _⟩
    · rw [hv] at hF; simp [Value.ownBlock] at hF
    · rw [hv'] at hF
      simp only [Value.ownBlock, Option.some.injEq] at hF
      subst hF
      exact own_blk_ne hq hb' (by decide) hk)
  refine ⟨?_, ?_⟩
  · rw [cellsP_append, List.length_append]
    simpa [cellsP] using ho
  · intro q hq
    rcases List.mem_append.1 hq with hq | hq
    · exact hint q (hp.own q hq)
    · simp at hq; subst hq; exact hint q hpo

/-- At the head of the loop over the numbers. -/
structure AllAt (w : World) (cs : List Cfg) (k : Nat) (v : Value) (wr : World) (ps : List CfgV) : Prop where
  hb : Below w.heap.size w wr
  hr : RowC w.heap.size wr v ps
  hp : ps.map (·.1) = cs.take k
  hk : k ≤ cs.length

theorem getS_in (cs : List Cfg) (k : Nat) (hk : k < cs.length) : getS cs (k : Int) = (cs[k], 0) := by
  unfold getS
  rw [if_pos (by omega), Int.toNat_natCast, List.getD_eq_getElem?_getD, List.getElem?_eq_getElem hk]; rfl
theorem getS_out (cs : List Cfg) (num : Int) (h : num < 0 ∨ (cs.length : Int) ≤ num) : getS cs num = (cfg0, 6) := by
  unfold getS
  rw [if_neg (by omega)]

def AllPost (w : World) (cs : List Cfg) (e : Ending) (w' : World) : Prop := ∃ v' ps', e = .returned v' ∧ RowC w.heap.size w' v' ps' ∧ ps'.map (·.1) = cs ∧ Below w.heap.size w w'

set_option maxHeartbeats 2000000 in
set_option maxRecDepth 100000 in
theorem all_any (base h : Nat) (cs : List Cfg) (w : World) (hp : Chn base w h cs) (h41 : cs.length ≤ 41) :
    Calls Try.prog 21 #[.func (.func 22) #[.pointer (some ⟨h, 0, none⟩)] #[]] w (AllPost w cs) := by
  obtain ⟨i0, hi0, hz0, hz1, hz2⟩ := info_parts cfg_info
  have hstart : Hid (∃ ps, AllAt w cs 0 (.slice none 0 0) w ps) := ⟨[], Below.refl _ _, RowC.nil _ _, rfl, Nat.zero_le _⟩
  have HCN := Lib.hid hp
  have eg := enters_of Try.func22 (by kernel_rfl) rfl
  clear hp
  go_enter Try.func21, Try.ntmps21
  go_wp2_with fail
  go_loopw [3, 4] (fun v i wr => ∃ k : Nat, k ≤ 41 ∧ i = .int .i64 k ∧ Hid (∃ ps, AllAt w cs k v wr ps)) (fun _ i _ => 41 - (intOf i).toNat)
  case atStart => exact ⟨0, Nat.zero_le _, rfl, hstart.out⟩
  case round =>
    obtain ⟨k, hk41, rfl, hI⟩ := hrel
    clear hstart
    obtain ⟨ps, hA⟩ := hI.out
    obtain ⟨wo, rfl⟩ : ∃ wo : World, wo = wr := ⟨_, rfl⟩
    obtain ⟨Au, cu, rfl⟩ := own_shape hA.hr.row
    have hget := get_any base h cs k wo (HCN.out.below hA.hb) (by omega)
    unfold GivesCE at hget
    have HA := Lib.hid hA
    clear hA hI
    by_cases hlt : k < cs.length
    · rw [getS_in cs k hlt] at hget
      have HT : Hid (cs.take (k + 1) = cs.take k ++ [cs[k]]) := List.take_succ_eq_append_getElem hlt
      generalize cs[k] = cf at *
      have HG := Lib.hid hget
      clear hget
      go_wp2_with fail
      refine HG.out.mono ?_
      rintro e w2 ⟨s2, rfl, ho2, hb2⟩
      obtain ⟨A2, c2, rfl⟩ := own_shape ho2
      have HR := Lib.hid (HA.out.hr.below hb2)
      have HB := Lib.hid (HA.out.hb.trans (hb2.mono HA.out.hb.size))
      have HO := Lib.hid (own_weaken (base' := w.heap.size) ho2 HA.out.hb.size)
      have hpl : Hid (ps.length = k) := by unfold Hid; have := congrArg List.length HA.out.hp; rw [List.length_map, List.length_take] at this; omega
      have hwz : w.heap.size ≤ w2.heap.size := HB.out.size
      clear ho2 hb2 HG
      unfold Cfg.val
      simp only
      have hpl2 : ps.length ≤ 41 := by have := hpl.out; omega
      go_upto_region 5 with fail
      have hbk : Blk (w2.alloc (.cells #[.int .i64 cf.num, .slice A2 cf.gs.length c2, .int .i64 cf.o.a, .int .i64 cf.o.b, .int .i64 cf.o.c, .int .i64 cf.o.d] 40)) w2.heap.size 40 (cfgCells cf.num (.slice A2 cf.gs.length c2) cf.o) := Blk.new w2 _ _
      have hbl : Below w2.heap.size w2 (w2.alloc (.cells #[.int .i64 cf.num, .slice A2 cf.gs.length c2, .int .i64 cf.o.a, .int .i64 cf.o.b, .int .i64 cf.o.c, .int .i64 cf.o.d] 40)) := (Below.refl _ _).alloc (Nat.le_refl _) _
      generalize w2.alloc (.cells #[.int .i64 cf.num, .slice A2 cf.gs.length c2, .int .i64 cf.o.a, .int .i64 cf.o.b, .int .i64 cf.o.c, .int .i64 cf.o.d] 40) = W at *
      have HRW := Lib.hid (HR.out.below hbl)
      have HOW := Lib.hid (own_below HO.out hbl)
      have HBW := Lib.hid (HB.out.trans (hbl.mono hwz))
      have HRO : Hid (∀ o, (W.alloc o).ownsRow w.heap.size 40 6 (.slice Au ps.length cu) ps.length (cellsP ps)) := fun o => HRW.out.row.alloc o
      obtain ⟨z0, z1, z2, z3, z4, z5⟩ := keep6 hbk (Below.refl _ _)
      have hlw : w2.heap.size < W.heap.size := hbk.lt
      have hww : w.heap.size ≤ W.heap.size := by omega
      have hone : Hid (∀ u ∈ CfgV.cells (cf, .slice A2 cf.gs.length c2), u.oneCell' = true) := by intro u hu; simp [CfgV.cells, cfgCells] at hu; rcases hu with rfl | rfl | rfl | rfl | rfl | rfl <;> rfl
      clear hbk hbl HR HO HB
      go_wp2_with (at_builtin; refine wpList_append_lies _ rfl (.tmp 18) (.tmp 20) _ rfl w.heap.size 40 i0 _ 6 64 Try.underlying24 hi0 hz0 hz1 hz2 rfl (by omega) (.slice Au ps.length cu) ps.length (cellsP ps) rfl (HRO.out _) ⟨W.heap.size, 0, none⟩ 1 1 (CfgV.cells (cf, .slice A2 cf.gs.length c2)) rfl rfl (news_box (by simp)) hone.out (by omega) (by unfold maxLen; omega) (by omega) (by simp; omega) (W.heap.size + 1) (by simp) ?_; intro g2 cap2 w4 hown4 hg4 hat4 hlt4)
      have hfin : Hid (∃ ps', AllAt w cs (k + 1) (.slice (some ⟨g2, 0, none⟩) (ps.length + 1) cap2) w4 ps') := by
        refine ⟨ps ++ [(cf, .slice A2 cf.gs.length c2)], ?_, ?_, ?_, by omega⟩
        · exact (((Chg.of_below (F := fun i => w.heap.size ≤ i) HBW.out).alloc _).grown hg4 (fun j hj _ => (HRW.out.row.lt j hj).1)).to_below (fun i hi h => by omega) (Nat.le_refl _)
        · exact crow_push HRW.out (cf, .slice A2 cf.gs.length c2) HOW.out hg4 hown4
        · rw [List.map_append, HA.out.hp, HT.out]; rfl
      clear hown4 hg4 hat4 hlt4 z0 z1 z2 z3 z4 z5
      go_wp2_with fail
      go_roundw
      case rel => exact ⟨k + 1, by omega, by go_num, hfin⟩
      case measure => simp [intOf]; omega
    · rw [getS_out cs k (by omega)] at hget
      have HG := Lib.hid hget
      clear hget
      go_wp2_with fail
      refine HG.out.mono ?_
      rintro e w2 ⟨s2, rfl, ho2, hb2⟩
      obtain ⟨A2, c2, rfl⟩ := own_shape ho2
      have HR := Lib.hid (HA.out.hr.below hb2)
      have HB := Lib.hid (HA.out.hb.trans (hb2.mono HA.out.hb.size))
      have HP : Hid (ps.map (·.1) = cs) := by unfold Hid; rw [HA.out.hp, List.take_of_length_le (by omega)]
      clear ho2 hb2 HG
      unfold Cfg.val
      simp only [cfg0]
      go_wp2_with fail
      go_ret
      exact ⟨_, ps, rfl, HR.out.below ((Below.refl _ _).alloc (Nat.le_refl _) _), HP.out, HB.out.alloc HB.out.size _⟩


def ChainPost (w : World) (l : List Rul) (e : Ending) (w' : World) : Prop :=
  ∃ v' ps', e = .returned (.tuple #[v', .int .i64 (if 0 ≤ (judgeS [cfg0] l 0).2 then 7 else 0)]) ∧ RowC w.heap.size w' v' ps' ∧ ps'.map (·.1) = (if 0 ≤ (judgeS [cfg0] l 0).2 then [] else (judgeS [cfg0] l 0).1) ∧ Below w.heap.size w w'

set_option maxHeartbeats 2000000 in
set_option maxRecDepth 100000 in
theorem chain_any (l : List Rul) (v : Value) (w : World) (hr : Rd w w.heap.size 6 v l.length (cellsU l)) (hm : l.length ≤ 100) :
    Calls Try.prog 8 #[v] w (ChainPost w l) := by
  have HR := Lib.hid hr
  obtain ⟨_, A, cc, rfl, hncc, _⟩ := hr
  have hj := judged_any l _ w HR.out (by omega)
  have hlo : -1 ≤ (judgeS [cfg0] l 0).2 := by rcases judge_at l [cfg0] 0 with h | h <;> omega
  unfold ChainPost
  generalize judgeS [cfg0] l 0 = r at *
  obtain ⟨cs, at'⟩ := r
  simp only at hj hlo ⊢
  have HJ := Lib.hid hj
  clear hj
  by_cases h0 : 0 ≤ at'
  · rw [if_pos h0, if_pos h0]
    go_enter Try.func8, Try.ntmps8
    go_wp2_with fail
    refine HJ.out.mono ?_
    rintro e w1 ⟨rfl, hc, h41, hb⟩
    go_wp2_with fail
    go_ret2
    exact ⟨_, [], rfl, RowC.nil _ _, rfl, hb⟩
  · rw [if_neg h0, if_neg h0]
    go_enter Try.func8, Try.ntmps8
    go_wp2_with fail
    refine HJ.out.mono ?_
    rintro e w1 ⟨rfl, hc, h41, hb⟩
    have HB := Lib.hid hb
    have ha := all_any _ _ cs w1 hc h41
    clear hb hc
    go_wp2_with fail
    refine ha.mono ?_
    rintro e w2 ⟨v', ps', rfl, hrow, hmap, hb2⟩
    go_wp2_with fail
    go_ret2
    exact ⟨_, ps', rfl, hrow.weaken HB.out.size, hmap, HB.out.trans (hb2.mono HB.out.size)⟩

end Go.Proofs.Ytgelgjjhpioihaa
