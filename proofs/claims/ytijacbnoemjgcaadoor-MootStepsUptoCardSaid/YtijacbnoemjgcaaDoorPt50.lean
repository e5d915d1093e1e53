/- MootSteps: the law's walk. -/
import Derived.Test.YtijacbnoemjgcaaDoorPt47
import Derived.Test.YtijacbnoemjgcaaDoorPt48
import Derived.Test.YtijacbnoemjgcaaDoorPt42
import Derived.Test.YtijacbnoemjgcaaDoorPt49
set_option linter.unusedVariables false
set_option linter.unusedSimpArgs false
set_option linter.unnecessarySimpa false
namespace Go.Proofs.YtijacbnoemjgcaaDoor
open Go.RowKit Go.Shelf

theorem RMtP.mm {base base' b : Nat} {w w' : World} {lv cv : Value} {L : List Cmd} {C : List Cli} (h : RMtP base w b lv cv L C) (hc : Chg (MMine base' w) w w') : RMtP base w' b lv cv L C := by
  refine ⟨h.box.chg hc (fun hF => ?_), hc.owns h.row (fun g hg hF => ?_), hc.owns h.cli (fun g hg hF => ?_), h.hb⟩
  · obtain ⟨_, t, cs, hb, ht | ht | ht | ht⟩ := hF <;> subst ht <;> exact Blk.ne_ h.box hb (by decide) rfl
  · obtain ⟨_, t, cs, hb, ht | ht | ht | ht⟩ := hF <;> subst ht <;> exact own_blk_ne h.row hb (by decide) hg
  · obtain ⟨_, t, cs, hb, ht | ht | ht | ht⟩ := hF <;> subst ht <;> exact own_blk_ne h.cli hb (by decide) hg
theorem Moot.rm {base base' m : Nat} {w w' : World} {cs : List Cfg} {tk : List Cmd} {cl : Cls} (hp : Moot base w m cs tk cl) (hc : Chg (RMine base' w) w w') : Moot base w' m cs tk cl :=
  hp.chg hc (fun i hi hF => by
    obtain ⟨_, t, cs, hb, ht | ht | ht⟩ := hF <;> subst ht
    · exact ⟨_, _, hb, by decide, by decide, by decide, by decide, by decide⟩
    · exact ⟨_, _, hb, by decide, by decide, by decide, by decide, by decide⟩
    · exact ⟨_, _, hb, by decide, by decide, by decide, by decide, by decide⟩)
/-- At the head of the loop over the steps. -/
structure StAt (w : World) (mm rb k : Nat) (wr : World) (s : Mt) (C : List Cli) (lv cv : Value) : Prop where
  hp : Moot w.heap.size wr mm s.cs s.tk s.cl
  hr : RMtP w.heap.size wr rb lv cv s.tk C
  ok : MtOk s
  ag : AgC s.cl C
  hC : C.length ≤ k
  hb : Below w.heap.size w wr
theorem keep5 {w w' : World} {g : Nat} {t : TypeId} {a b c d e : Value} (h : Blk w g t #[a, b, c, d, e]) (hb : Below w.heap.size w w') : w'.cell? ⟨g, 0, none⟩ = some a ∧ w'.cell? ⟨g, 1, none⟩ = some b ∧ w'.cell? ⟨g, 2, none⟩ = some c ∧ w'.cell? ⟨g, 3, none⟩ = some d ∧ w'.cell? ⟨g, 4, none⟩ = some e :=
  ⟨(h.below hb h.lt).cell 0, (h.below hb h.lt).cell 1, (h.below hb h.lt).cell 2, (h.below hb h.lt).cell 3, (h.below hb h.lt).cell 4⟩

theorem Moot.told {base g m : Nat} {w : World} {cs : List Cfg} {tk : List Cmd} {cl : Cls} (h : Moot base w m cs tk cl) {ks : Array Value} (hk : Blk w g 39 ks) (x y z : Value) :
    Moot base (((w.setCell ⟨g, 0, none⟩ x).setCell ⟨g, 1, none⟩ y).setCell ⟨g, 2, none⟩ z) m cs tk cl := by
  have hc : Chg (fun i => i = g) w (((w.setCell ⟨g, 0, none⟩ x).setCell ⟨g, 1, none⟩ y).setCell ⟨g, 2, none⟩ z) := (((Chg.refl (fun i => i = g) w).setCell (p := ⟨g, 0, none⟩) (fun _ => rfl) x).setCell (p := ⟨g, 1, none⟩) (fun _ => rfl) y).setCell (p := ⟨g, 2, none⟩) (fun _ => rfl) z
  exact h.chg hc (fun i hi e => ⟨_, _, e ▸ hk, by decide, by decide, by decide, by decide, by decide⟩)
theorem keep6row {W w' : World} {g m : Nat} {p : CfgV} {base : Nat} {v : Value} {ps : List CfgV} (hp : RowP base W v ps) (hv : ∃ n c, v = .slice (some ⟨g, 0, none⟩) n c) (hm : ps[m]? = some p) (h : Below W.heap.size W w') :
    w'.cell? ⟨g, m * 6, none⟩ = some (.int .i64 p.1.num) ∧ w'.cell? ⟨g, m * 6 + 1, none⟩ = some p.2 ∧ w'.cell? ⟨g, m * 6 + 2, none⟩ = some (.int .i64 p.1.o.a) ∧ w'.cell? ⟨g, m * 6 + 3, none⟩ = some (.int .i64 p.1.o.b) ∧ w'.cell? ⟨g, m * 6 + 4, none⟩ = some (.int .i64 p.1.o.c) ∧ w'.cell? ⟨g, m * 6 + 5, none⟩ = some (.int .i64 p.1.o.d) := by
  obtain ⟨g', c', hv', _, hg', e0, e1, e2, e3, e4, e5⟩ := hp.get hm
  obtain ⟨n, c, hv⟩ := hv
  rw [hv] at hv'
  injection hv' with hv' _ _
  injection hv' with hv'
  injection hv' with hv' _ _
  subst hv'
  have k := fun (i : Nat) (u : Value) (e : W.cell? ⟨g, i, none⟩ = some u) => (h.cell (p := ⟨g, i, none⟩) hg').trans e
  exact ⟨k _ _ e0, k _ _ e1, k _ _ e2, k _ _ e3, k _ _ e4, k _ _ e5⟩
theorem getS_cases (cs : List Cfg) (num : Int) : (∃ q : Nat, ∃ h : q < cs.length, num = q ∧ getS cs num = (cs[q], 0)) ∨ ((num < 0 ∨ (cs.length : Int) ≤ num) ∧ getS cs num = (cfg0, 6)) := by
  by_cases h : 0 ≤ num ∧ num < cs.length
  · obtain ⟨q, rfl⟩ : ∃ q : Nat, num = q := ⟨num.toNat, by omega⟩
    exact .inl ⟨q, by omega, rfl, getS_in2 cs q (by omega)⟩
  · refine .inr ⟨by omega, ?_⟩
    unfold getS
    rw [if_neg h]
/-- Behind the two Do's. -/
def AfP (w : World) (mm rb k tb : Nat) (s : Mt) (ra : Int) (rn : Bool) (re : Int) (wc : World) : Prop := ∃ lv cv C, Blk wc tb 39 #[.int .i64 ra, .bool rn, .int .i64 re] ∧ StAt w mm rb (k + 1) wc s C lv cv
theorem afp_new {w w4 : World} {mm rb k : Nat} {s : Mt} {C : List Cli} {lv cv : Value} (ra : Int) (rn : Bool) (re : Int) (h : StAt w mm rb (k + 1) w4 s C lv cv) : AfP w mm rb k w4.heap.size s ra rn re (w4.alloc (.cells #[.int .i64 ra, .bool rn, .int .i64 re] 39)) := by
  have hba := (Below.refl w4.heap.size w4).alloc (Nat.le_refl _) (.cells #[.int .i64 ra, .bool rn, .int .i64 re] 39)
  exact ⟨lv, cv, C, Blk.new w4 _ _, h.hp.below hba, h.hr.below hba, h.ok, h.ag, h.hC, h.hb.trans (hba.mono h.hb.size)⟩
theorem afp_old {w w4 : World} {mm rb k tb : Nat} {s : Mt} {C : List Cli} {lv cv : Value} (ra : Int) (rn : Bool) (re : Int) (h : StAt w mm rb (k + 1) w4 s C lv cv) (hz : Blk w4 tb 39 #[.int .i64 0, .bool false, .int .i64 0]) (ht : w.heap.size ≤ tb) :
    AfP w mm rb k tb s ra rn re (((w4.setCell ⟨tb, 0, none⟩ (.int .i64 ra)).setCell ⟨tb, 1, none⟩ (.bool rn)).setCell ⟨tb, 2, none⟩ (.int .i64 re)) :=
  ⟨lv, cv, C, ((hz.set_ 0 _).set_ 1 _).set_ 2 _, h.hp.told hz _ _ _, h.hr.told hz (by decide) _ _ _, h.ok, h.ag, h.hC, below_set3U h.hb _ _ _ ht⟩
theorem toldC {w1 w2 : World} (h : Below (w1.alloc (.cells #[.int .i64 0, .bool false, .int .i64 0] 39)).drew.heap.size (w1.alloc (.cells #[.int .i64 0, .bool false, .int .i64 0] 39)).drew w2) : Blk w2 w1.heap.size 39 #[.int .i64 0, .bool false, .int .i64 0] :=
  Blk.below ((Blk.new w1 _ _).drew) h (by simp)
theorem rm_new {base : Nat} {w1 w2 : World} (h : Chg (RMine base (w1.alloc (.cells #[.int .i64 0, .bool false, .int .i64 0] 39))) (w1.alloc (.cells #[.int .i64 0, .bool false, .int .i64 0] 39)) w2) : Blk w2 w1.heap.size 39 #[.int .i64 0, .bool false, .int .i64 0] := rm_keep h (Blk.new w1 _ _) (by decide)

set_option maxHeartbeats 4000000 in
set_option maxRecDepth 100000 in
theorem msteps_law (l : List Stp) (num : Int) (v : Value) (w : World) (hl : Lay w) (hr : Rd w w.heap.size 5 v l.length (cellsS l)) (hm : l.length ≤ 1048576) (hn : -9223372036854775808 ≤ num ∧ num ≤ 9223372036854775807) :
    Calls Tryd.prog 3 #[v, .int .i64 num] w fun e w' => e = .returned (.bool true) ∧ Below w.heap.size w w' := by
  have HR := Lib.hid hr
  obtain ⟨_, A, cc, rfl, hncc, _⟩ := hr
  by_cases hbig : 80 < l.length
  · have hb2 : (80 : Int) < (l.length : Int) := by omega
    go_enter Tryd.func3, Tryd.ntmps3
    go_wp2_with fail
    refine (mnew_any w).mono ?_
    rintro e w1 ⟨mm, rfl, hp1, hb1⟩
    have HB1 := Lib.hid hb1
    clear hp1 hb1
    go_wp2_with fail
    refine (one_any w1).mono ?_
    rintro e w2 ⟨rfl, hb⟩
    have HB := Lib.hid (HB1.out.trans (hb.mono HB1.out.size))
    clear hb
    go_wp2_with fail
    go_ret
    exact ⟨rfl, HB.out⟩
  · have hb2 : decide ((80 : Int) < (l.length : Int)) = false := by rw [decide_eq_false_iff_not]; omega
    have hm2 : l.length ≤ 80 := by omega
    clear hbig
    go_enter Tryd.func3, Tryd.ntmps3
    go_wp2_with fail
    refine (mnew_any w).mono ?_
    rintro e w1 ⟨mm, rfl, hp1, hb1⟩
    have hba := (Below.refl w1.heap.size w1).alloc (Nat.le_refl _) (.cells #[.slice none 0 0, .slice none 0 0] 30)
    have hstart : Hid (∃ s C lv cv, StAt w mm w1.heap.size 0 (w1.alloc (.cells #[.slice none 0 0, .slice none 0 0] 30)) s C lv cv) := ⟨mt0, [], _, _, hp1.below hba, ⟨Blk.new w1 _ _, World.ownsRow_nil _ _ _ _, World.ownsRow_nil _ _ _ _, hb1.size⟩, mt0_ok, agC_nil, Nat.le_refl _, hb1.trans (hba.mono hb1.size)⟩
    clear hp1 hb1 hba
    go_wp2_with fail
    go_loopw [33] (fun i wr => ∃ k : Nat, k ≤ l.length ∧ i = .int .i64 k ∧ Hid (∃ s C lv cv, StAt w mm w1.heap.size k wr s C lv cv)) (fun i _ => l.length - (intOf i).toNat)
    case atStart => exact ⟨0, Nat.zero_le _, rfl, hstart.out⟩
    case round =>
      obtain ⟨k, hk, rfl, hI⟩ := hrel
      obtain ⟨wo, rfl⟩ : ∃ wo : World, wo = wr := ⟨_, rfl⟩
      clear hstart
      obtain ⟨s, C, lv, cv, hO⟩ := hI.out
      clear hI
      by_cases hlt : k < l.length
      · obtain ⟨g0, off0, c0, hV, hg0, x0, x1, x2, x3, x4⟩ := rd_stp (HR.out.below hO.hb) hlt
        injection hV with hA hB hcc
        subst hA hcc
        clear hB
        generalize l[k] = x at *
        obtain ⟨c, n, x⟩ := x
        simp only at x0 x1 x2 x3 x4
        have hba := (Below.refl wo.heap.size wo).alloc (Nat.le_refl _) (.cells #[.int .i64 c, .int .i64 n, .int .i64 x.kind, .int .i64 x.group, .int .i64 x.shard] 34)
        have hBX := Blk.new wo 34 #[.int .i64 c, .int .i64 n, .int .i64 x.kind, .int .i64 x.group, .int .i64 x.shard]
        have htk : s.tk.length ≤ 40 := by have h1 := hO.ok.len; have h2 := hO.ok.l41; omega
        have HMD := Lib.hid (mdo_any w.heap.size mm s c n x _ (hO.hp.below hba) hO.ok.l41 (by omega))
        have HOK2 := Lib.hid (md_ok hO.ok c n x)
        have hrun := hO.ok.run
        have hag := hO.ag
        have hRD := Lib.hid (fun (w1' : World) (hp : RMtP w.heap.size w1' w1.heap.size lv cv s.tk C) => rmdo_any w.heap.size w1.heap.size lv cv s C c n x w1' hp hrun hag (by have := hO.hC; omega) (by omega))
        have HRW := Lib.hid (hO.hr.below hba)
        have HBW := Lib.hid (hO.hb.trans (hba.mono hO.hb.size))
        have HBX := Lib.hid hBX
        have hCk := hO.hC
        unfold MdPost at HMD
        unfold RDoP at hRD
        clear hO hba hBX hrun hag
        generalize mdS s c n x = r at *
        obtain ⟨⟨ra, rn, re⟩, s'⟩ := r
        simp only at HMD HOK2 hRD
        go_wp2_with fail
        refine HMD.out.mono ?_
        rintro e w2 ⟨rfl, hM2, hch2⟩
        have HM2 := Lib.hid hM2
        have HX2 := Lib.hid (mm_stp hch2 HBX.out)
        have HR2 := Lib.hid (HRW.out.mm hch2)
        have HB2 := Lib.hid (HBW.out.trans (mmine_below hch2 HBW.out.size))
        clear hM2 hch2 HMD HRW HBW HBX x0 x1 x2 x3 x4
        go_upto_region 9 with fail
        have hw2 := Lib.hid HB2.out.size
        have HAF : Hid (∀ W w4 lv' cv' C', Below w2.heap.size w2 W → RMtP w.heap.size w4 w1.heap.size lv' cv' s'.tk C' → AgC s'.cl C' → C'.length ≤ C.length + 1 → Chg (RMine w.heap.size W) W w4 → StAt w mm w1.heap.size (k + 1) w4 s' C' lv' cv') := fun W w4 lv' cv' C' hb hR hag hC hch =>
          ⟨(HM2.out.below hb).rm hch, hR, HOK2.out, hag, by omega, (HB2.out.trans (hb.mono hw2.out)).trans (rm_low hch (Nat.le_trans hw2.out hb.size))⟩
        have HXA : Hid (∀ W w4, Below w2.heap.size w2 W → Chg (RMine w.heap.size W) W w4 → Blk w4 wo.heap.size 34 #[.int .i64 c, .int .i64 n, .int .i64 x.kind, .int .i64 x.group, .int .i64 x.shard]) := fun W w4 hb hch => rm_keep hch (HX2.out.below hb HX2.out.lt) (by decide)
        go_cut [12] (fun p wc => ∃ tb, p = .pointer (some ⟨tb, 0, none⟩) ∧ AfP w mm w1.heap.size k tb s' ra rn re wc)
        case first =>
          go_region_held3 (fun w' => w'.cell? ⟨wo.heap.size, 0, none⟩ = some (.int .i64 c) ∧ w'.cell? ⟨wo.heap.size, 1, none⟩ = some (.int .i64 n) ∧ w'.cell? ⟨wo.heap.size, 2, none⟩ = some (.int .i64 x.kind) ∧ w'.cell? ⟨wo.heap.size, 3, none⟩ = some (.int .i64 x.group) ∧ w'.cell? ⟨wo.heap.size, 4, none⟩ = some (.int .i64 x.shard))
            ((first | (refine keep5 HX2.out ?_; simp only [bl_drew, bl_alloc, bl_refl, *, Nat.le_refl]; done) | (refine keep5 hxa ?_; simp only [bl_drew, bl_alloc, bl_refl]; done) | (refine keep5 (((hxa.far (p := ⟨_, 0, none⟩) hne _).far (p := ⟨_, 1, none⟩) hne _).far (p := ⟨_, 2, none⟩) hne _) (Below.refl _ _)) | (refine keep5 ((((hxa.far (p := ⟨_, 0, none⟩) hne _).far (p := ⟨_, 1, none⟩) hne _).far (p := ⟨_, 2, none⟩) hne _).drew) (Below.refl _ _))))
            ((first
              | (go_at_call 8; have hq := hblr; refine Calls.mono (hRD.out _ (HR2.out.below (by simp only [bl_drew, bl_alloc, hblr, hlsr]))) ?_; rintro e w4 ⟨lv4, cv4, C4, rfl, hM4, hag4, hC4, hch4⟩; have hxa := HXA.out _ _ (by simp only [bl_drew, bl_alloc, hblr, hlsr]) hch4; have haf := HAF.out _ _ _ _ _ (by simp only [bl_drew, bl_alloc, hblr, hlsr]) hM4 hag4 hC4 hch4; (first | (have hzB := rm_keep hch4 hzC (by decide); have hne := Blk.ne_ hxa hzB (by decide); obtain ⟨z0, z1, z2, f0, f1, f2⟩ := told3 hzB) | (with_reducible have hzB := rm_new hch4; have hne := Blk.ne_ hxa hzB (by decide); obtain ⟨z0, z1, z2, f0, f1, f2⟩ := told3 hzB) | skip))
              | (go_at_call 9; refine Calls.mono (ref17_any x _) ?_; rintro e w3 ⟨rfl, hb3⟩; have hblr : Below w2.heap.size w2 w3 := below_then (by simp only [bl_drew, bl_alloc, bl_refl, Nat.le_refl]) hb3; have hlsr := hblr.size; (try (with_reducible have hzC := toldC hb3)))))
          all_goals
            go_wp2_with fail
            go_meet
            case rel => first | exact ⟨_, rfl, afp_new ra rn re haf⟩ | exact ⟨_, rfl, afp_old ra rn re haf hzB (by have := hw2.out; omega)⟩
        case rest =>
          obtain ⟨tb, rfl, lv2, cv2, C2, hT, hS⟩ := hcut
          obtain ⟨t0, t1, t2⟩ : wc.cell? ⟨tb, 0, none⟩ = some (.int .i64 ra) ∧ wc.cell? ⟨tb, 1, none⟩ = some (.bool rn) ∧ wc.cell? ⟨tb, 2, none⟩ = some (.int .i64 re) := ⟨hT.cell 0, hT.cell 1, hT.cell 2⟩
          have hlc := hl.later hS.hb
          have HS := Lib.hid hS
          have HX1 := Lib.hid (mtext_any w.heap.size mm s' wc hlc hS.hp hS.ok)
          have HX3 := Lib.hid (fun (w5 : World) (hp : RMtP w.heap.size w5 w1.heap.size lv2 cv2 s'.tk C2) => rmtext_any w.heap.size w1.heap.size lv2 cv2 s' C2 w5 hp hS.ok hS.ag (by have := hS.hC; omega))
          clear hS hT hlc HAF HXA HR2 HM2 HX2 HB2 HOK2 hRD
          generalize mtxt s'.tk s'.cl = tx at *
          go_wp2_with fail
          refine HX1.out.mono ?_
          rintro e w5 ⟨rfl, hb5⟩
          have HR5 := Lib.hid (HS.out.hr.below hb5)
          have HB5 := Lib.hid hb5
          clear hb5 HX1
          go_wp2_with fail
          refine (HX3.out _ HR5.out).mono ?_
          rintro e w6 ⟨rfl, hb6⟩
          have hb56 := HB5.out.trans (hb6.mono HB5.out.size)
          have HS6 : Hid (StAt w mm w1.heap.size (k + 1) w6 s' C2 lv2 cv2) := ⟨HS.out.hp.below hb56, HR5.out.below hb6, HS.out.ok, HS.out.ag, HS.out.hC, HS.out.hb.trans (hb56.mono HS.out.hb.size)⟩
          clear hb6 hb56 HX3 HR5 HB5
          go_wp2_with fail
          exact ⟨⟨k + 1, by omega, by simp, s', C2, lv2, cv2, HS6.out⟩, by simp [intOf]; omega⟩
      · have hrun := hO.ok.run
        have hl41 := hO.ok.l41
        have htk : s.tk.length ≤ 40 := by have h1 := hO.ok.len; omega
        have HCH := Lib.hid (rchain_any w.heap.size w1.heap.size lv cv s.tk C wo hO.hr (by omega))
        have HO := Lib.hid hO
        clear hO
        obtain rfl : k = l.length := by omega
        go_wp2_with fail
        refine HCH.out.mono ?_
        rintro e w2 ⟨v', ps, rfl, hrow, hmap, hb2⟩
        rw [← hrun] at hmap
        obtain ⟨Ar, cr, rfl⟩ := own_shape hrow.row
        obtain ⟨gv, cv', hAv, hbg, hgv⟩ := hrow.row.form hrow.pos
        injection hAv with hAv _ hAc
        subst hAv
        clear hAc
        have hpos := hrow.pos
        have hlen : s.cs.length = ps.length := by rw [← hmap, List.length_map]
        have hg4 : ∀ p ∈ ps, p.1.gs.length ≤ 4 := fun p hp => (check_bounds (hrow.ok p hp)).2.2.1
        have HP2 := Lib.hid (HO.out.hp.below hb2)
        have HB2 := Lib.hid (HO.out.hb.trans (hb2.mono HO.out.hb.size))
        have hgc := getS_cases s.cs num
        have hmg := mget_any w.heap.size mm s.cs s.tk s.cl num w2 HP2.out (by omega)
        have hlast : ∃ p, ps[ps.length - 1]? = some p ∧ s.cs.getLastD cfg0 = p.1 := by
          refine ⟨ps[ps.length - 1], List.getElem?_eq_getElem (by omega), ?_⟩
          rw [last_get s.cs (by omega)]
          simp only [← hmap, List.getElem_map, List.length_map]
        unfold GivesCE at hmg
        have hgl : (getS s.cs num).1.gs.length ≤ 4 := by
          rcases hgc with ⟨q, hq, _, e⟩ | ⟨_, e⟩
          · rw [e]
            simp only [← hmap, List.getElem_map]
            exact hg4 _ (List.getElem_mem (by omega))
          · rw [e]; simp [cfg0]
        have hgq : (∃ q : Nat, ∃ p, q < ps.length ∧ num = q ∧ ps[q]? = some p ∧ getS s.cs num = (p.1, 0)) ∨ ((num < 0 ∨ (ps.length : Int) ≤ num) ∧ (getS s.cs num).2 = 6) := by
          rcases hgc with ⟨q, hq, hn, e⟩ | ⟨hn, e⟩
          · refine .inl ⟨q, ps[q], by omega, hn, List.getElem?_eq_getElem (by omega), ?_⟩
            rw [e]
            simp only [← hmap, List.getElem_map]
          · exact .inr ⟨by omega, by rw [e]⟩
        have HROW := Lib.hid hrow
        have HL := Lib.hid hlast
        clear hgc hrow hlast hb2
        generalize getS s.cs num = gr at *
        obtain ⟨⟨gn, gg, gw⟩, ge⟩ := gr
        simp only at hmg hgq hgl
        have HMG := Lib.hid hmg
        have HGQ := Lib.hid hgq
        clear hmg hgq HCH
        go_wp2_with fail
        refine HMG.out.mono ?_
        rintro e w4 ⟨s4, rfl, ho4, hb4⟩
        obtain ⟨A4, c4, rfl⟩ := own_shape ho4
        unfold Cfg.val
        simp only
        go_upto_region 15 with fail
        have hal4 : Below w4.heap.size w4 (w4.alloc (.cells #[.int .i64 gn, .slice A4 gg.length c4, .int .i64 gw.a, .int .i64 gw.b, .int .i64 gw.c, .int .i64 gw.d] 49)) := (Below.refl _ _).alloc (Nat.le_refl _) _
        have hbk4 : Blk (w4.alloc (.cells #[.int .i64 gn, .slice A4 gg.length c4, .int .i64 gw.a, .int .i64 gw.b, .int .i64 gw.c, .int .i64 gw.d] 49)) w4.heap.size 49 (cfgCells gn (.slice A4 gg.length c4) gw) := Blk.new w4 _ _
        have HPV := Lib.hid ((HP2.out.below hb4).below hal4)
        have HRV := Lib.hid ((HROW.out.below hb4).below hal4)
        have HBV := Lib.hid ((HB2.out.trans (hb4.mono HB2.out.size)).trans (hal4.mono (HB2.out.trans (hb4.mono HB2.out.size)).size))
        have HOV := Lib.hid (own_below ho4 hal4)
        have HBKV := Lib.hid hbk4
        clear hal4 hbk4 HP2 HROW HB2 hb4 ho4 HMG hgv
        generalize w4.heap.size = b4 at *
        generalize w4.alloc (.cells #[.int .i64 gn, .slice A4 gg.length c4, .int .i64 gw.a, .int .i64 gw.b, .int .i64 gw.c, .int .i64 gw.d] 49) = V at *
        go_cut [113] (fun tv wc => tv = .bool false ∧ Below V.heap.size V wc)
        case first =>
          rcases HGQ.out with ⟨q, p, hq, rfl, hqp, hpe⟩ | ⟨hnum, rfl⟩
          · obtain ⟨⟨pn, pg, po⟩, sv⟩ := p
            simp only [Prod.mk.injEq, Cfg.mk.injEq] at hpe
            obtain ⟨⟨rfl, rfl, rfl⟩, rfl⟩ := hpe
            have hown := HRV.out.own _ (List.mem_of_getElem? hqp)
            obtain ⟨As, cs', hsv⟩ := own_shape hown
            simp only at hsv
            subst hsv
            have HQP := Lib.hid hqp
            have HOW := Lib.hid hown
            have q0 : (0 : Int) ≤ (q : Int) := by omega
            have q1 : (q : Int) < (ps.length : Int) := by omega
            have d0 : decide ((0 : Int) ≤ (q : Int)) = true := decide_eq_true q0
            have d1 : decide ((q : Int) < (ps.length : Int)) = true := decide_eq_true q1
            have HS1 : Hid (∀ w', Below V.heap.size V w' → Calls Tryd.prog 14 #[.agg #[.int .i64 gn, .slice A4 gg.length c4, .int .i64 gw.a, .int .i64 gw.b, .int .i64 gw.c, .int .i64 gw.d], .agg #[.int .i64 gn, .slice As gg.length cs', .int .i64 gw.a, .int .i64 gw.b, .int .i64 gw.c, .int .i64 gw.d]] w' fun e w'' => e = .returned (.bool true) ∧ Below w'.heap.size w' w'') := fun w' h => by
              have := same17_any ⟨gn, gg, gw⟩ ⟨gn, gg, gw⟩ A4 c4 As cs' w' V.heap.size h.size ((Rd.of_own HOV.out).below h) ((Rd.of_own HOW.out).below h) (by simp only; omega) (by simp only; omega)
              rwa [cfgEqB_refl] at this
            clear hown hqp HGQ HL
            go_region_held3 (fun w' => (w'.cell? ⟨b4, 0, none⟩ = some (.int .i64 gn) ∧ w'.cell? ⟨b4, 1, none⟩ = some (.slice A4 gg.length c4) ∧ w'.cell? ⟨b4, 2, none⟩ = some (.int .i64 gw.a) ∧ w'.cell? ⟨b4, 3, none⟩ = some (.int .i64 gw.b) ∧ w'.cell? ⟨b4, 4, none⟩ = some (.int .i64 gw.c) ∧ w'.cell? ⟨b4, 5, none⟩ = some (.int .i64 gw.d)) ∧
                w'.cell? ⟨gv, q * 6, none⟩ = some (.int .i64 gn) ∧ w'.cell? ⟨gv, q * 6 + 1, none⟩ = some (.slice As gg.length cs') ∧ w'.cell? ⟨gv, q * 6 + 2, none⟩ = some (.int .i64 gw.a) ∧ w'.cell? ⟨gv, q * 6 + 3, none⟩ = some (.int .i64 gw.b) ∧ w'.cell? ⟨gv, q * 6 + 4, none⟩ = some (.int .i64 gw.c) ∧ w'.cell? ⟨gv, q * 6 + 5, none⟩ = some (.int .i64 gw.d))
              ((refine ⟨keep6 HBKV.out ?_, keep6row HRV.out ⟨_, _, rfl⟩ HQP.out ?_⟩ <;> simp only [bl_drew, bl_refl, *]))
              ((go_at_call 14; refine Calls.mono (HS1.out _ (by simp only [bl_drew, bl_refl])) ?_; rintro e w6 ⟨rfl, hb6⟩; have hbl6 : Below V.heap.size V w6 := below_then (by simp only [bl_drew, bl_refl]) hb6; clear hb6))
            all_goals
              go_wp2_with fail
              go_meet
              case rel => exact ⟨rfl, hbl6⟩
          · clear HL
            by_cases hng : num < 0
            case' pos => have d0 : decide ((0 : Int) ≤ num) = false := by rw [decide_eq_false_iff_not]; omega
            case' neg =>
              have d0 : decide ((0 : Int) ≤ num) = true := by rw [decide_eq_true_eq]; omega
              have d1 : decide (num < (ps.length : Int)) = false := by rw [decide_eq_false_iff_not]; omega
            all_goals
              clear hng hnum HGQ
              go_region
            all_goals
              go_wp2_with fail
              go_meet
              case rel => exact ⟨rfl, by simp only [bl_drew, bl_refl]⟩
        case rest =>
          obtain ⟨rfl, hbl⟩ := hcut
          obtain ⟨p, hpm, hpl⟩ := HL.out
          obtain ⟨m, hmm⟩ : ∃ m, ps.length = m + 1 := ⟨ps.length - 1, by omega⟩
          rw [hmm, Nat.add_sub_cancel] at hpm
          obtain ⟨⟨pn, pg, po⟩, sv⟩ := p
          have hown := HRV.out.own _ (List.mem_of_getElem? hpm)
          obtain ⟨As, cs', hsv⟩ := own_shape hown
          simp only at hsv hpl
          subst hsv
          have hpg : pg.length ≤ 4 := hg4 _ (List.mem_of_getElem? hpm)
          have HPM := Lib.hid hpm
          have HRC := Lib.hid (HRV.out.below hbl)
          have HPC := Lib.hid (HPV.out.below hbl)
          have HBC := Lib.hid (HBV.out.trans (hbl.mono HBV.out.size))
          have HOC := Lib.hid (own_below hown hbl)
          have hsub : IntKind.i64.wrap (m : Int) = (m : Int) := by rw [IntKind.wrap_i64]; omega
          have hm0 : (0 : Int) ≤ (m : Int) := by omega
          have hm1 : (m : Int) < (m : Int) + 1 := by omega
          have HLS : Hid (∀ w', Below wc.heap.size wc w' → Calls Tryd.prog 15 #[.pointer (some ⟨mm, 0, none⟩)] w' fun e w'' => ∃ s7, e = .returned (Cfg.val ⟨pn, pg, po⟩ s7) ∧ w''.ownsRow w'.heap.size 3 1 s7 pg.length (ints pg) ∧ Below w'.heap.size w' w'') := fun w' h => by
            have := mlast_any w.heap.size mm s.cs s.tk s.cl w' (HPC.out.below h) (by omega)
            unfold GivesC at this
            rwa [hpl] at this
          have HS2 : Hid (∀ (A7 : Option Addr) (c7 : Nat) (w7 w' : World) (b7 : Nat), w7.ownsRow b7 3 1 (.slice A7 pg.length c7) pg.length (ints pg) → Below wc.heap.size wc w7 → Below w7.heap.size w7 w' → Calls Tryd.prog 14 #[.agg #[.int .i64 pn, .slice A7 pg.length c7, .int .i64 po.a, .int .i64 po.b, .int .i64 po.c, .int .i64 po.d], .agg #[.int .i64 pn, .slice As pg.length cs', .int .i64 po.a, .int .i64 po.b, .int .i64 po.c, .int .i64 po.d]] w' fun e w'' => e = .returned (.bool true) ∧ Below w'.heap.size w' w'') := fun A7 c7 w7 w' b7 ho h7 h => by
            have := same17_any ⟨pn, pg, po⟩ ⟨pn, pg, po⟩ A7 c7 As cs' w' w7.heap.size h.size ((Rd.of_own ho).below h) ((((Rd.of_own HOC.out).below h7).more h7.size).below h) (by simp only; omega) (by simp only; omega)
            rwa [cfgEqB_refl] at this
          have hmm2 := Lib.hid hmm
          rw [hmm] at HRC ⊢
          clear hown hpm hbl HL HGQ HPV HRV HBV HOV HBKV hmm hlen hpos hg4 hmap HO hrun hpl
          go_upto_region 17 with fail
          go_region_held3 (fun w' => w'.cell? ⟨gv, m * 6, none⟩ = some (.int .i64 pn) ∧ w'.cell? ⟨gv, m * 6 + 1, none⟩ = some (.slice As pg.length cs') ∧ w'.cell? ⟨gv, m * 6 + 2, none⟩ = some (.int .i64 po.a) ∧ w'.cell? ⟨gv, m * 6 + 3, none⟩ = some (.int .i64 po.b) ∧ w'.cell? ⟨gv, m * 6 + 4, none⟩ = some (.int .i64 po.c) ∧ w'.cell? ⟨gv, m * 6 + 5, none⟩ = some (.int .i64 po.d))
            ((refine keep6row HRC.out ⟨_, _, rfl⟩ HPM.out ?_; simp only [bl_drew, bl_refl, *]))
            ((first
              | (go_at_call 6; have hq := hbl8; refine Calls.mono (one_any _) ?_; rintro e w9 ⟨rfl, hb9⟩; have hbl9 : Below wc.heap.size wc w9 := below_then (by simp only [bl_drew, bl_refl, *]) hb9; clear hb9)
              | (go_at_call 14; refine Calls.mono (HS2.out _ _ _ _ _ HO7.out hbl7 (by simp only [bl_drew, bl_refl])) ?_; rintro e w8 ⟨rfl, hb8⟩; have hbl8 : Below wc.heap.size wc w8 := below_then (by simp only [bl_drew, bl_refl, *]) hb8; clear hb8)
              | (go_at_call 15; refine Calls.mono (HLS.out _ (by simp only [bl_drew, bl_refl, *])) ?_; rintro e w7 ⟨s7, rfl, ho7, hb7⟩; have hbl7 : Below wc.heap.size wc w7 := below_then (by simp only [bl_drew, bl_refl, *]) hb7; clear hb7; obtain ⟨A7, c7, rfl⟩ := own_shape ho7; have HO7 := Lib.hid ho7; clear ho7; unfold Cfg.val; simp only)))
          all_goals
            have hfin := Lib.hid (HBC.out.trans (hbl9.mono HBC.out.size))
            clear hbl7 hbl8 hbl9
            go_wp2_with fail
            go_ret
            exact ⟨rfl, hfin.out⟩

end Go.Proofs.YtijacbnoemjgcaaDoor
