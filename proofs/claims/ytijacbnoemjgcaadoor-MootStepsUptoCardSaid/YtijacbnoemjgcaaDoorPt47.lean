/- The document's moot: Do. -/
import Derived.Test.YtijacbnoemjgcaaDoorPt46
import Derived.Test.YtijacbnoemjgcaaDoorPt32
import Derived.RangeFuncBox
set_option linter.unusedVariables false
set_option linter.unusedSimpArgs false
set_option linter.unnecessarySimpa false
namespace Go.Proofs.YtijacbnoemjgcaaDoor
open Go.RowKit Go.Shelf

theorem rcli_infoW : (Tryd.prog.info? 68).map (fun i => (i.zero, i.size, i.bytes)) = some (some (.agg #[.int .i64 0, .int .i64 0, .int .i64 0]), 3, 24) := by kernel_rfl
/-- What the document's Do answers and leaves. -/
def RDoP (base : Nat) (w : World) (b : Nat) (C : List Cli) (r : (Int × Bool × Int) × Mt) (e : Ending) (w' : World) : Prop :=
  ∃ lv' cv' C', e = .returned (.agg #[.int .i64 r.1.1, .bool r.1.2.1, .int .i64 r.1.2.2]) ∧ RMtP base w' b lv' cv' r.2.tk C' ∧ AgC r.2.cl C' ∧ C'.length ≤ C.length + 1 ∧ Chg (RMine base w) w w'
theorem told3 {w : World} {g : Nat} {t : TypeId} (h : Blk w g t #[.int .i64 0, .bool false, .int .i64 0]) : w.cell? ⟨g, 0, none⟩ = some (.int .i64 0) ∧ w.cell? ⟨g, 1, none⟩ = some (.bool false) ∧ w.cell? ⟨g, 2, none⟩ = some (.int .i64 0) ∧ w.frozen? ⟨g, 0, none⟩ = false ∧ w.frozen? ⟨g, 1, none⟩ = false ∧ w.frozen? ⟨g, 2, none⟩ = false :=
  ⟨h.cell 0, h.cell 1, h.cell 2, h.frozen 0, h.frozen 1, h.frozen 2⟩
/-- The result's place is the call's own. -/
theorem rm_told {base g : Nat} {w w1 : World} (h : Chg (RMine base w) w w1) (hg : w.heap.size ≤ g) (a b c : Value) : Chg (RMine base w) w (((w1.setCell ⟨g, 0, none⟩ a).setCell ⟨g, 1, none⟩ b).setCell ⟨g, 2, none⟩ c) :=
  ((h.setCell (p := ⟨g, 0, none⟩) (fun h => absurd h (Nat.not_lt.2 hg)) a).setCell (p := ⟨g, 1, none⟩) (fun h => absurd h (Nat.not_lt.2 hg)) b).setCell (p := ⟨g, 2, none⟩) (fun h => absurd h (Nat.not_lt.2 hg)) c
theorem RMtP.told {base b g : Nat} {w : World} {lv cv : Value} {L : List Cmd} {C : List Cli} (h : RMtP base w b lv cv L C) {t : TypeId} {cs : Array Value} (hk : Blk w g t cs) (ht : t ≠ 30 ∧ t ≠ 41 ∧ t ≠ 68) (x y z : Value) :
    RMtP base (((w.setCell ⟨g, 0, none⟩ x).setCell ⟨g, 1, none⟩ y).setCell ⟨g, 2, none⟩ z) b lv cv L C := by
  have hc : Chg (fun i => i = g) w (((w.setCell ⟨g, 0, none⟩ x).setCell ⟨g, 1, none⟩ y).setCell ⟨g, 2, none⟩ z) := (((Chg.refl (fun i => i = g) w).setCell (p := ⟨g, 0, none⟩) (fun _ => rfl) x).setCell (p := ⟨g, 1, none⟩) (fun _ => rfl) y).setCell (p := ⟨g, 2, none⟩) (fun _ => rfl) z
  refine ⟨h.box.chg hc (fun e => ?_), hc.owns h.row (fun k hk' e => ?_), hc.owns h.cli (fun k hk' e => ?_), h.hb⟩
  · exact Blk.ne_ h.box hk (Ne.symm ht.1) e
  · exact own_blk_ne h.row hk (Ne.symm ht.2.1) (by rw [hk', e])
  · exact own_blk_ne h.cli hk (Ne.symm ht.2.2) (by rw [hk', e])

theorem rm_keep {base g : Nat} {w w' : World} {t : TypeId} {cs : Array Value} (h : Chg (RMine base w) w w') (hb : Blk w g t cs) (ht : t ≠ 30 ∧ t ≠ 41 ∧ t ≠ 68) : Blk w' g t cs := hb.chg h (fun hF => by
  obtain ⟨_, t', cs', hk, h1 | h1 | h1⟩ := hF <;> subst h1
  · exact Blk.ne_ hb hk ht.1 rfl
  · exact Blk.ne_ hb hk ht.2.1 rfl
  · exact Blk.ne_ hb hk ht.2.2 rfl)
theorem filt_yes {C : List Cli} {k : Nat} (hk : k < C.length) {p : Cli → Bool} (h : p C[k] = true) : (C.take (k + 1)).filter p = (C.take k).filter p ++ [C[k]] := by
  rw [List.take_succ_eq_append_getElem hk, List.filter_append, List.filter_cons, if_pos h]; rfl
theorem filt_no {C : List Cli} {k : Nat} (hk : k < C.length) {p : Cli → Bool} (h : ¬ p C[k] = true) : (C.take (k + 1)).filter p = (C.take k).filter p := by
  rw [List.take_succ_eq_append_getElem hk, List.filter_append, List.filter_cons, if_neg h]; simp
/-- Between two rounds of the filter. -/
structure FilP (B : Nat) (w3 : World) (A' : Option Addr) (n c' : Nat) (F : List Cli) (wr : World) : Prop where
  len : F.length = n
  own : wr.ownsRow B 68 3 (.slice A' n c') n (cellsC F)
  bel : Below B w3 wr

set_option maxHeartbeats 4000000 in
set_option maxRecDepth 100000 in
theorem rmdo_any (base b : Nat) (lv cv : Value) (s : Mt) (C : List Cli) (c n : Int) (x : Cmd) (w : World) (hp : RMtP base w b lv cv s.tk C) (hrun : s.cs = runS s.tk) (hag : AgC s.cl C) (hC : C.length ≤ 999) (htk : s.tk.length ≤ 999) :
    Calls Tryd.prog 8 #[.pointer (some ⟨b, 0, none⟩), .int .i64 c, .int .i64 n, .agg #[.int .i64 x.kind, .int .i64 x.group, .int .i64 x.shard]] w (RDoP base w b C (mdS s c n x)) := by
  have hb0 := ((Below.refl w.heap.size w).alloc (Nat.le_refl _) (.cells #[.int .i64 x.kind, .int .i64 x.group, .int .i64 x.shard] 41)).alloc (by simp) (.cells #[.int .i64 0, .bool false, .int .i64 0] 39)
  have hx0 := (Blk.new w 41 #[.int .i64 x.kind, .int .i64 x.group, .int .i64 x.shard]).alloc (.cells #[.int .i64 0, .bool false, .int .i64 0] 39)
  have hr0 := Blk.new (w.alloc (.cells #[.int .i64 x.kind, .int .i64 x.group, .int .i64 x.shard] 41)) 39 #[.int .i64 0, .bool false, .int .i64 0]
  simp only [World.size_alloc] at hr0
  have HB0 := Lib.hid hb0
  have HX0 := Lib.hid hx0
  have HR0 := Lib.hid hr0
  have HP0 := Lib.hid (hp.below hb0)
  have HP := Lib.hid hp
  have HAG := Lib.hid hag
  clear hb0 hx0 hr0 hp hag
  have HD : Hid (mdS s c n x = if badA c n = true then ((0, false, 1), s) else if n < (s.cl c.toNat).1 then ((0, false, 6), s) else if n = (s.cl c.toNat).1 then (((s.cl c.toNat).2, false, 0), s) else (((doS s.cs x).2, true, 0), ⟨(doS s.cs x).1, tkS s.cs s.tk x, upd s.cl c.toNat (n, (doS s.cs x).2)⟩)) := rfl
  by_cases hbad : badA c n = true
  · have HF : Hid (mdS s c n x = ((0, false, 1), s)) := by unfold Hid; rw [HD.out, if_pos hbad]
    have hsp : (c < 0) ∨ (¬ c < 0 ∧ 7 < c) ∨ (¬ c < 0 ∧ ¬ 7 < c ∧ n < 1) ∨ (¬ c < 0 ∧ ¬ 7 < c ∧ ¬ n < 1 ∧ 1099511627776 < n) := by
      simp only [badA, Bool.or_eq_true, decide_eq_true_eq] at hbad
      omega
    clear HD
    rcases hsp with h1 | ⟨h1, h2⟩ | ⟨h1, h2, h3⟩ | ⟨h1, h2, h3, h4⟩
    case' inl =>
      have g1 : decide (c < 0) = true := decide_eq_true h1
    case' inr.inl =>
      have g1 : decide (c < 0) = false := decide_eq_false h1
      have g2 : decide (7 < c) = true := decide_eq_true h2
    case' inr.inr.inl =>
      have g1 : decide (c < 0) = false := decide_eq_false h1
      have g2 : decide (7 < c) = false := decide_eq_false h2
      have g3 : decide (n < 1) = true := decide_eq_true h3
    case' inr.inr.inr =>
      have g1 : decide (c < 0) = false := decide_eq_false h1
      have g2 : decide (7 < c) = false := decide_eq_false h2
      have g3 : decide (n < 1) = false := decide_eq_false h3
      have g4 : decide (1099511627776 < n) = true := decide_eq_true h4
    all_goals
      go_enter Tryd.func8, Tryd.ntmps8
      go_wp2_with fail
      refine bodyPost_ret (v := .agg #[.int .i64 0, .bool false, .int .i64 1]) (by simp [results, Tryd.results8, go_sem]) rfl ?_
      rw [HF.out]
      unfold RDoP
      have hbX := ((Below.refl w.heap.size w).alloc (Nat.le_refl _) (.cells #[.int .i64 x.kind, .int .i64 x.group, .int .i64 x.shard] 41)).alloc (by simp) (.cells #[.int .i64 0, .bool false, .int .i64 1] 39)
      refine ⟨lv, cv, C, rfl, ?_, HAG.out, Nat.le_succ _, ?_⟩
      · exact HP.out.below hbX
      · exact rm_below hbX
  · have hnb : badA c n = false := by simpa using hbad
    have hcn : 0 ≤ c ∧ c < 8 ∧ 1 ≤ n ∧ n ≤ 1099511627776 := by
      have := hnb
      simp only [badA, Bool.or_eq_false_iff, decide_eq_false_iff_not] at this
      omega
    obtain ⟨j, rfl⟩ : ∃ j : Nat, c = (j : Int) := ⟨c.toNat, by omega⟩
    have hj : j < 8 := by omega
    have HD2 : Hid (mdS s j n x = if n < (s.cl j).1 then ((0, false, 6), s) else if n = (s.cl j).1 then (((s.cl j).2, false, 0), s) else (((doS s.cs x).2, true, 0), ⟨(doS s.cs x).1, tkS s.cs s.tk x, upd s.cl j (n, (doS s.cs x).2)⟩)) := by
      unfold Hid; rw [HD.out, if_neg hbad]; rfl
    have g1 : decide ((j : Int) < 0) = false := by rw [decide_eq_false_iff_not]; omega
    have g2 : decide (7 < (j : Int)) = false := by rw [decide_eq_false_iff_not]; omega
    have g3 : decide (n < 1) = false := by rw [decide_eq_false_iff_not]; omega
    have g4 : decide (1099511627776 < n) = false := by rw [decide_eq_false_iff_not]; omega
    obtain ⟨a1, a2⟩ := HAG.out j hj
    have hof := rof_any base b lv cv s.tk C (j : Int) _ HP0.out (by omega)
    rw [a1, a2] at hof
    generalize (ofC C (j : Int)).c = xc at *
    have HOF := Lib.hid hof
    clear hof a1 a2 HD hbad hnb
    go_enter Tryd.func8, Tryd.ntmps8
    go_wp2_with fail
    refine HOF.out.mono ?_
    rintro e w1 ⟨rfl, hb1⟩
    have hal := (Below.refl w1.heap.size w1).alloc (Nat.le_refl _) (.cells #[.int .i64 xc, .int .i64 (s.cl j).1, .int .i64 (s.cl j).2] 68)
    have hR1 := (HR0.out.below hb1 HR0.out.lt).alloc (.cells #[.int .i64 xc, .int .i64 (s.cl j).1, .int .i64 (s.cl j).2] 68)
    have HX1 := Lib.hid ((HX0.out.below hb1 HX0.out.lt).alloc (.cells #[.int .i64 xc, .int .i64 (s.cl j).1, .int .i64 (s.cl j).2] 68))
    have HP1 := Lib.hid ((HP0.out.below hb1).below hal)
    have HB1 := Lib.hid ((HB0.out.trans (hb1.mono HB0.out.size)).trans (hal.mono (HB0.out.trans (hb1.mono HB0.out.size)).size))
    obtain ⟨z0, z1, z2, f0, f1, f2⟩ := told3 hR1
    have hXl := HX1.out.cell 0
    have HR1 := Lib.hid hR1
    clear hal hb1 HP0 HB0 HR0 HX0 hR1 HOF hXl
    by_cases hlt : n < (s.cl j).1
    · have HF : Hid (mdS s j n x = ((0, false, 6), s)) := by unfold Hid; rw [HD2.out, if_pos hlt]
      have d1 : decide (n < (s.cl j).1) = true := decide_eq_true hlt
      go_wp2_with fail
      refine bodyPost_ret (v := .agg #[.int .i64 0, .bool false, .int .i64 6]) (by simp [results, Tryd.results8, go_sem, z0, z1, z2]) rfl ?_
      rw [HF.out]
      unfold RDoP
      exact ⟨_, _, C, rfl, HP1.out.told HR1.out (by decide) _ _ _, HAG.out, by omega, rm_told (rm_below HB1.out) (by omega) _ _ _⟩
    have d1 : decide (n < (s.cl j).1) = false := decide_eq_false hlt
    by_cases heq : n = (s.cl j).1
    · have HF : Hid (mdS s j n x = (((s.cl j).2, false, 0), s)) := by unfold Hid; rw [HD2.out, if_neg hlt, if_pos heq]
      have d2 : (n == (s.cl j).1) = true := by simpa using heq
      clear hlt heq
      go_wp2_with fail
      refine bodyPost_ret (v := .agg #[.int .i64 (s.cl j).2, .bool false, .int .i64 0]) (by simp [results, Tryd.results8, go_sem, z0, z1, z2]) rfl ?_
      rw [HF.out]
      unfold RDoP
      exact ⟨_, _, C, rfl, HP1.out.told HR1.out (by decide) _ _ _, HAG.out, by omega, rm_told (rm_below HB1.out) (by omega) _ _ _⟩
    · have HF : Hid (mdS s j n x = (((doS s.cs x).2, true, 0), ⟨(doS s.cs x).1, tkS s.cs s.tk x, upd s.cl j (n, (doS s.cs x).2)⟩)) := by unfold Hid; rw [HD2.out, if_neg hlt, if_neg heq]
      have d2 : (n == (s.cl j).1) = false := by simpa using heq
      have htake := rmtake_any base b lv cv s.tk C x _ HP1.out (by omega)
      unfold RTake at htake
      rw [← hrun] at htake
      have HTAKE := Lib.hid htake
      have hy0 := HX1.out.cell 0
      have hy1 := HX1.out.cell 1
      have hy2 := HX1.out.cell 2
      clear htake hlt heq HD2 z0 z1 z2 f0 f1 f2
      have HAG2 := Lib.hid (fun (e : Int) => agC_upd HAG.out (j : Int) n e (by omega))
      generalize tkS s.cs s.tk x = tk' at *
      generalize doS s.cs x = rr at *
      obtain ⟨cs', er⟩ := rr
      simp only at HTAKE HF HAG2
      rw [show ((j : Int)).toNat = j by omega] at HAG2
      go_wp2_with fail
      refine HTAKE.out.mono ?_
      rintro e w3 ⟨lv', rfl, hM3, hch3⟩
      have HR3 := Lib.hid (rm_keep hch3 HR1.out (by decide))
      have HCH := Lib.hid (rm_trans (rm_below HB1.out) hch3)
      have HRD := Lib.hid (Rd.of_own hM3.cli)
      obtain ⟨Ac, cc, rfl⟩ := own_shape hM3.cli
      have q1 : w3.cell? ⟨b, 1, none⟩ = some (.slice Ac C.length cc) := hM3.box.cell 1
      have hsz3 : w.heap.size ≤ w3.heap.size := Nat.le_trans HB1.out.size hch3.size
      have HM3 := Lib.hid hM3
      obtain ⟨i0, hi0, hz0, hz1, hz2⟩ := info_parts rcli_infoW
      clear hM3 hch3 HTAKE HX1 HP1 HB1 HR1 hy0 hy1 hy2 d1 d2 g1 g2 g3 g4
      go_wp2_with fail
      clear q1
      go_loopw [11, 52] (fun o i wr => ∃ (k : Nat) (A' : Option Addr) (m c' : Nat), k ≤ C.length ∧ i = .int .i64 k ∧ o = .slice A' m c' ∧ m ≤ k ∧ Hid (FilP w3.heap.size w3 A' m c' ((C.take k).filter (fun y => y.c != (j : Int))) wr)) (fun _ i _ => C.length - (intOf i).toNat)
      case atStart => exact ⟨0, none, 0, 0, Nat.zero_le _, rfl, rfl, Nat.le_refl _, rfl, World.ownsRow_nil _ _ _ _, Below.refl _ _⟩
      case round =>
        obtain ⟨k, A', m, c', hk, rfl, rfl, hmk, HFI⟩ := hrel
        have hwsz := HFI.out.bel.size
        by_cases hlt : k < C.length
        · obtain ⟨g, off, c1, hV, hg, p0, p1, p2⟩ := rd_cli (HRD.out.below HFI.out.bel) hlt
          injection hV with hA1 hB1 hC1
          subst hA1
          clear hB1 hC1
          have hyes := Lib.hid (filt_yes hlt (p := fun y => y.c != (j : Int)))
          have hno := Lib.hid (filt_no hlt (p := fun y => y.c != (j : Int)))
          generalize C[k] = y at *
          obtain ⟨yc, yn, ye⟩ := y
          simp only at p0 p1 p2 hyes hno
          cases hq : (yc != (j : Int)) with
          | false =>
            have hE := Lib.hid (hno.out (by simp [hq]))
            have HF2 : Hid (FilP w3.heap.size w3 A' m c' ((C.take (k + 1)).filter (fun y => y.c != (j : Int))) (wr.alloc (.cells #[.int .i64 yc, .int .i64 yn, .int .i64 ye] 68))) := by
              unfold Hid
              rw [hE.out]
              exact ⟨HFI.out.len, HFI.out.own.alloc _, HFI.out.bel.alloc hwsz _⟩
            clear hyes hno hE
            go_wp2_with fail
            exact ⟨⟨k + 1, A', m, c', by omega, by simp, rfl, by omega, HF2.out⟩, by simp [intOf]; omega⟩
          | true =>
            have hE := Lib.hid (hyes.out hq)
            have HO := HFI.out.own
            clear hyes hno
            go_wp2_with (at_builtin; refine wpList_append_own _ rfl _ _ 28 rfl w3.heap.size 68 i0 _ 3 24 Tryd.underlying28 hi0 hz0 hz1 hz2 rfl (by omega) _ _ _ rfl ((HO.alloc _).alloc _) ⟨wr.heap.size + 1, 0, none⟩ 1 1 [.int .i64 yc, .int .i64 yn, .int .i64 ye] rfl rfl (news_box (cs := #[.int .i64 yc, .int .i64 yn, .int .i64 ye]) (by simp)) (by simp [Value.oneCell']) (by show _ ≤ 9223372036854775807; omega) (by omega) (by simp; omega) ?_; intro v' w6 hown' hgrow _; obtain ⟨g', cap', rfl⟩ := ownsRow_succ hown')
            have hF3 : Hid (FilP w3.heap.size w3 (some ⟨g', 0, none⟩) (m + 1) cap' ((C.take (k + 1)).filter (fun y => y.c != (j : Int))) w6) := by
              unfold Hid
              rw [hE.out]
              refine ⟨by rw [List.length_append, HFI.out.len]; rfl, ?_, HFI.out.bel.trans ((((Below.refl w3.heap.size wr).alloc hwsz _).alloc (by simp; omega) _).grown hgrow (by simp; omega) (fun g e => (HO.lt g e).1))⟩
              rw [cellsC_append]
              exact hown'
            clear hown' hgrow HO hE
            go_wp2_with fail
            exact ⟨⟨k + 1, some ⟨g', 0, none⟩, m + 1, cap', by omega, by simp, rfl, by omega, hF3.out⟩, by simp [intOf]; omega⟩
        · obtain rfl : k = C.length := by omega
          rw [List.take_length] at HFI
          have HO := HFI.out.own
          have hM := HM3.out.below HFI.out.bel
          have hR := HR3.out.below HFI.out.bel HR3.out.lt
          have HMB := Lib.hid hM
          have HRB := Lib.hid hR
          have hbb : (w.heap.size + 1) ≠ b := fun e => Blk.ne_ hR hM.box (by decide) e
          have hblt := hM.box.lt
          clear hM hR
          go_wp2_with (at_builtin; refine wpList_append_own _ rfl _ _ 28 rfl w3.heap.size 68 i0 _ 3 24 Tryd.underlying28 hi0 hz0 hz1 hz2 rfl (by omega) _ _ _ rfl (HO.alloc _) ⟨wr.heap.size, 0, none⟩ 1 1 [.int .i64 (j : Int), .int .i64 n, .int .i64 er] rfl rfl (news_box (cs := #[.int .i64 (j : Int), .int .i64 n, .int .i64 er]) rfl) (by simp [Value.oneCell']) (by show _ ≤ 9223372036854775807; omega) (by omega) (by simp; omega) ?_; intro v' w6 hown' hgrow _; obtain ⟨g', cap', rfl⟩ := ownsRow_succ hown'; have hbx6 := (HMB.out.box.alloc (.cells #[.int .i64 (j : Int), .int .i64 n, .int .i64 er] 68)).grown hgrow (fun e => by have := (HO.lt _ e.symm).1; have := HM3.out.box.lt; omega); have c61 := hbx6.cell 1; have f61 := hbx6.frozen 1; have hrx6 := (HRB.out.alloc (.cells #[.int .i64 (j : Int), .int .i64 n, .int .i64 er] 68)).grown hgrow (fun e => by have := (HO.lt _ e.symm).1; have := HR3.out.lt; omega); obtain ⟨z0, z1, z2, y0, y1, y2⟩ := told3 hrx6)
          have hb6 : Below w3.heap.size wr w6 := ((Below.refl w3.heap.size wr).alloc hwsz _).grown hgrow (by simp; omega) (fun g e => (HO.lt g e).1)
          have hrow6 := own_below HM3.out.row ((HFI.out.bel.trans hb6))
          have hcb : Chg (fun i => i = b) w6 (w6.setCell ⟨b, 1, none⟩ (.slice (some ⟨g', 0, none⟩) (m + 1) cap')) := (Chg.refl (fun i => i = b) w6).setCell (p := ⟨b, 1, none⟩) (fun _ => rfl) _
          have hlen : ((C.filter (fun y => y.c != (j : Int))) ++ [(⟨(j : Int), n, er⟩ : Cli)]).length = m + 1 := by rw [List.length_append, HFI.out.len]; rfl
          have hbs := HM3.out.box.lt
          have hM7 : RMtP base (w6.setCell ⟨b, 1, none⟩ (.slice (some ⟨g', 0, none⟩) (m + 1) cap')) b lv' (.slice (some ⟨g', 0, none⟩) (m + 1) cap') tk' ((C.filter (fun y => y.c != (j : Int))) ++ [(⟨(j : Int), n, er⟩ : Cli)]) := by
            refine ⟨hbx6.set_ 1 _, hcb.owns hrow6 (fun k hk' e => own_blk_ne hrow6 hbx6 (by decide) (by rw [hk', e])), ?_, HM3.out.hb⟩
            rw [hlen, cellsC_append]
            exact own_weaken (hcb.owns hown' (fun k hk' e => own_blk_ne hown' hbx6 (by decide) (by rw [hk', e]))) (by have := HM3.out.hb; omega)
          have hR7 := hrx6.far (p := ⟨b, 1, none⟩) hbb (.slice (some ⟨g', 0, none⟩) (m + 1) cap')
          have hC7 : Chg (RMine base w) w (w6.setCell ⟨b, 1, none⟩ (.slice (some ⟨g', 0, none⟩) (m + 1) cap')) := by
            refine rm_trans HCH.out ((rm_below (base := base) (HFI.out.bel.trans hb6)).setCell (p := ⟨b, 1, none⟩) (fun _ => ⟨HM3.out.hb, _, _, HM3.out.box, .inl rfl⟩) _)
          refine bodyPost_ret (v := .agg #[.int .i64 er, .bool true, .int .i64 0]) (by simp [results, Tryd.results8, go_sem, z0, z1, z2, hbb]) rfl ?_
          rw [HF.out]
          unfold RDoP
          refine ⟨_, _, _, rfl, hM7.told hR7 (by decide) _ _ _, HAG2.out er, ?_, rm_told hC7 (by omega) _ _ _⟩
          rw [List.length_append]
          have := List.length_filter_le (fun y : Cli => y.c != (j : Int)) C
          simp only [List.length_singleton]
          omega

end Go.Proofs.YtijacbnoemjgcaaDoor
