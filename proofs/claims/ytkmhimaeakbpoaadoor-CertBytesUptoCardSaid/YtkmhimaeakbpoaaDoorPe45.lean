/- The document's Decode (printed by tools/gen_yy.py). -/
import Derived.Test.YtkmhimaeakbpoaaDoorPe31
import Derived.Test.YtkmhimaeakbpoaaDoorPe41
import Derived.Test.YtkmhimaeakbpoaaDoorPe44
set_option linter.unusedVariables false
set_option linter.unusedSimpArgs false
set_option linter.unnecessarySimpa false
namespace Go.Proofs.YtkmhimaeakbpoaaDoor
open Go.RowKit Go.Shelf

structure RDecI (w W : World) : Prop where
  z : Blk W w.heap.size 36 #[.string ⟨#[]⟩, .int .i64 0, .slice none 0 0]
  bel : Below w.heap.size w W
theorem RDecI.start (w : World) : RDecI w (w.alloc (.cells #[.string ⟨#[]⟩, .int .i64 0, .slice none 0 0] 36)) := ⟨Blk.new _ _ _, (Below.refl _ w).alloc (Nat.le_refl _) _⟩
theorem RDecI.below {w W W' : World} (h : RDecI w W) {B : Nat} (hb : Below B W W') (hB : w.heap.size + 1 ≤ B) : RDecI w W' := ⟨h.z.below hb (by omega), h.bel.trans (hb.mono (by omega))⟩
theorem RDecI.exit {w W : World} (h : RDecI w W) : RDecI w (((W.setCell ⟨w.heap.size, 0, none⟩ (.string ⟨#[]⟩)).setCell ⟨w.heap.size, 1, none⟩ (.int .i64 0)).setCell ⟨w.heap.size, 2, none⟩ (.slice none 0 0)) :=
  ⟨((h.z.set_ 0 _).set_ 1 _).set_ 2 _, below_set3Y h.bel _ _ _ (Nat.le_refl _)⟩
theorem RDecI.ok {w W : World} (h : RDecI w W) (t : Bs) (gn : Int) (v : Value) {be n : Nat} {xs : List Value} (ho : W.ownsRow be 75 2 v n xs) (hbe : w.heap.size + 1 ≤ be) :
    let W5 := ((W.setCell ⟨w.heap.size, 0, none⟩ (.string ⟨t.toArray⟩)).setCell ⟨w.heap.size, 1, none⟩ (.int .i64 gn)).setCell ⟨w.heap.size, 2, none⟩ v
    Blk W5 w.heap.size 36 #[.string ⟨t.toArray⟩, .int .i64 gn, v] ∧ W5.ownsRow w.heap.size 75 2 v n xs ∧ Below w.heap.size w W5 :=
  ⟨((h.z.set_ 0 _).set_ 1 _).set_ 2 _, own_weaken (rown_set3Y h.z ho _ _ _) (by omega), below_set3Y h.bel _ _ _ (Nat.le_refl _)⟩
theorem getIY {l : List Bs} {t g : Bs} {ll : List Bs} (h : l = t :: g :: ll) {i k : Nat} (hi : i = 2 + 2 * k) (hk : i < l.length) : l[i] = ll.getD (2 * k) [] := by subst hi; exact getNY h hk
theorem getJY {l : List Bs} {t g : Bs} {ll : List Bs} (h : l = t :: g :: ll) {i k : Nat} (hi : i = 2 + 2 * k) (hk : i + 1 < l.length) : l[i + 1] = ll.getD (2 * k + 1) [] := by subst hi; exact getNY h (k := 2 * k + 1) hk
/-- Between two rounds. -/
structure MidR (w : World) (be : Nat) (t g : Bs) (ll l : List Bs) (sl : Value) (k : Nat) (gv : Int) (W : World) : Prop where
  z : RDecI w W
  out : ∃ v, Blk W be 36 #[.string ⟨t.toArray⟩, .int .i64 gv, v] ∧ W.ownsRow (be + 1) 75 2 v k (cellsT (prL ll k))
  good : ∀ i, i < k → prG ll i
  row : Rd W be 1 sl l.length (strs l)
  size : be + 1 ≤ W.heap.size
  hbe : w.heap.size + 1 ≤ be
/-- Where the loop's index stands. -/
def WhR (g : Bs) (i k : Nat) (gv : Int) : Prop := (i = 1 ∧ k = 0 ∧ gv = 0) ∨ ((i = 2 + 2 * k ∨ (i = 1 + 2 * k ∧ 1 ≤ k)) ∧ gv = (toNumB g).1 ∧ (toNumB g).2 = 0)
theorem MidR.group {w : World} {be : Nat} {t g : Bs} {ll l : List Bs} {sl : Value} {k : Nat} {gv : Int} {W w5 : World} {v : Value} (h : MidR w be t g ll l sl k gv W)
    (hbx : Blk W be 36 #[.string ⟨t.toArray⟩, .int .i64 gv, v]) (how : W.ownsRow (be + 1) 75 2 v k (cellsT (prL ll k))) (hb : Below W.heap.size W w5) (n : Int) :
    MidR w be t g ll l sl k n (w5.setCell ⟨be, 1, none⟩ (.int .i64 n)) := by
  have hC : Chg (fun i => i = be) W (w5.setCell ⟨be, 1, none⟩ (.int .i64 n)) := ((Chg.of_below (F := fun i => i = be) hb).setCell (p := ⟨be, 1, none⟩) (fun _ => rfl) _)
  have hsz := h.size
  have hbl : Below be W (w5.setCell ⟨be, 1, none⟩ (.int .i64 n)) := hC.to_below (fun i hi e => by omega) (by omega)
  exact ⟨h.z.below hbl h.hbe, ⟨v, (hbx.below hb hbx.lt).set_ 1 _, hC.owns how (fun g hg e => by have := (how.lt g hg).1; omega)⟩, h.good, h.row.below hbl, Nat.le_trans h.size hC.size, h.hbe⟩
theorem MidR.push {w : World} {be : Nat} {t g : Bs} {ll l : List Bs} {sl : Value} {k : Nat} {gv : Int} {W w5 w6 : World} {v : Value} {n : Int} {s : Bs} {A6 : Option Addr} {c6 : Nat} {o1 : Obj} (h : MidR w be t g ll l sl k gv W)
    (hbx : Blk W be 36 #[.string ⟨t.toArray⟩, .int .i64 gv, v]) (how : W.ownsRow (be + 1) 75 2 v k (cellsT (prL ll k)))
    (hb : Below W.heap.size W w5) (hg : (w5.drew.alloc o1).grownBy w6 v.ownBlock) (ho : w6.ownsRow (be + 1) 75 2 (.slice A6 (k + 1) c6) (k + 1) (cellsT (prL ll k) ++ tagC (n, s)))
    (he : prT ll k = (n, s)) (hgd : prG ll k) : MidR w be t g ll l sl (k + 1) gv (w6.setCell ⟨be, 2, none⟩ (.slice A6 (k + 1) c6)) := by
  have hC1 : Chg (fun j => v.ownBlock = some j) W w6 := (((Chg.refl _ W).below hb).drew.trans (chg_app hg) (fun i _ e => e))
  have hC2 : Chg (fun j => v.ownBlock = some j ∨ j = be) W (w6.setCell ⟨be, 2, none⟩ (.slice A6 (k + 1) c6)) := (hC1.mono (fun _ _ e => .inl e)).setCell (p := ⟨be, 2, none⟩) (fun _ => .inr rfl) _
  have hsz := h.size
  have hbl : Below be W (w6.setCell ⟨be, 2, none⟩ (.slice A6 (k + 1) c6)) := hC2.to_below (fun i hi h1 => by
    rcases h1 with h1 | h1
    · have := (how.lt _ h1).1; omega
    · omega) (by omega)
  have hbx6 : Blk w6 be 36 #[.string ⟨t.toArray⟩, .int .i64 gv, v] := hbx.chg hC1 (fun e => by have := (how.lt _ e).1; omega)
  refine ⟨h.z.below hbl h.hbe, ⟨_, hbx6.set_ 2 _, ?_⟩, ?_, h.row.below hbl, Nat.le_trans h.size hC2.size, h.hbe⟩
  · have hown2 := ((Chg.refl (fun j => j = be) w6).setCell (p := ⟨be, 2, none⟩) (fun _ => rfl) (.slice A6 (k + 1) c6)).owns ho (fun g h e => by have := (ho.lt g h).1; omega)
    rw [prL_succ, cellsT_append, he]
    simpa [cellsT] using hown2
  · intro i hi
    by_cases h1 : i < k
    · exact h.good i h1
    · rw [show i = k by omega]; exact hgd

set_option maxHeartbeats 8000000 in
set_option maxRecDepth 100000 in
theorem rdecode_any (b : Bs) (hb : b.length ≤ 1048576) (w : World) :
    Calls Tryd.prog 21 #[.string ⟨b.toArray⟩] w (RCrtOut w (decS b)) := by
  unfold RCrtOut
  have I0 := RDecI.start w
  have hU := runpack_any b (by omega) (w.alloc (.cells #[.string ⟨#[]⟩, .int .i64 0, .slice none 0 0] 36))
  have HSM := Lib.hid (unpackB_small b)
  have HI0 := Lib.hid I0
  clear I0
  by_cases he : (unpackB b).2 = 0
  · have HD := Lib.hid (decS_list he)
    rw [he] at hU
    clear he
    generalize (unpackB b).1 = l at *
    by_cases h2 : l.length < 2
    · have HE : Hid (decS b = (crt0, 4)) := by unfold Hid; rw [HD.out, decL_short h2]
      have hi2 : (l.length : Int) < 2 := by omega
      go_enter Tryd.func21, Tryd.ntmps21
      go_wp2_with fail
      refine hU.mono ?_
      rintro e w1 ⟨v, rfl, hv, hb1⟩
      obtain ⟨A, c, rfl⟩ := own_shape hv
      have HI1 := Lib.hid (HI0.out.below hb1 (by simp))
      have r0 := HI1.out.z
      have x0 := r0.frozen 0
      have x1 := r0.frozen 1
      have x2 := r0.frozen 2
      have v0 : w1.cell? ⟨w.heap.size, 0, none⟩ = some (.string ⟨#[]⟩) := r0.cell 0
      have v1 : w1.cell? ⟨w.heap.size, 1, none⟩ = some (.int .i64 0) := r0.cell 1
      have v2 : w1.cell? ⟨w.heap.size, 2, none⟩ = some (.slice none 0 0) := r0.cell 2
      have HX := Lib.hid (RDecI.exit HI1.out)
      clear r0
      clear hU hv hb1 HI0 h2
      go_wp2_with fail
      have hx := HX.out
      have z0 := hx.z.cell 0
      have z1 := hx.z.cell 1
      have z2 := hx.z.cell 2
      refine bodyPost_ret (v := .tuple #[.agg #[.string ⟨#[]⟩, .int .i64 0, .slice none 0 0], .int .i64 4]) (by simp [results, Tryd.results21, go_sem, z0, z1, z2]) rfl ?_
      exact ⟨none, 0, by rw [HE.out]; rfl, by rw [HE.out]; exact World.ownsRow_nil _ _ _ _, hx.bel⟩
    have hi2 : decide ((l.length : Int) < 2) = false := by rw [decide_eq_false_iff_not]; omega
    by_cases ho : l.length % 2 = 1
    · have HE : Hid (decS b = (crt0, 4)) := by unfold Hid; rw [HD.out, decL_odd ho]
      have hi3 : ((l.length : Int) % 2 == 1) = true := by rw [beq_iff_eq]; omega
      clear h2 ho
      go_enter Tryd.func21, Tryd.ntmps21
      go_wp2_with fail
      refine hU.mono ?_
      rintro e w1 ⟨v, rfl, hv, hb1⟩
      obtain ⟨A, c, rfl⟩ := own_shape hv
      have HI1 := Lib.hid (HI0.out.below hb1 (by simp))
      have r0 := HI1.out.z
      have x0 := r0.frozen 0
      have x1 := r0.frozen 1
      have x2 := r0.frozen 2
      have v0 : w1.cell? ⟨w.heap.size, 0, none⟩ = some (.string ⟨#[]⟩) := r0.cell 0
      have v1 : w1.cell? ⟨w.heap.size, 1, none⟩ = some (.int .i64 0) := r0.cell 1
      have v2 : w1.cell? ⟨w.heap.size, 2, none⟩ = some (.slice none 0 0) := r0.cell 2
      have HX := Lib.hid (RDecI.exit HI1.out)
      clear r0
      clear hU hv hb1 HI0
      go_wp2_with fail
      have hx := HX.out
      have z0 := hx.z.cell 0
      have z1 := hx.z.cell 1
      have z2 := hx.z.cell 2
      refine bodyPost_ret (v := .tuple #[.agg #[.string ⟨#[]⟩, .int .i64 0, .slice none 0 0], .int .i64 4]) (by simp [results, Tryd.results21, go_sem, z0, z1, z2]) rfl ?_
      exact ⟨none, 0, by rw [HE.out]; rfl, by rw [HE.out]; exact World.ownsRow_nil _ _ _ _, hx.bel⟩
    have hi3 : ((l.length : Int) % 2 == 1) = false := by rw [beq_eq_false_iff_ne]; omega
    obtain ⟨t, g, ll, HL, q, HQ, hq9⟩ : ∃ t g ll, Hid (l = t :: g :: ll) ∧ ∃ q, Hid (ll.length = 2 * q) ∧ q ≤ 1048576 := by
      match l, h2, ho, HSM with
      | [], h2, _, _ => simp at h2
      | [_], h2, _, _ => simp at h2
      | t :: g :: ll, _, ho, hs => exact ⟨t, g, ll, rfl, ll.length / 2, by unfold Hid; simp at ho; omega, by have := hs.out.1; simp at this; omega⟩
    have hll : l.length = 2 + 2 * q := by rw [HL.out]; simp [HQ.out]; omega
    have HLL := Lib.hid hll
    have hi4 : (2 : Int) ≤ (l.length : Int) := by omega
    have hi6 : (0 : Int) < (l.length : Int) := by omega
    have hi7 : (1 : Int) < (l.length : Int) := by omega
    have hlb : l.length ≤ b.length := HSM.out.1
    have hg1 := HSM.out.2 g (by rw [HL.out]; simp)
    clear h2 ho hll
    go_enter Tryd.func21, Tryd.ntmps21
    go_wp2_with fail
    refine hU.mono ?_
    rintro e w1 ⟨v, rfl, hv, hb1⟩
    obtain ⟨A, c, rfl⟩ := own_shape hv
    have HI1 := Lib.hid (HI0.out.below hb1 (by simp))
    rcases hv.2 with ⟨_, h1⟩ | ⟨gb, cap, cur, hVe, hbg, hgg, hnc, hcm, _⟩
    · omega
    injection hVe with hA _ hcc
    subst hA hcc
    have hrd := Rd.of_own hv
    have hlt0 : 0 < l.length := by omega
    obtain ⟨gb', off, c', hV, hgb', q0⟩ := rd_gets hrd hlt0
    injection hV with hA _ hcc
    injection hA with hA
    injection hA with hA1 hA2 hA3
    subst hA1 hA2
    clear hcc hA3
    rw [get0Y HL.out] at q0
    rw [Nat.zero_add] at q0
    have HST : Hid (MidR w w1.heap.size t g ll l (.slice (some ⟨gb, 0, none⟩) l.length c) 0 0 (w1.alloc (.cells #[.string ⟨t.toArray⟩, .int .i64 0, .slice none 0 0] 36))) :=
      ⟨⟨HI1.out.z.alloc _, HI1.out.bel.alloc HI1.out.bel.size _⟩, ⟨_, Blk.new _ _ _, World.ownsRow_nil _ _ _ _⟩, fun j hj => by omega, hrd.below ((Below.refl _ w1).alloc (Nat.le_refl _) _), by simp, HI1.out.z.lt⟩
    have hsz1 : w.heap.size + 1 ≤ w1.heap.size := HI1.out.z.lt
    clear hU hv hb1 HI0 hrd hlt0 hbg hgg
    go_wp2_with fail
    go_loopw [7] (fun s7 wr => ∃ (i k : Nat) (gv : Int), i ≤ l.length ∧ s7 = .int .i64 i ∧ Hid (MidR w w1.heap.size t g ll l (.slice (some ⟨gb, 0, none⟩) l.length c) k gv wr ∧ WhR g i k gv)) (fun s7 _ => l.length - (intOf s7).toNat)
    case atStart => exact ⟨1, 0, 0, by omega, rfl, HST.out, .inl ⟨rfl, rfl, rfl⟩⟩
    case round =>
      obtain ⟨i, k, gv, hil, rfl, HMW⟩ := hrel
      clear HST q0 HI1
      have HM := Lib.hid HMW.out.1
      rcases HMW.out.2 with ⟨rfl, rfl, rfl⟩ | ⟨hik, hgv, hg0⟩
      · -- the group's number
        have hlt1 : 1 < l.length := by omega
        obtain ⟨g', of', c', hV, hgl, q1⟩ := rd_gets HM.out.row hlt1
        injection hV with hA1 _ hcc
        clear hcc
        injection hA1 with hA1
        injection hA1 with hA1 hA2 _
        subst hA1
        subst hA2
        rw [get1Y HL.out, Nat.zero_add] at q1
        have hN := rtoNum_any g (by omega) wr
        clear HMW
        by_cases hn : (toNumB g).2 = 0
        · rw [hn] at hN
          have HGG := Lib.hid hn
          obtain ⟨v, hOb, hOw⟩ := HM.out.out
          have HOB := Lib.hid hOb
          have HOW := Lib.hid hOw
          clear hn hOb hOw
          go_wp2_with fail
          refine hN.mono ?_
          rintro e w5 ⟨rfl, hb5⟩
          have hob5 := HOB.out.below hb5 HOB.out.lt
          have c5 : w5.cell? ⟨w1.heap.size, 1, none⟩ = some (.int .i64 0) := hob5.cell 1
          have f5 := hob5.frozen 1
          have hfin := Lib.hid (HM.out.group HOB.out HOW.out hb5 (toNumB g).1)
          clear hob5 hN hb5
          go_wp2_with fail
          refine ⟨?_, ?_⟩
          · exact ⟨2, 0, (toNumB g).1, by omega, rfl, hfin.out, .inr ⟨.inl rfl, rfl, HGG.out⟩⟩
          · simp [intOf]; omega
        · have HE : Hid (decS b = (crt0, 4)) := by unfold Hid; rw [HD.out, HL.out, decL_num hn]
          have h4 := toNum_fourY g hn
          rw [h4] at hN
          clear hn h4
          generalize (toNumB g).1 = n at *
          go_wp2_with fail
          refine hN.mono ?_
          rintro e w5 ⟨rfl, hb5⟩
          have HI5 := Lib.hid (HM.out.z.below hb5 (by have := HM.out.size; omega))
          have r0 := HI5.out.z
          have x0 := r0.frozen 0
          have x1 := r0.frozen 1
          have x2 := r0.frozen 2
          have v0 : w5.cell? ⟨w.heap.size, 0, none⟩ = some (.string ⟨#[]⟩) := r0.cell 0
          have v1 : w5.cell? ⟨w.heap.size, 1, none⟩ = some (.int .i64 0) := r0.cell 1
          have v2 : w5.cell? ⟨w.heap.size, 2, none⟩ = some (.slice none 0 0) := r0.cell 2
          have HX := Lib.hid (RDecI.exit HI5.out)
          clear r0
          clear hN hb5
          go_wp2_with fail
          have hx := HX.out
          have z0 := hx.z.cell 0
          have z1 := hx.z.cell 1
          have z2 := hx.z.cell 2
          refine bodyPost_ret (v := .tuple #[.agg #[.string ⟨#[]⟩, .int .i64 0, .slice none 0 0], .int .i64 4]) (by simp [results, Tryd.results21, go_sem, z0, z1, z2]) rfl ?_
          exact ⟨none, 0, by rw [HE.out]; rfl, by rw [HE.out]; exact World.ownsRow_nil _ _ _ _, hx.bel⟩
      · have hi1 : (1 : Int) < (i : Int) := by rcases hik with h | ⟨h, _⟩ <;> omega
        have HGG := Lib.hid hg0
        subst hgv
        clear HMW hg0
        rcases hik with hik | ⟨hik, hk1⟩
        · have HIK := Lib.hid hik
          by_cases hlt : i < l.length
          · -- a tag
            have hil2 : (i : Int) < (l.length : Int) := by omega
            have hodd : ((i : Int) % 2 == 1) = false := by rw [beq_eq_false_iff_ne]; omega
            have hne1 : ((i : Int) == 1) = false := by rw [beq_eq_false_iff_ne]; omega
            have hkq : k < q := by have := HLL.out; omega
            have hlt1 : i + 1 < l.length := by have := HLL.out; omega
            obtain ⟨g', of', c', hV, hgl, q2⟩ := rd_gets HM.out.row hlt
            injection hV with hA1 _ hcc
            clear hcc
            injection hA1 with hA1
            injection hA1 with hA1 hA2 _
            subst hA1
            subst hA2
            obtain ⟨g', of', c', hV, _, q3⟩ := rd_gets HM.out.row hlt1
            injection hV with hA1 _ hcc
            clear hcc
            injection hA1 with hA1
            injection hA1 with hA1 hA2 _
            subst hA1
            subst hA2
            have hs0 := HSM.out.2 _ (List.getElem_mem hlt)
            rw [getIY HL.out hik hlt] at q2 hs0
            rw [getJY HL.out hik hlt1] at q3
            rw [Nat.zero_add] at q2 q3
            have HPT : Hid (prT ll k = ((toNumB (ll.getD (2 * k) [])).1, ll.getD (2 * k + 1) [])) := rfl
            have HPG : Hid (prG ll k ↔ (toNumB (ll.getD (2 * k) [])).2 = 0) := Iff.rfl
            have HNF : Hid ((toNumB (ll.getD (2 * k) [])).2 ≠ 0 → (toNumB (ll.getD (2 * k) [])).2 = 4) := toNum_fourY _
            obtain ⟨v, hOb, hOw⟩ := HM.out.out
            obtain ⟨Av, cv, rfl⟩ := own_shape hOw
            have HOB := Lib.hid hOb
            have HOW := Lib.hid hOw
            generalize ll.getD (2 * k) [] = s0 at *
            generalize ll.getD (2 * k + 1) [] = s1 at *
            have hN := rtoNum_any s0 (by omega) wr
            have hWs := HM.out.size
            have hwr : IntKind.i64.wrap ((i : Int) + 1) = (i : Int) + 1 := wrap_small _ (by omega) (by omega)
            have h63 : (i : Int) + 1 < (l.length : Int) := by omega
            have hmx : (i : Int) + 1 ≤ 9223372036854775807 := by omega
            have htn : ((i : Int) + 1).toNat = i + 1 := by omega
            have hn0 : (0 : Int) ≤ (i : Int) + 1 := by omega
            have HLT := Lib.hid hlt
            have HLT1 := Lib.hid hlt1
            have hi9 : i ≤ 1048576 := by omega
            clear hOb hOw hlt1 hik
            by_cases h0 : (toNumB s0).2 = 0
            · rw [h0] at hN
              replace HPG := Lib.hid (HPG.out.2 h0)
              clear h0 HNF
              generalize (toNumB s0).1 = n at *
              go_wp2_with fail
              refine hN.mono ?_
              rintro e w5 ⟨rfl, hb5⟩
              have q3' := (hb5.cell (p := ⟨gb, i + 1, none⟩) (by show gb < _; omega)).trans q3
              have hOb5 := HOB.out.below hb5 HOB.out.lt
              have c5 : w5.cell? ⟨w1.heap.size, 2, none⟩ = some (.slice Av k cv) := hOb5.cell 2
              have f5 := hOb5.frozen 2
              have HBX5 := Lib.hid (hOb5.drew.alloc (.cells #[.int .i64 n, .string ⟨s1.toArray⟩] 75))
              have HOW5 := Lib.hid (((Chg.of_below (F := fun _ => False) hb5).drew.alloc (.cells #[.int .i64 n, .string ⟨s1.toArray⟩] 75)).owns HOW.out (fun _ _ h => h))
              have hne6 : some w1.heap.size ≠ (Value.slice Av k cv).ownBlock := fun e => by have := (HOW.out.lt _ e.symm).1; omega
              have hone : ∀ u ∈ tagC (n, s1), u.oneCell' = true := by simp [tagC, Value.oneCell']
              have hml : k + 1 ≤ maxLen := by show _ ≤ 9223372036854775807; omega
              have hmb : (k + 1) * 24 ≤ 140737488355328 := by omega
              have hbs5 : w1.heap.size + 1 ≤ (w5.drew.alloc (.cells #[.int .i64 n, .string ⟨s1.toArray⟩] 75)).heap.size := by have := hb5.size; simp; omega
              have h1u := Tryd.underlying34
              obtain ⟨i0, hi0, hz0, hz1, hz2⟩ := info_parts rtag_info
              have hlt5 : w1.heap.size < w5.heap.size := by have := hb5.size; omega
              clear hOb5 hN q2 q3
              go_upto_region 14 with fail
              refine wp_region_any (by kernel_rfl) ?_
              try (change wpAny _ _ _ _ _ _ _ (World.drew _))
              refine wpAny_take (i := 0) (oi := ⟨_, _, _, _, _, _⟩) (v := ?_) rfl (by kernel_rfl) (by kernel_rfl) (by kernel_rfl) (fun _ _ _ h => h) (Or.inl ⟨by rfl, ?_⟩) ?_
              rotate_left
              · intro w
                first | (go_simp; done) | (go_simp; rfl)
              simp only [Act.put, List.setIfInBounds_toArray, List.set_cons_zero, List.set_cons_succ]
              refine wpAny_take (i := 2) (oi := ⟨_, _, _, _, _, _⟩) (v := ?_) rfl (by kernel_rfl) (by kernel_rfl) (by kernel_rfl) (fun _ _ _ h => h) (Or.inl ⟨by rfl, ?_⟩) ?_
              rotate_left
              · intro w
                first | (go_simp; done) | (go_simp; rfl)
              simp only [Act.put, List.setIfInBounds_toArray, List.set_cons_zero, List.set_cons_succ]
              refine wpAny_take (i := 3) (oi := ⟨_, _, _, _, _, _⟩) (v := ?_) rfl (by kernel_rfl) (by kernel_rfl) (by kernel_rfl) (fun _ _ _ h => h) (Or.inl ⟨by rfl, ?_⟩) ?_
              rotate_left
              · intro w
                first | (go_simp; done) | (go_simp; rfl)
              simp only [Act.put, List.setIfInBounds_toArray, List.set_cons_zero, List.set_cons_succ]
              refine wpAny_take (i := 4) (oi := ⟨_, _, _, _, _, _⟩) (v := ?_) rfl (by kernel_rfl) (by kernel_rfl) (by kernel_rfl) (fun _ _ _ h => h) (Or.inl ⟨by rfl, ?_⟩) ?_
              rotate_left
              · intro w
                first | (go_simp; done) | (go_simp; rfl)
              simp only [Act.put, List.setIfInBounds_toArray, List.set_cons_zero, List.set_cons_succ]
              refine wpAny_take (i := 5) (oi := ⟨_, _, _, _, _, _⟩) (v := ?_) rfl (by kernel_rfl) (by kernel_rfl) (by kernel_rfl) (fun _ _ _ h => h) (Or.inl ⟨by rfl, ?_⟩) ?_
              rotate_left
              · intro w
                first | (go_simp; done) | (go_simp; rfl)
              simp only [Act.put, List.setIfInBounds_toArray, List.set_cons_zero, List.set_cons_succ]
              refine wpAny_take (i := 6) (oi := ⟨_, _, _, _, _, _⟩) (v := ?_) rfl (by kernel_rfl) (by kernel_rfl) (by kernel_rfl) (fun _ _ _ h => h) (Or.inl ⟨by rfl, ?_⟩) ?_
              rotate_left
              · intro w
                first | (go_simp; done) | (go_simp; rfl)
              simp only [Act.put, List.setIfInBounds_toArray, List.set_cons_zero, List.set_cons_succ]
              refine wpAny_ready (rs := [1, 7]) (by kernel_rfl) (by simp) ?_
              refine AllReady.cons (o := ⟨_, _, _, _, _, _⟩) rfl (fun K hK => ?_) (AllReady.cons (o := ⟨_, _, _, _, _, _⟩) rfl (fun K hK => ?_) (AllReady.nil))
              · go_simp
                refine hK _ _ ?_
                clear hK K
                try simp only [Act.put, List.setIfInBounds_toArray, List.set_cons_zero, List.set_cons_succ]
                refine wpAny_ready (rs := [7]) (by kernel_rfl) (by simp) ?_
                refine AllReady.cons (o := ⟨_, _, _, _, _, _⟩) rfl (fun K hK => ?_) (AllReady.nil)
                · go_simp
                  refine hK _ _ ?_
                  clear hK K
                  try simp only [Act.put, List.setIfInBounds_toArray, List.set_cons_zero, List.set_cons_succ]
                  refine wpAny_take (i := 8) (oi := ⟨_, _, _, _, _, _⟩) (v := ?_) rfl (by kernel_rfl) (by kernel_rfl) (by kernel_rfl) (fun _ _ _ h => h) (Or.inl ⟨by rfl, ?_⟩) ?_
                  rotate_left
                  · intro w
                    first | (go_simp; done) | (go_simp; rfl)
                  simp only [Act.put, List.setIfInBounds_toArray, List.set_cons_zero, List.set_cons_succ]
                  refine wpAny_ready (rs := [9]) (by kernel_rfl) (by simp) ?_
                  refine AllReady.cons (o := ⟨_, _, _, _, _, _⟩) rfl (fun K hK => ?_) (AllReady.nil)
                  · go_simp
                    refine hK _ _ ?_
                    clear hK K
                    try simp only [Act.put, List.setIfInBounds_toArray, List.set_cons_zero, List.set_cons_succ]
                    refine wpAny_ready (rs := [10]) (by kernel_rfl) (by simp) ?_
                    refine AllReady.cons (o := ⟨_, _, _, _, _, _⟩) rfl (fun K hK => ?_) (AllReady.nil)
                    · refine step_append_lies _ rfl _ _ 34 rfl (w1.heap.size + 1) 75 i0 _ 2 24 h1u hi0 hz0 hz1 hz2 rfl (by omega) (.slice Av k cv) k _ rfl HOW5.out ⟨w5.heap.size, 0, none⟩ 1 1 (tagC (n, s1)) rfl rfl (World.news_of_block (Blk.new w5.drew 75 #[.int .i64 n, .string ⟨s1.toArray⟩])) hone (by omega) hml hmb hbs5 _ rfl ?_
                      intro g6 c6 w6 hown6 hg6 _ _
                      refine hK _ _ ?_
                      clear hK K
                      have hb6 := HBX5.out.grown hg6 hne6
                      have c6' : w6.cell? ⟨w1.heap.size, 2, none⟩ = some (.slice Av k cv) := hb6.cell 2
                      have f6' := hb6.frozen 2
                      try simp only [Act.put, List.setIfInBounds_toArray, List.set_cons_zero, List.set_cons_succ]
                      refine wpAny_take (i := 11) (oi := ⟨_, _, _, _, _, _⟩) (v := ?_) rfl (by kernel_rfl) (by kernel_rfl) (by kernel_rfl) (fun _ _ _ h => h) (Or.inl ⟨by rfl, ?_⟩) ?_
                      rotate_left
                      · intro w
                        first | (go_simp; done) | (go_simp; rfl)
                      simp only [Act.put, List.setIfInBounds_toArray, List.set_cons_zero, List.set_cons_succ]
                      refine wpAny_ready (rs := [12]) (by kernel_rfl) (by simp) ?_
                      refine AllReady.cons (o := ⟨_, _, _, _, _, _⟩) rfl (fun K hK => ?_) (AllReady.nil)
                      · go_simp
                        refine hK _ _ ?_
                        clear hK K
                        try simp only [Act.put, List.setIfInBounds_toArray, List.set_cons_zero, List.set_cons_succ]
                        refine wpAny_done (by kernel_rfl) ?_ _
                        have hfin := Lib.hid (HM.out.push HOB.out HOW.out hb5 hg6 hown6 HPT.out HPG.out)
                        clear hown6 hg6 hb6 c6' f6'
                        go_wp2_with fail
                        have hik := HIK.out
                        have hlt := HLT.out
                        refine ⟨?_, ?_⟩
                        · exact ⟨i + 1, k + 1, (toNumB g).1, by omega, by simp, hfin.out, .inr ⟨.inr ⟨by omega, by omega⟩, rfl, HGG.out⟩⟩
                        · simp [intOf]; omega
              · go_simp
                refine hK _ _ ?_
                clear hK K
                try simp only [Act.put, List.setIfInBounds_toArray, List.set_cons_zero, List.set_cons_succ]
                refine wpAny_take (i := 8) (oi := ⟨_, _, _, _, _, _⟩) (v := ?_) rfl (by kernel_rfl) (by kernel_rfl) (by kernel_rfl) (fun _ _ _ h => h) (Or.inl ⟨by rfl, ?_⟩) ?_
                rotate_left
                · intro w
                  first | (go_simp; done) | (go_simp; rfl)
                simp only [Act.put, List.setIfInBounds_toArray, List.set_cons_zero, List.set_cons_succ]
                refine wpAny_ready (rs := [1, 9]) (by kernel_rfl) (by simp) ?_
                refine AllReady.cons (o := ⟨_, _, _, _, _, _⟩) rfl (fun K hK => ?_) (AllReady.cons (o := ⟨_, _, _, _, _, _⟩) rfl (fun K hK => ?_) (AllReady.nil))
                · go_simp
                  refine hK _ _ ?_
                  clear hK K
                  try simp only [Act.put, List.setIfInBounds_toArray, List.set_cons_zero, List.set_cons_succ]
                  refine wpAny_ready (rs := [9]) (by kernel_rfl) (by simp) ?_
                  refine AllReady.cons (o := ⟨_, _, _, _, _, _⟩) rfl (fun K hK => ?_) (AllReady.nil)
                  · go_simp
                    refine hK _ _ ?_
                    clear hK K
                    try simp only [Act.put, List.setIfInBounds_toArray, List.set_cons_zero, List.set_cons_succ]
                    refine wpAny_ready (rs := [10]) (by kernel_rfl) (by simp) ?_
                    refine AllReady.cons (o := ⟨_, _, _, _, _, _⟩) rfl (fun K hK => ?_) (AllReady.nil)
                    · refine step_append_lies _ rfl _ _ 34 rfl (w1.heap.size + 1) 75 i0 _ 2 24 h1u hi0 hz0 hz1 hz2 rfl (by omega) (.slice Av k cv) k _ rfl HOW5.out ⟨w5.heap.size, 0, none⟩ 1 1 (tagC (n, s1)) rfl rfl (World.news_of_block (Blk.new w5.drew 75 #[.int .i64 n, .string ⟨s1.toArray⟩])) hone (by omega) hml hmb hbs5 _ rfl ?_
                      intro g6 c6 w6 hown6 hg6 _ _
                      refine hK _ _ ?_
                      clear hK K
                      have hb6 := HBX5.out.grown hg6 hne6
                      have c6' : w6.cell? ⟨w1.heap.size, 2, none⟩ = some (.slice Av k cv) := hb6.cell 2
                      have f6' := hb6.frozen 2
                      try simp only [Act.put, List.setIfInBounds_toArray, List.set_cons_zero, List.set_cons_succ]
                      refine wpAny_take (i := 11) (oi := ⟨_, _, _, _, _, _⟩) (v := ?_) rfl (by kernel_rfl) (by kernel_rfl) (by kernel_rfl) (fun _ _ _ h => h) (Or.inl ⟨by rfl, ?_⟩) ?_
                      rotate_left
                      · intro w
                        first | (go_simp; done) | (go_simp; rfl)
                      simp only [Act.put, List.setIfInBounds_toArray, List.set_cons_zero, List.set_cons_succ]
                      refine wpAny_ready (rs := [12]) (by kernel_rfl) (by simp) ?_
                      refine AllReady.cons (o := ⟨_, _, _, _, _, _⟩) rfl (fun K hK => ?_) (AllReady.nil)
                      · go_simp
                        refine hK _ _ ?_
                        clear hK K
                        try simp only [Act.put, List.setIfInBounds_toArray, List.set_cons_zero, List.set_cons_succ]
                        refine wpAny_done (by kernel_rfl) ?_ _
                        have hfin := Lib.hid (HM.out.push HOB.out HOW.out hb5 hg6 hown6 HPT.out HPG.out)
                        clear hown6 hg6 hb6 c6' f6'
                        go_wp2_with fail
                        have hik := HIK.out
                        have hlt := HLT.out
                        refine ⟨?_, ?_⟩
                        · exact ⟨i + 1, k + 1, (toNumB g).1, by omega, by simp, hfin.out, .inr ⟨.inr ⟨by omega, by omega⟩, rfl, HGG.out⟩⟩
                        · simp [intOf]; omega
                · go_simp
                  refine hK _ _ ?_
                  clear hK K
                  try simp only [Act.put, List.setIfInBounds_toArray, List.set_cons_zero, List.set_cons_succ]
                  refine wpAny_ready (rs := [1]) (by kernel_rfl) (by simp) ?_
                  refine AllReady.cons (o := ⟨_, _, _, _, _, _⟩) rfl (fun K hK => ?_) (AllReady.nil)
                  · go_simp
                    refine hK _ _ ?_
                    clear hK K
                    try simp only [Act.put, List.setIfInBounds_toArray, List.set_cons_zero, List.set_cons_succ]
                    refine wpAny_ready (rs := [10]) (by kernel_rfl) (by simp) ?_
                    refine AllReady.cons (o := ⟨_, _, _, _, _, _⟩) rfl (fun K hK => ?_) (AllReady.nil)
                    · refine step_append_lies _ rfl _ _ 34 rfl (w1.heap.size + 1) 75 i0 _ 2 24 h1u hi0 hz0 hz1 hz2 rfl (by omega) (.slice Av k cv) k _ rfl HOW5.out ⟨w5.heap.size, 0, none⟩ 1 1 (tagC (n, s1)) rfl rfl (World.news_of_block (Blk.new w5.drew 75 #[.int .i64 n, .string ⟨s1.toArray⟩])) hone (by omega) hml hmb hbs5 _ rfl ?_
                      intro g6 c6 w6 hown6 hg6 _ _
                      refine hK _ _ ?_
                      clear hK K
                      have hb6 := HBX5.out.grown hg6 hne6
                      have c6' : w6.cell? ⟨w1.heap.size, 2, none⟩ = some (.slice Av k cv) := hb6.cell 2
                      have f6' := hb6.frozen 2
                      try simp only [Act.put, List.setIfInBounds_toArray, List.set_cons_zero, List.set_cons_succ]
                      refine wpAny_take (i := 11) (oi := ⟨_, _, _, _, _, _⟩) (v := ?_) rfl (by kernel_rfl) (by kernel_rfl) (by kernel_rfl) (fun _ _ _ h => h) (Or.inl ⟨by rfl, ?_⟩) ?_
                      rotate_left
                      · intro w
                        first | (go_simp; done) | (go_simp; rfl)
                      simp only [Act.put, List.setIfInBounds_toArray, List.set_cons_zero, List.set_cons_succ]
                      refine wpAny_ready (rs := [12]) (by kernel_rfl) (by simp) ?_
                      refine AllReady.cons (o := ⟨_, _, _, _, _, _⟩) rfl (fun K hK => ?_) (AllReady.nil)
                      · go_simp
                        refine hK _ _ ?_
                        clear hK K
                        try simp only [Act.put, List.setIfInBounds_toArray, List.set_cons_zero, List.set_cons_succ]
                        refine wpAny_done (by kernel_rfl) ?_ _
                        have hfin := Lib.hid (HM.out.push HOB.out HOW.out hb5 hg6 hown6 HPT.out HPG.out)
                        clear hown6 hg6 hb6 c6' f6'
                        go_wp2_with fail
                        have hik := HIK.out
                        have hlt := HLT.out
                        refine ⟨?_, ?_⟩
                        · exact ⟨i + 1, k + 1, (toNumB g).1, by omega, by simp, hfin.out, .inr ⟨.inr ⟨by omega, by omega⟩, rfl, HGG.out⟩⟩
                        · simp [intOf]; omega
            · have h4 := HNF.out h0
              have hng : ¬ prG ll k := fun h => h0 (HPG.out.1 h)
              have HE : Hid (decS b = (crt0, 4)) := by unfold Hid; rw [HD.out, HL.out, decL_bad HQ.out hkq hng]
              rw [h4] at hN
              clear h0 h4 HNF HPG HPT hng
              generalize (toNumB s0).1 = n at *
              go_wp2_with fail
              refine hN.mono ?_
              rintro e w5 ⟨rfl, hb5⟩
              have HI5 := Lib.hid (HM.out.z.below hb5 (by omega))
              have r0 := HI5.out.z
              have x0 := r0.frozen 0
              have x1 := r0.frozen 1
              have x2 := r0.frozen 2
              have v0 : w5.cell? ⟨w.heap.size, 0, none⟩ = some (.string ⟨#[]⟩) := r0.cell 0
              have v1 : w5.cell? ⟨w.heap.size, 1, none⟩ = some (.int .i64 0) := r0.cell 1
              have v2 : w5.cell? ⟨w.heap.size, 2, none⟩ = some (.slice none 0 0) := r0.cell 2
              have HX := Lib.hid (RDecI.exit HI5.out)
              clear r0
              clear hN hb5
              go_wp2_with fail
              have hx := HX.out
              have z0 := hx.z.cell 0
              have z1 := hx.z.cell 1
              have z2 := hx.z.cell 2
              refine bodyPost_ret (v := .tuple #[.agg #[.string ⟨#[]⟩, .int .i64 0, .slice none 0 0], .int .i64 4]) (by simp [results, Tryd.results21, go_sem, z0, z1, z2]) rfl ?_
              exact ⟨none, 0, by rw [HE.out]; rfl, by rw [HE.out]; exact World.ownsRow_nil _ _ _ _, hx.bel⟩
          · -- the end
            obtain rfl : k = q := by have := HLL.out; omega
            have hil2 : decide ((i : Int) < (l.length : Int)) = false := by rw [decide_eq_false_iff_not]; omega
            obtain ⟨v, hOb, hOw⟩ := HM.out.out
            obtain ⟨Av, cv, rfl⟩ := own_shape hOw
            have HE := Lib.hid (decL_all (t := t) (g := g) (l := ll) (q := k) HGG.out HQ.out HM.out.good)
            have HE2 : Hid (decS b = if formS ⟨t, (toNumB g).1, prL ll k⟩ = 0 then (⟨t, (toNumB g).1, prL ll k⟩, 0) else (crt0, 4)) := by unfold Hid; rw [HD.out, HL.out, HE.out]
            have hrd := Rd.of_own hOw
            have hpq : (prL ll k).length = k := prL_length ll k
            have HF := rform_any ⟨t, (toNumB g).1, prL ll k⟩ (.slice Av k cv) wr wr.heap.size (Nat.le_refl _) (by simp only [hpq]; exact hrd) (by simp only [hpq]; exact hq9)
            have d0 : wr.cell? ⟨w1.heap.size, 0, none⟩ = some (.string ⟨t.toArray⟩) := hOb.cell 0
            have d1 : wr.cell? ⟨w1.heap.size, 1, none⟩ = some (.int .i64 (toNumB g).1) := hOb.cell 1
            have d2 : wr.cell? ⟨w1.heap.size, 2, none⟩ = some (.slice Av k cv) := hOb.cell 2
            have HOB := Lib.hid hOb
            have HOW := Lib.hid hOw
            have hWs := HM.out.size
            have HGG2 := HGG
            clear hik
            clear HE hOb hOw hrd HGG HGG2
            simp only at HF
            generalize (toNumB g).1 = gn at *
            by_cases hf : formS ⟨t, gn, prL ll k⟩ = 0
            · have HE : Hid (decS b = (⟨t, gn, prL ll k⟩, 0)) := by unfold Hid; rw [HE2.out, if_pos hf]
              rw [hf] at HF
              have HPQ := Lib.hid hpq
              clear hf HE2 hpq
              have HZ := Lib.hid HM.out.z
              clear HM
              generalize prL ll k = ps at *
              go_wp2_with fail
              refine HF.mono ?_
              rintro e w5 ⟨rfl, hb5⟩
              have HI5 := Lib.hid (HZ.out.below hb5 (by omega))
              have r0 := HI5.out.z
              have x0 := r0.frozen 0
              have x1 := r0.frozen 1
              have x2 := r0.frozen 2
              have v0 : w5.cell? ⟨w.heap.size, 0, none⟩ = some (.string ⟨#[]⟩) := r0.cell 0
              have v1 : w5.cell? ⟨w.heap.size, 1, none⟩ = some (.int .i64 0) := r0.cell 1
              have v2 : w5.cell? ⟨w.heap.size, 2, none⟩ = some (.slice none 0 0) := r0.cell 2
              have HX := Lib.hid (RDecI.exit HI5.out)
              clear r0
              have hob5 := HOB.out.below hb5 HOB.out.lt
              have d0 : w5.cell? ⟨w1.heap.size, 0, none⟩ = some (.string ⟨t.toArray⟩) := hob5.cell 0
              have d1 : w5.cell? ⟨w1.heap.size, 1, none⟩ = some (.int .i64 gn) := hob5.cell 1
              have d2 : w5.cell? ⟨w1.heap.size, 2, none⟩ = some (.slice Av k cv) := hob5.cell 2
              have HOK := Lib.hid (HI5.out.ok t gn (.slice Av k cv) ((Chg.of_below (F := fun _ => False) hb5).owns HOW.out (fun _ _ h => h)) (by omega))
              clear hob5 hb5
              go_wp2_with fail
              obtain ⟨hz, hown, hbel⟩ := HOK.out
              have z0 := hz.cell 0
              have z1 := hz.cell 1
              have z2 := hz.cell 2
              refine bodyPost_ret (v := .tuple #[.agg #[.string ⟨t.toArray⟩, .int .i64 gn, .slice Av k cv], .int .i64 0]) (by simp [results, Tryd.results21, go_sem, z0, z1, z2]) rfl ?_
              exact ⟨Av, cv, by rw [HE.out]; simp only [HPQ.out], by rw [HE.out]; simp only [HPQ.out]; exact hown, hbel⟩
            · have HE : Hid (decS b = (crt0, 4)) := by unfold Hid; rw [HE2.out, if_neg hf]
              have hfi : (formS ⟨t, gn, prL ll k⟩ != 0) = true := by simpa using hf
              clear hf HE2
              generalize formS ⟨t, gn, prL ll k⟩ = fe at *
              go_wp2_with fail
              refine HF.mono ?_
              rintro e w5 ⟨rfl, hb5⟩
              have HI5 := Lib.hid (HM.out.z.below hb5 (by omega))
              have r0 := HI5.out.z
              have x0 := r0.frozen 0
              have x1 := r0.frozen 1
              have x2 := r0.frozen 2
              have v0 : w5.cell? ⟨w.heap.size, 0, none⟩ = some (.string ⟨#[]⟩) := r0.cell 0
              have v1 : w5.cell? ⟨w.heap.size, 1, none⟩ = some (.int .i64 0) := r0.cell 1
              have v2 : w5.cell? ⟨w.heap.size, 2, none⟩ = some (.slice none 0 0) := r0.cell 2
              have HX := Lib.hid (RDecI.exit HI5.out)
              clear r0
              clear hb5
              go_wp2_with fail
              have hx := HX.out
              have z0 := hx.z.cell 0
              have z1 := hx.z.cell 1
              have z2 := hx.z.cell 2
              refine bodyPost_ret (v := .tuple #[.agg #[.string ⟨#[]⟩, .int .i64 0, .slice none 0 0], .int .i64 4]) (by simp [results, Tryd.results21, go_sem, z0, z1, z2]) rfl ?_
              exact ⟨none, 0, by rw [HE.out]; rfl, by rw [HE.out]; exact World.ownsRow_nil _ _ _ _, hx.bel⟩
        · -- between two tags
          have hlt : i < l.length := by have := HLL.out; omega
          have hil2 : (i : Int) < (l.length : Int) := by omega
          have hodd : ((i : Int) % 2 == 1) = true := by rw [beq_iff_eq]; omega
          have HLT := Lib.hid hlt
          have HIK := Lib.hid hik
          clear hik
          go_wp2_with fail
          have hik := HIK.out
          refine ⟨?_, ?_⟩
          · exact ⟨i + 1, k, (toNumB g).1, by omega, by simp, HM.out, .inr ⟨.inl (by omega), rfl, HGG.out⟩⟩
          · simp [intOf]; omega
  · have HE : Hid (decS b = (crt0, 4)) := Lib.hid (decS_none he)
    rw [unpackB_fourY b he] at hU
    clear he
    go_enter Tryd.func21, Tryd.ntmps21
    go_wp2_with fail
    refine hU.mono ?_
    rintro e w1 ⟨v, rfl, hv, hb1⟩
    obtain ⟨A, c, rfl⟩ := own_shape hv
    have HI1 := Lib.hid (HI0.out.below hb1 (by simp))
    have r0 := HI1.out.z
    have x0 := r0.frozen 0
    have x1 := r0.frozen 1
    have x2 := r0.frozen 2
    have v0 : w1.cell? ⟨w.heap.size, 0, none⟩ = some (.string ⟨#[]⟩) := r0.cell 0
    have v1 : w1.cell? ⟨w.heap.size, 1, none⟩ = some (.int .i64 0) := r0.cell 1
    have v2 : w1.cell? ⟨w.heap.size, 2, none⟩ = some (.slice none 0 0) := r0.cell 2
    have HX := Lib.hid (RDecI.exit HI1.out)
    clear r0
    clear hU hv hb1 HI0
    go_wp2_with fail
    have hx := HX.out
    have z0 := hx.z.cell 0
    have z1 := hx.z.cell 1
    have z2 := hx.z.cell 2
    refine bodyPost_ret (v := .tuple #[.agg #[.string ⟨#[]⟩, .int .i64 0, .slice none 0 0], .int .i64 4]) (by simp [results, Tryd.results21, go_sem, z0, z1, z2]) rfl ?_
    exact ⟨none, 0, by rw [HE.out]; rfl, by rw [HE.out]; exact World.ownsRow_nil _ _ _ _, hx.bel⟩

end Go.Proofs.YtkmhimaeakbpoaaDoor
