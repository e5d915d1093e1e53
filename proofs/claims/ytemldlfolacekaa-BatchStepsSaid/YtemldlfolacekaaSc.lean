/- BatchSteps, walked. -/
import Derived.Test.YtemldlfolacekaaSb
namespace Go.Proofs.Ytemldlfolacekaa
open Go.RowKit Go.Shelf

/-- What holds behind a step of the law's loop. -/
def StepsAt (base : Nat) (w : World) (B R : Nat) (k : Nat) (wc : World) : Prop :=
  ∃ (L : List Req) (d : Nat → Int) (D : List Req), Duo base wc.heap.size wc B R L d L D ∧ Agree L d D ∧ D.length ≤ k ∧ Below base w wc
/-- What holds behind the law's switch: b is the block of the step. -/
def StepsMid (base : Nat) (w : World) (B R : Nat) (k : Nat) (b : Nat) (c n : Int) (wc : World) : Prop :=
  StepsAt base w B R k wc ∧ b < wc.heap.size ∧ wc.cell? ⟨b, 1, none⟩ = some (.int .i64 c) ∧ wc.cell? ⟨b, 2, none⟩ = some (.int .i64 n)

theorem keepS {wr W : World} {R b : Nat} {v x y : Value} (h1 : wr.cell? ⟨R, 0, none⟩ = some v) (h2 : wr.cell? ⟨b, 1, none⟩ = some x) (h3 : wr.cell? ⟨b, 2, none⟩ = some y) (hR : R < wr.heap.size) (hb : b < wr.heap.size) (h : Below wr.heap.size wr W) :
    W.cell? ⟨R, 0, none⟩ = some v ∧ W.cell? ⟨b, 1, none⟩ = some x ∧ W.cell? ⟨b, 2, none⟩ = some y :=
  ⟨(h.cell (p := ⟨R, 0, none⟩) hR).trans h1, (h.cell (p := ⟨b, 1, none⟩) hb).trans h2, (h.cell (p := ⟨b, 2, none⟩) hb).trans h3⟩

set_option maxHeartbeats 1600000 in
set_option maxRecDepth 100000 in
theorem steps_any (v : Value) (l : List Stp) (w : World) (hr : Rd w w.heap.size 4 v l.length (cellsSt l)) (hm : l.length ≤ 9223372036854775807) :
    Calls Try.prog 5 #[v] w fun e w' => e = .returned (.bool true) ∧ Below w.heap.size w w' := by
  have HR := Lib.hid hr
  obtain ⟨hl, A, c, rfl, hnc, hA⟩ := hr
  clear hl hA
  by_cases h300 : 300 < l.length
  · go_enter Try.func5, Try.ntmps5
    go_wp2_with fail
    refine (new_any w).mono ?_
    rintro e w1 ⟨rfl, hp, hb⟩
    clear hp
    go_wp2_with (go_at_call 8; refine (one_any _).mono ?_; rintro e w2 ⟨rfl, hb2⟩)
    go_ret
    exact ⟨rfl, hb.trans (hb2.mono hb.size)⟩
  · go_enter Try.func5, Try.ntmps5
    go_wp2_with fail
    refine (new_any w).mono ?_
    rintro e w1 ⟨rfl, hp, hb⟩
    have hs1 := hb.size
    have h1 : Hid (StepsAt w.heap.size w w.heap.size w1.heap.size 0 (w1.alloc (.cells #[.slice none 0 0, .slice none 0 0] 42))) :=
      ⟨[], d0, [], ⟨Nat.le_refl _, hs1, by simp; omega, ⟨_, hp.below ((Below.refl _ _).alloc (Nat.le_refl _) _)⟩, ⟨_, _, ⟨Blk.new _ _ _, ⟨by simp [cellsOf], .inl ⟨rfl, rfl⟩⟩, ⟨by simp [cellsOf], .inl ⟨rfl, rfl⟩⟩, fun g hg => by simp [Value.ownBlock] at hg⟩, by simp, fun g hg => by simp [Value.ownBlock] at hg, fun g hg => by simp [Value.ownBlock] at hg⟩⟩, Agree.nil, by simp, hb.alloc hs1 _⟩
    clear hp hb
    go_wp2_with fail
    go_loopw [39] (fun i wr => ∃ k : Nat, k ≤ l.length ∧ i = .int .i64 k ∧ Hid (StepsAt w.heap.size w w.heap.size w1.heap.size k wr)) (fun i _ => l.length - (intOf i).toNat)
    case atStart => exact ⟨0, Nat.zero_le _, rfl, h1⟩
    case round =>
      obtain ⟨k, hk, rfl, hI⟩ := hrel
      obtain ⟨wo, rfl⟩ : ∃ wo : World, wo = wr := ⟨_, rfl⟩
      clear h1
      obtain ⟨L, d, D, hdu, hag, hDl, hbw⟩ := hI.out
      by_cases hlt : k < l.length
      · obtain ⟨g, off, rfl, hg, x0, x1, x2, x3⟩ := rd_get4 HR.out hlt
        have y0 := (hbw.cell (p := ⟨g, off + k * 4, none⟩) hg).trans x0
        have y1 := (hbw.cell (p := ⟨g, off + k * 4 + 1, none⟩) hg).trans x1
        have y2 := (hbw.cell (p := ⟨g, off + k * 4 + 2, none⟩) hg).trans x2
        have y3 := (hbw.cell (p := ⟨g, off + k * 4 + 3, none⟩) hg).trans x3
        clear x0 x1 x2 x3
        have HT := Lib.hid hdu
        have HO := Lib.hid hag
        have HB := Lib.hid hbw
        clear hdu hag hbw hI
        go_upto_block 2 with fail
        go_cut [] (fun wc => StepsMid w.heap.size w w.heap.size w1.heap.size (k + 1) wo.heap.size l[k].r.c l[k].r.n wc)
        case first =>
          have HBL : Hid (Below wo.heap.size wo (wo.alloc (.cells #[.int .i64 l[k].what, .int .i64 l[k].r.c, .int .i64 l[k].r.n, .string l[k].r.t] 30))) := (Below.refl _ _).alloc (Nat.le_refl _) _
          have hboxlt : w.heap.size ≤ wo.heap.size := HB.out.size
          have HBX : Hid (Below w.heap.size w (wo.alloc (.cells #[.int .i64 l[k].what, .int .i64 l[k].r.c, .int .i64 l[k].r.n, .string l[k].r.t] 30))) := HB.out.alloc hboxlt _
          have HCX : Hid (∀ w2 : World, Since wo.heap.size (wo.alloc (.cells #[.int .i64 l[k].what, .int .i64 l[k].r.c, .int .i64 l[k].r.n, .string l[k].r.t] 30)) w2 → w2.cell? ⟨wo.heap.size, 1, none⟩ = some (.int .i64 l[k].r.c) ∧ w2.cell? ⟨wo.heap.size, 2, none⟩ = some (.int .i64 l[k].r.n) ∧ w2.cell? ⟨wo.heap.size, 3, none⟩ = some (.string l[k].r.t)) := fun w2 h =>
            ⟨h.cell (p := ⟨wo.heap.size, 1, none⟩) (Nat.le_refl _) (by simp), h.cell (p := ⟨wo.heap.size, 2, none⟩) (Nat.le_refl _) (by simp), h.cell (p := ⟨wo.heap.size, 3, none⟩) (Nat.le_refl _) (by simp)⟩
          clear y0 y1 y2 y3
          by_cases hw01 : l[k].what = 0 ∨ l[k].what = 1
          · rcases hw01 with hw | hw
            · have hw0 : (l[k].what == 0) = true := by simp [hw]
              have hw1 : (l[k].what == 1) = false := by simp [hw]
              clear hw
              go_wp2_with fail
              refine (add_duo _ _ _ HT.out HBL.out HO.out.ok.1).mono ?_
              rintro e w2 ⟨rfl, hd2, hb2, hs2⟩
              obtain ⟨z1, z2, z3⟩ := HCX.out w2 hs2
              have hbw2 := Lib.hid (HBX.out.trans hb2)
              have HD2 := Lib.hid hd2
              have hsb := World.block_lt_of_cell? _ _ z1
              clear hd2 hb2 hs2
              go_wp2_with fail
              refine (ref_any l[k].r _).mono ?_
              rintro e w3 ⟨rfl, hb3⟩
              have hb3' := Lib.hid hb3
              have u1 := (hb3.cell (p := ⟨wo.heap.size, 1, none⟩) hsb).trans z1
              have u2 := (hb3.cell (p := ⟨wo.heap.size, 2, none⟩) hsb).trans z2
              have hbw3 := Lib.hid (hbw2.out.trans (hb3.mono hbw2.out.size))
              clear hb3 z1 z2 z3
              go_wp2_with fail
              refine (radd_duo _ _ _ HD2.out hb3'.out HO.out.ok.1 (by omega)).mono ?_
              rintro e w4 ⟨rfl, hd4, hb4, hs4⟩
              have t1 := hs4.cell (p := ⟨wo.heap.size, 1, none⟩) (Nat.le_refl _) u1
              have t2 := hs4.cell (p := ⟨wo.heap.size, 2, none⟩) (Nat.le_refl _) u2
              obtain ⟨hE, hag2⟩ := agree_add l[k].r HO.out
              rw [show (⟨l[k].r.c, l[k].r.n, l[k].r.t⟩ : Req) = l[k].r from rfl] at hd4 ⊢
              rw [hE] at hd4 ⊢
              clear hE u1 u2 hs4
              have hfin : Hid (StepsMid w.heap.size w w.heap.size w1.heap.size (k + 1) wo.heap.size l[k].r.c l[k].r.n w4) := ⟨⟨_, _, _, hd4, hag2, by omega, hbw3.out.trans hb4⟩, World.block_lt_of_cell? _ _ t1, t1, t2⟩
              clear hd4 hag2 hb4 t1 t2
              generalize addS L d l[k].r = res
              obtain ⟨q1, q2, q3⟩ := res
              go_wp2
              go_meet
              exact hfin.out
            · have hw0 : (l[k].what == 0) = false := by simp [hw]
              have hw1 : (l[k].what == 1) = true := by simp [hw]
              clear hw
              go_wp2_with fail
              refine (add_duo _ _ _ HT.out HBL.out HO.out.ok.1).mono ?_
              rintro e w2 ⟨rfl, hd2, hb2, hs2⟩
              obtain ⟨z1, z2, z3⟩ := HCX.out w2 hs2
              have hbw2 := Lib.hid (HBX.out.trans hb2)
              have HD2 := Lib.hid hd2
              have hsb := World.block_lt_of_cell? _ _ z1
              clear hd2 hb2 hs2
              go_wp2_with fail
              refine (ref_any l[k].r _).mono ?_
              rintro e w3 ⟨rfl, hb3⟩
              have hb3' := Lib.hid hb3
              have u1 := (hb3.cell (p := ⟨wo.heap.size, 1, none⟩) hsb).trans z1
              have u2 := (hb3.cell (p := ⟨wo.heap.size, 2, none⟩) hsb).trans z2
              have hbw3 := Lib.hid (hbw2.out.trans (hb3.mono hbw2.out.size))
              clear hb3 z1 z2 z3
              go_wp2_with fail
              refine (radd_duo _ _ _ HD2.out hb3'.out HO.out.ok.1 (by omega)).mono ?_
              rintro e w4 ⟨rfl, hd4, hb4, hs4⟩
              have t1 := hs4.cell (p := ⟨wo.heap.size, 1, none⟩) (Nat.le_refl _) u1
              have t2 := hs4.cell (p := ⟨wo.heap.size, 2, none⟩) (Nat.le_refl _) u2
              obtain ⟨hE, hag2⟩ := agree_add l[k].r HO.out
              rw [show (⟨l[k].r.c, l[k].r.n, l[k].r.t⟩ : Req) = l[k].r from rfl] at hd4 ⊢
              rw [hE] at hd4 ⊢
              clear hE u1 u2 hs4
              have hfin : Hid (StepsMid w.heap.size w w.heap.size w1.heap.size (k + 1) wo.heap.size l[k].r.c l[k].r.n w4) := ⟨⟨_, _, _, hd4, hag2, by omega, hbw3.out.trans hb4⟩, World.block_lt_of_cell? _ _ t1, t1, t2⟩
              clear hd4 hag2 hb4 t1 t2
              generalize addS L d l[k].r = res
              obtain ⟨q1, q2, q3⟩ := res
              go_wp2
              go_meet
              exact hfin.out
          · have hw0 : (l[k].what == 0) = false := by simp; omega
            have hw1 : (l[k].what == 1) = false := by simp; omega
            clear hw01
            have n0 : (wo.alloc (.cells #[.int .i64 l[k].what, .int .i64 l[k].r.c, .int .i64 l[k].r.n, .string l[k].r.t] 30)).cell? ⟨wo.heap.size, 1, none⟩ = some (.int .i64 l[k].r.c) := by simp
            have n1 : (wo.alloc (.cells #[.int .i64 l[k].what, .int .i64 l[k].r.c, .int .i64 l[k].r.n, .string l[k].r.t] 30)).cell? ⟨wo.heap.size, 2, none⟩ = some (.int .i64 l[k].r.n) := by simp
            have hnone : Hid (∀ W, Below (wo.heap.size + 1) (wo.alloc (.cells #[.int .i64 l[k].what, .int .i64 l[k].r.c, .int .i64 l[k].r.n, .string l[k].r.t] 30)) W → StepsMid w.heap.size w w.heap.size w1.heap.size (k + 1) wo.heap.size l[k].r.c l[k].r.n W) := fun W hb => by
              have hbW : Below wo.heap.size wo W := HBL.out.trans (hb.mono (by omega))
              refine ⟨⟨L, d, D, (HT.out.below hbW).self, HO.out, by omega, HB.out.trans (hbW.mono hboxlt)⟩, ?_, (hb.cell (p := ⟨wo.heap.size, 1, none⟩) (by simp)).trans n0, (hb.cell (p := ⟨wo.heap.size, 2, none⟩) (by simp)).trans n1⟩
              have := hb.size
              simp at this
              omega
            clear n0 n1
            by_cases hw2 : l[k].what = 2
            · have hw2b : (l[k].what == 2) = true := by simp [hw2]
              clear hw2
              by_cases hwr : wrongB l[k].r.c l[k].r.n = true
              · go_wp2_with fail
                refine (done_wrong _ _ _ _ hwr).mono ?_
                rintro e w' ⟨rfl, rfl⟩
                go_wp2_with fail
                refine (finish_wrong _ _ _ _ hwr).mono ?_
                rintro e w' ⟨rfl, rfl⟩
                go_wp2
                go_meet
                exact hnone.out _ (by have := Below.refl (wo.heap.size + 1) (wo.alloc (.cells #[.int .i64 l[k].what, .int .i64 l[k].r.c, .int .i64 l[k].r.n, .string l[k].r.t] 30)); exact this)
              · have hwr' : wrongB l[k].r.c l[k].r.n = false := by simpa using hwr
                clear hwr hnone
                go_wp2_with fail
                refine (done_duo _ _ HT.out HBL.out HO.out.ok.1).mono ?_
                rintro e w2 ⟨rfl, hd2, hb2, hs2⟩
                obtain ⟨z1, z2, z3⟩ := HCX.out w2 hs2
                have hbw2 := Lib.hid (HBX.out.trans hb2)
                obtain ⟨hE, hag2⟩ := agree_done l[k].r.c l[k].r.n HO.out hwr'
                rw [hE] at hd2 ⊢
                have HD2 := Lib.hid hd2
                clear hd2 hb2 hs2 z3 hE
                go_wp2_with fail
                refine (finish_duo _ _ HD2.out (Below.refl _ _) HO.out.ok.1 (by omega) hwr').mono ?_
                rintro e w4 ⟨rfl, hd4, hb4, hs4⟩
                have t1 := hs4.cell (p := ⟨wo.heap.size, 1, none⟩) (Nat.le_refl _) z1
                have t2 := hs4.cell (p := ⟨wo.heap.size, 2, none⟩) (Nat.le_refl _) z2
                have hfin : Hid (StepsMid w.heap.size w w.heap.size w1.heap.size (k + 1) wo.heap.size l[k].r.c l[k].r.n w4) := ⟨⟨_, _, _, hd4, hag2, by simp; omega, hbw2.out.trans hb4⟩, World.block_lt_of_cell? _ _ t1, t1, t2⟩
                clear hd4 hag2 hb4 t1 t2 hs4 z1 z2 HD2
                generalize decide ((dropS L l[k].r.c l[k].r.n).length < L.length) = q1
                go_wp2
                go_meet
                exact hfin.out
            · have hw2b : (l[k].what == 2) = false := by simp [hw2]
              clear hw2
              by_cases hw3 : l[k].what = 3
              · have hw3b : (l[k].what == 3) = true := by simp [hw3]
                clear hw3
                by_cases hwr : wrongB l[k].r.c l[k].r.n = true
                · go_wp2_with fail
                  refine (forget_wrong _ _ _ _ hwr).mono ?_
                  rintro e w' ⟨rfl, rfl⟩
                  go_wp2_with fail
                  refine (rforget_wrong _ _ _ _ hwr).mono ?_
                  rintro e w' ⟨rfl, rfl⟩
                  go_wp2
                  go_meet
                  exact hnone.out _ (by have := Below.refl (wo.heap.size + 1) (wo.alloc (.cells #[.int .i64 l[k].what, .int .i64 l[k].r.c, .int .i64 l[k].r.n, .string l[k].r.t] 30)); exact this)
                · have hwr' : wrongB l[k].r.c l[k].r.n = false := by simpa using hwr
                  clear hwr hnone
                  go_wp2_with fail
                  refine (forget_duo _ _ HT.out HBL.out HO.out.ok.1 hwr').mono ?_
                  rintro e w2 ⟨rfl, hd2, hb2, hs2⟩
                  obtain ⟨z1, z2, z3⟩ := HCX.out w2 hs2
                  have hbw2 := Lib.hid (HBX.out.trans hb2)
                  have HD2 := Lib.hid hd2
                  clear hd2 hb2 hs2 z3
                  go_wp2_with fail
                  refine (rforget_duo _ _ HD2.out (Below.refl _ _) HO.out.ok.1 hwr').mono ?_
                  rintro e w4 ⟨rfl, hd4, hb4, hs4⟩
                  have t1 := hs4.cell (p := ⟨wo.heap.size, 1, none⟩) (Nat.le_refl _) z1
                  have t2 := hs4.cell (p := ⟨wo.heap.size, 2, none⟩) (Nat.le_refl _) z2
                  obtain ⟨hE, hag2⟩ := agree_forget l[k].r.c l[k].r.n HO.out
                  rw [hE] at hd4 ⊢
                  have hfin : Hid (StepsMid w.heap.size w w.heap.size w1.heap.size (k + 1) wo.heap.size l[k].r.c l[k].r.n w4) := ⟨⟨_, _, _, hd4, hag2, by omega, hbw2.out.trans hb4⟩, World.block_lt_of_cell? _ _ t1, t1, t2⟩
                  clear hd4 hag2 hb4 t1 t2 hs4 z1 z2 HD2 hE
                  generalize (forgetS L l[k].r.c l[k].r.n).1 = q1
                  go_wp2
                  go_meet
                  exact hfin.out
              · have hw3b : (l[k].what == 3) = false := by simp [hw3]
                clear hw3
                go_wp2
                go_meet
                exact hnone.out _ (by have := Below.refl (wo.heap.size + 1) (wo.alloc (.cells #[.int .i64 l[k].what, .int .i64 l[k].r.c, .int .i64 l[k].r.n, .string l[k].r.t] 30)); exact this)
        case rest =>
          clear HT HO HB y0 y1 y2 y3
          generalize hbb : wo.heap.size = b at hcut
          generalize hcc : l[k].r.c = c' at hcut
          generalize hnn : l[k].r.n = n' at hcut
          clear hbb hcc hnn
          obtain ⟨⟨L2, d2, D2, hdu, hag, hDl2, hbw⟩, hblt, z1, z2⟩ := hcut
          obtain ⟨vl, vd, hr, _⟩ := hdu.ref
          have hvl := hr.cl
          have hRlt := hr.lt
          have HOl := Lib.hid hr.ol
          have HT := Lib.hid hdu
          have HA := Lib.hid hag
          have HB := Lib.hid hbw
          have hL24 := hag.ok.1
          obtain ⟨A2, c2, rfl⟩ := own_shape hr.ol
          clear hr hdu hag hbw
          go_wp2_with fail
          go_loopw [19, 140] (fun h i wr => ∃ m : Nat, m ≤ L2.length ∧ i = .int .i64 m ∧ h = .bool (hasS (L2.take m) c' n') ∧ Hid (Below wc.heap.size wc wr)) (fun _ i _ => L2.length - (intOf i).toNat)
          case atStart => exact ⟨0, Nat.zero_le _, rfl, rfl, Below.refl _ _⟩
          case round =>
            obtain ⟨m, hm', rfl, rfl, hbr⟩ := hrel
            have hbs := hbr.out.size
            have s1 := (hbr.out.cell (p := ⟨b, 1, none⟩) hblt).trans z1
            have s2 := (hbr.out.cell (p := ⟨b, 2, none⟩) hblt).trans z2
            by_cases hltm : m < L2.length
            · obtain ⟨g3, c3, hV, hg3, hx0, hx1, hx2⟩ := own_get45 HOl.out hltm
              injection hV with hA3 _ hcc3
              subst hA3
              clear hcc3
              have v0 := (hbr.out.cell (p := ⟨g3, m * 3, none⟩) hg3).trans hx0
              have v1 := (hbr.out.cell (p := ⟨g3, m * 3 + 1, none⟩) hg3).trans hx1
              have v2 := (hbr.out.cell (p := ⟨g3, m * 3 + 2, none⟩) hg3).trans hx2
              have s1' : ∀ o, (wr.alloc o).cell? ⟨b, 1, none⟩ = some (.int .i64 c') := fun o => (World.cell?_alloc_lt _ _ _ (by show b < wr.heap.size; omega)).trans s1
              have s2' : ∀ o, (wr.alloc o).cell? ⟨b, 2, none⟩ = some (.int .i64 n') := fun o => (World.cell?_alloc_lt _ _ _ (by show b < wr.heap.size; omega)).trans s2
              clear hx0 hx1 hx2 s1 s2 z1 z2 hvl
              have hsn : Hid (hasS (L2.take (m + 1)) c' n' = (hasS (L2.take m) c' n' || (L2[m].c == c' && L2[m].n == n'))) := by
                unfold hasS
                rw [List.take_succ_eq_append_getElem hltm, List.any_append]; simp [Hid]
              cases hh : hasS (L2.take m) c' n' with
              | true =>
                go_wp2_with fail
                go_roundw
                case rel => exact ⟨m + 1, by omega, by go_num, by rw [hsn.out, hh]; simp, hbr.out.alloc hbs _⟩
                case measure => simp [intOf]; omega
              | false =>
                cases h1 : (L2[m].c == c') with
                | false =>
                  go_wp2_with fail
                  go_roundw
                  case rel => exact ⟨m + 1, by omega, by go_num, by rw [hsn.out, hh, h1]; simp, hbr.out.alloc hbs _⟩
                  case measure => simp [intOf]; omega
                | true =>
                  cases h2 : (L2[m].n == n') with
                  | true =>
                    go_wp2_with fail
                    go_roundw
                    case rel => exact ⟨m + 1, by omega, by go_num, by rw [hsn.out, hh, h1, h2]; simp, hbr.out.alloc hbs _⟩
                    case measure => simp [intOf]; omega
                  | false =>
                    go_wp2_with fail
                    go_roundw
                    case rel => exact ⟨m + 1, by omega, by go_num, by rw [hsn.out, hh, h1, h2]; simp, hbr.out.alloc hbs _⟩
                    case measure => simp [intOf]; omega
            · have e : L2.take m = L2 := List.take_of_length_le (by omega)
              rw [e]
              clear e
              have hv1 := (hbr.out.cell (p := ⟨w1.heap.size, 0, none⟩) hRlt).trans hvl
              have hRlt' : w1.heap.size < wr.heap.size := by omega
              have hblt' : b < wr.heap.size := by omega
              clear z1 z2 hvl
              have hrs := hbr.out
              have hRd : ∀ (v u : Value) (W1 W2 W3 : World), W1.ownsRow wr.heap.size 28 3 v (takeS L2).length (cellsOf (takeS L2)) → W2.ownsRow W1.heap.size 45 3 u (takeS L2).length (cellsOf (takeS L2)) → True := fun _ _ _ _ _ _ _ => trivial
              clear hRd hrs
              have htl : (takeS L2).length ≤ 1000000 := by have := takeS_len L2; omega
              have hlastE := agree_last c' HA.out
              have hD2 : D2.length ≤ 1000000 := by omega
              have HLE := Lib.hid hlastE
              clear hlastE
              go_wp2_with fail
              go_region_held3 (fun w' => w'.cell? ⟨w1.heap.size, 0, none⟩ = some (.slice A2 L2.length c2) ∧ w'.cell? ⟨b, 1, none⟩ = some (.int .i64 c') ∧ w'.cell? ⟨b, 2, none⟩ = some (.int .i64 n'))
                (first | (exact keepS hv1 s1 s2 hRlt' hblt' (Below.refl _ _).drew) | (exact keepS hv1 s1 s2 hRlt' hblt' (by assumption)))
                (first
                  | (go_at_call 12; refine (len_duo (HT.out.below hbr.out).self (Below.refl _ _).drew).mono ?_; rintro e wx ⟨rfl, rfl⟩)
                  | (go_at_call 11; refine (take_duo (HT.out.below hbr.out).self (Below.refl _ _).drew HA.out.ok).mono ?_; rintro e wt ⟨vt, rfl, ht1, ht2⟩; have hbt : Below wr.heap.size wr wt := (Below.refl _ _).drew.trans (ht2.mono (by simp)))
                  | (go_at_call 19; refine (rtake_duo (HT.out.below hbr.out).self (by assumption) HA.out.ok).mono ?_; rintro e wu ⟨vu, rfl, hu1, hu2⟩; have hbu : Below wr.heap.size wr wu := hbt.trans (hu2.mono hbt.size))
                  | (go_at_call 18; refine (same_yes vt vu (takeS L2) _ wu.heap.size (by exact Nat.le_refl _) (((Rd.of_own ht1).below hu2).more hu2.size) (Rd.of_own hu1) htl).mono ?_; rintro e ws ⟨rfl, hs5⟩; have hbs5 : Below wr.heap.size wr ws := hbu.trans (hs5.mono hbu.size))
                  | (go_at_call 20; refine (has_duo _ _ (HT.out.below hbr.out).self (by assumption) hL24).mono ?_; rintro e wh ⟨rfl, hh5⟩; have hbh5 : Below wr.heap.size wr wh := hbs5.trans (hh5.mono hbs5.size))
                  | (go_at_call 21; refine (last_duo _ (HT.out.below hbr.out).self (by assumption)).mono ?_; rintro e wl ⟨rfl, hl5⟩; have hbl5 : Below wr.heap.size wr wl := hbh5.trans (hl5.mono hbh5.size); rw [HLE.out])
                  | (go_at_call 22; refine (rlast_duo _ (HT.out.below hbr.out).self (by assumption) hD2).mono ?_; rintro e wm ⟨rfl, hm5⟩; have hbm5 : Below wr.heap.size wr wm := hbl5.trans (hm5.mono hbl5.size)))
              have hbm6 := hbr.out.trans (hbm5.mono hbs)
              have hbw' := HB.out.size
              have hfin : Hid (StepsAt w.heap.size w w.heap.size w1.heap.size (k + 1) wm) := ⟨L2, d2, D2, (HT.out.below hbm6).self, HA.out, hDl2, HB.out.trans (hbm6.mono hbw')⟩
              clear hbm6
              go_wp2
              go_roundw
              case rel => exact ⟨k + 1, by omega, by go_num, hfin⟩
              case measure => simp [intOf]; omega
      · have hsz := hbw.size
        go_wp2_with (go_at_call 8; refine (one_any _).mono ?_; rintro e w2 ⟨rfl, hb2⟩)
        go_ret
        exact ⟨rfl, hbw.trans (hb2.mono hsz)⟩

end Go.Proofs.Ytemldlfolacekaa
