/- BatchOnce, walked. -/
import Derived.Test.YtemldlfolacekaaBo
namespace Go.Proofs.Ytemldlfolacekaa
open Go.RowKit Go.Shelf

/-- What holds behind a step of the law's loop. -/
def OnceAt (base : Nat) (w : World) (B : Nat) (k : Nat) (va vd : Value) (wc : World) : Prop :=
  ∃ (L : List Req) (d : Nat → Int) (al dl : List Req), Trio base wc B va vd L d al dl ∧ Once L d al dl ∧ al.length ≤ k ∧ dl.length ≤ k ∧ Below base w wc

set_option maxHeartbeats 4000000 in
set_option maxRecDepth 100000 in
theorem once_any (v : Value) (l : List Stp) (w : World) (hr : Rd w w.heap.size 4 v l.length (cellsSt l)) (hm : l.length ≤ 9223372036854775807) :
    Calls Try.prog 3 #[v] w fun e w' => e = .returned (.bool true) ∧ Below w.heap.size w w' := by
  obtain ⟨i0, hi0, hz0, hz1, hz2⟩ := info_parts req_info
  have HR := Lib.hid hr
  obtain ⟨hl, A, c, rfl, hnc, hA⟩ := hr
  clear hl hA
  by_cases h200 : 200 < l.length
  · go_enter Try.func3, Try.ntmps3
    go_wp2_with fail
    refine (new_any w).mono ?_
    rintro e w1 ⟨rfl, hp, hb⟩
    clear hp
    go_wp2_with (go_at_call 8; refine (one_any _).mono ?_; rintro e w2 ⟨rfl, hb2⟩)
    go_ret
    exact ⟨rfl, hb.trans (hb2.mono hb.size)⟩
  · go_enter Try.func3, Try.ntmps3
    go_wp2_with fail
    refine (new_any w).mono ?_
    rintro e w1 ⟨rfl, hp, hb⟩
    have h1 : OnceAt w.heap.size w w.heap.size 0 (.slice none 0 0) (.slice none 0 0) w1 :=
      ⟨[], d0, [], [], ⟨Nat.le_refl _, hb.size, ⟨_, hp, fun g hg => by simp [Value.ownBlock] at hg, fun g hg => by simp [Value.ownBlock] at hg⟩, ⟨by simp [cellsOf], .inl ⟨rfl, rfl⟩⟩, ⟨by simp [cellsOf], .inl ⟨rfl, rfl⟩⟩, fun g hg => by simp [Value.ownBlock] at hg⟩, Once.nil, by simp, by simp, hb⟩
    clear hp hb
    go_wp2_with fail
    go_loopw [4, 5, 37] (fun va vd i wr => ∃ k : Nat, k ≤ l.length ∧ i = .int .i64 k ∧ OnceAt w.heap.size w w.heap.size k va vd wr) (fun _ _ i _ => l.length - (intOf i).toNat)
    case atStart => exact ⟨0, Nat.zero_le _, rfl, h1⟩
    case round =>
      obtain ⟨k, hk, rfl, hI⟩ := hrel
      obtain ⟨wo, rfl⟩ : ∃ wo : World, wo = wr := ⟨_, rfl⟩
      clear h1
      by_cases hlt : k < l.length
      · obtain ⟨L, d, al, dl, htr, hon, hal, hdl, hbw⟩ := hI
        obtain ⟨g, off, rfl, hg, x0, x1, x2, x3⟩ := rd_get4 HR.out hlt
        have y0 := (hbw.cell (p := ⟨g, off + k * 4, none⟩) hg).trans x0
        have y1 := (hbw.cell (p := ⟨g, off + k * 4 + 1, none⟩) hg).trans x1
        have y2 := (hbw.cell (p := ⟨g, off + k * 4 + 2, none⟩) hg).trans x2
        have y3 := (hbw.cell (p := ⟨g, off + k * 4 + 3, none⟩) hg).trans x3
        clear x0 x1 x2 x3
        have HT := Lib.hid htr
        have HO := Lib.hid hon
        have HB := Lib.hid hbw
        clear htr hon hbw
        go_upto_if 43 with fail
        go_cut [4, 5] (fun va vd wc => OnceAt w.heap.size w w.heap.size (k + 1) va vd wc)
        case first =>
          obtain ⟨Aa, ca, rfl⟩ := own_shape HT.out.oa
          obtain ⟨Ad, cd, rfl⟩ := own_shape HT.out.od
          have HA := Lib.hid (fun (c n : Int) (t : ByteArray) => add_trio c n t HT.out ((Below.refl _ _).alloc (Nat.le_refl _) (.cells #[.int .i64 l[k].what, .int .i64 l[k].r.c, .int .i64 l[k].r.n, .string l[k].r.t] 30)) HO.out.ok.1)
          have HD := Lib.hid (fun (c n : Int) => done_trio c n HT.out ((Below.refl _ _).alloc (Nat.le_refl _) (.cells #[.int .i64 l[k].what, .int .i64 l[k].r.c, .int .i64 l[k].r.n, .string l[k].r.t] 30)) HO.out.ok.1)
          have hboxlt : w.heap.size ≤ wo.heap.size := HB.out.size
          have HBX : Hid (∀ w2 : World, Below w.heap.size (wo.alloc (.cells #[.int .i64 l[k].what, .int .i64 l[k].r.c, .int .i64 l[k].r.n, .string l[k].r.t] 30)) w2 → Below w.heap.size w w2) := fun w2 h => (HB.out.alloc hboxlt _).trans h
          have HCX : Hid (∀ w2 : World, Since wo.heap.size (wo.alloc (.cells #[.int .i64 l[k].what, .int .i64 l[k].r.c, .int .i64 l[k].r.n, .string l[k].r.t] 30)) w2 → w2.cell? ⟨wo.heap.size, 1, none⟩ = some (.int .i64 l[k].r.c) ∧ w2.cell? ⟨wo.heap.size, 2, none⟩ = some (.int .i64 l[k].r.n) ∧ w2.cell? ⟨wo.heap.size, 3, none⟩ = some (.string l[k].r.t)) := fun w2 h =>
            ⟨h.cell (p := ⟨wo.heap.size, 1, none⟩) (Nat.le_refl _) (by simp), h.cell (p := ⟨wo.heap.size, 2, none⟩) (Nat.le_refl _) (by simp), h.cell (p := ⟨wo.heap.size, 3, none⟩) (Nat.le_refl _) (by simp)⟩
          have hone : Hid (∀ u ∈ Req.cells l[k].r, u.oneCell' = true) := by intro u hu; simp [Req.cells] at hu; rcases hu with rfl | rfl | rfl <;> rfl
          by_cases hw : l[k].what = 2
          · have hw2 : (l[k].what == 2) = true := by simp [hw]
            clear hw
            go_wp2_with fail
            refine (HD.out _ _).mono ?_
            rintro e w2 ⟨rfl, ht2, hb2, hs2⟩
            have hbw2 := Lib.hid (HBX.out w2 hb2)
            obtain ⟨z1, z2, z3⟩ := HCX.out w2 hs2
            clear hs2 hb2
            rcases once_done (L := L) (d := d) (al := al) (dl := dl) l[k].r HO.out with ⟨he, hon2⟩ | ⟨he, hs2⟩
            · rw [he]
              clear he
              generalize doneS L d l[k].r.c l[k].r.n = res at ht2 hon2 ⊢
              obtain ⟨r1, r2, L2, d2⟩ := res
              simp only at ht2 hon2 ⊢
              have HT2 := Lib.hid ht2
              have HN2 := Lib.hid hon2
              have HO2 : Hid (∀ o, (w2.alloc o).ownsRow w.heap.size 28 3 (.slice Ad dl.length cd) dl.length (cellsOf dl)) := fun o => ht2.od.alloc o
              have hs2 := ht2.hw
              clear ht2 hon2
              go_wp2_with (at_builtin; refine wpList_append_lies _ rfl (.tmp 57) (.tmp 60) _ rfl w.heap.size 28 i0 _ 3 32 Try.underlying26 hi0 hz0 hz1 hz2 rfl (by omega) (.slice Ad dl.length cd) dl.length (cellsOf dl) rfl (HO2.out _) ⟨w2.heap.size, 0, none⟩ 1 1 (Req.cells l[k].r) rfl rfl (news_box (by simp)) hone.out (by omega) (by unfold maxLen; omega) (by omega) (by simp; omega) (w2.heap.size + 1) (by simp) ?_; intro g2 cap2 w3 hown3 hg3 hat3 hlt3)
              go_meet
              obtain ⟨ht3, hb3⟩ := HT2.out.pushD (r := l[k].r) hg3 hown3 hat3
              exact ⟨L2, d2, al, dl ++ [l[k].r], ht3, HN2.out, by omega, by simp; omega, hbw2.out.trans hb3⟩
            · rw [he]
              rw [hs2] at ht2
              have HT2 := Lib.hid ht2
              clear ht2 he hs2 z1 z2 z3
              go_wp2
              go_meet
              exact ⟨L, d, al, dl, HT2.out, HO.out, by omega, by omega, hbw2.out⟩
          · have hw2 : (l[k].what == 2) = false := by simp [hw]
            clear hw
            go_wp2_with fail
            refine (HA.out _ _ _).mono ?_
            rintro e w2 ⟨rfl, ht2, hb2, hs2⟩
            have hbw2 := Lib.hid (HBX.out w2 hb2)
            obtain ⟨z1, z2, z3⟩ := HCX.out w2 hs2
            clear hs2 hb2
            rcases once_add (L := L) (d := d) (al := al) (dl := dl) l[k].r HO.out with ⟨hs1, he, hon2⟩ | ⟨hs1, hs2⟩
            · rw [he, hs1]
              clear he hs1
              generalize addS L d l[k].r = res at ht2 hon2 ⊢
              obtain ⟨r1, r2, L2⟩ := res
              simp only at ht2 hon2 ⊢
              have HT2 := Lib.hid ht2
              have HN2 := Lib.hid hon2
              have HO2 : Hid (∀ o, (w2.alloc o).ownsRow w.heap.size 28 3 (.slice Aa al.length ca) al.length (cellsOf al)) := fun o => ht2.oa.alloc o
              have hs2 := ht2.hw
              clear ht2 hon2
              go_wp2_with (at_builtin; refine wpList_append_lies _ rfl (.tmp 74) (.tmp 77) _ rfl w.heap.size 28 i0 _ 3 32 Try.underlying26 hi0 hz0 hz1 hz2 rfl (by omega) (.slice Aa al.length ca) al.length (cellsOf al) rfl (HO2.out _) ⟨w2.heap.size, 0, none⟩ 1 1 (Req.cells l[k].r) rfl rfl (news_box (by simp)) hone.out (by omega) (by unfold maxLen; omega) (by omega) (by simp; omega) (w2.heap.size + 1) (by simp) ?_; intro g2 cap2 w3 hown3 hg3 hat3 hlt3)
              go_meet
              obtain ⟨ht3, hb3⟩ := HT2.out.pushA (r := l[k].r) hg3 hown3 hat3
              exact ⟨L2, d, al ++ [l[k].r], dl, ht3, HN2.out, by simp; omega, by omega, hbw2.out.trans hb3⟩
            · rw [hs1]
              rw [hs2] at ht2
              have HT2 := Lib.hid ht2
              generalize (addS L d l[k].r).2.1 = er
              clear ht2 hs1 hs2 z1 z2 z3
              by_cases her : er = 0
              · have her2 : (er == 0) = true := by simp [her]
                clear her
                go_wp2
                go_meet
                exact ⟨L, d, al, dl, HT2.out, HO.out, by omega, by omega, hbw2.out⟩
              · have her2 : (er == 0) = false := by simp [her]
                clear her
                go_wp2
                go_meet
                exact ⟨L, d, al, dl, HT2.out, HO.out, by omega, by omega, hbw2.out⟩
        case rest =>
          clear HT HO HB y0 y1 y2 y3 hal hdl HR
          obtain ⟨L2, d2, al2, dl2, ht2, ho2, ha2, hd2, hb2⟩ := hcut
          have HT2 := Lib.hid ht2
          have HO2 := Lib.hid ho2
          obtain ⟨Aa, ca, rfl⟩ := own_shape ht2.oa
          obtain ⟨Ad, cd, rfl⟩ := own_shape ht2.od
          clear ht2 ho2
          go_wp2_with fail
          refine (take_trio HT2.out HO2.out.ok).mono ?_
          rintro e w3 ⟨v3, rfl, hown3, hb3⟩
          have HT3 := Lib.hid (HT2.out.below hb3)
          have hb03 := Lib.hid (hb2.trans (hb3.mono hb2.size))
          have hl4 := takeS_len L2
          have hz := Lib.hid (takeS_zero HO2.out.ok)
          have hrd3 := Lib.hid (Rd.of_own hown3)
          have hra := Lib.hid (Rd.of_own HT3.out.oa)
          have hrdd := Lib.hid (Rd.of_own HT3.out.od)
          have hL24 := HO2.out.ok.1
          have htk := Lib.hid (once_take HO2.out)
          obtain ⟨A3, c3, rfl⟩ := own_shape hown3
          have hc3 : (takeS L2).length ≤ c3 := by
            rcases hown3.2 with ⟨h', h0⟩ | ⟨_, _, _, h', _, _, hnc, _⟩
            · omega
            · injection h' with _ _ h'; omega
          generalize takeS L2 = T at *
          clear hown3 hb3 hb2 HT2
          have hfinal : Hid (∀ wf, Below w3.heap.size w3 wf → OnceAt w.heap.size w w.heap.size (k + 1) (.slice Aa al2.length ca) (.slice Ad dl2.length cd) wf) := fun wf hb => ⟨L2, d2, al2, dl2, HT3.out.below hb, HO2.out, ha2, hd2, hb03.out.trans (hb.mono hb03.out.size)⟩
          by_cases hz0 : T.length = 0
          · have hz1 : L2.length = 0 := hz.out.1 hz0
            obtain rfl : T = [] := List.eq_nil_of_length_eq_zero hz0
            obtain rfl : L2 = [] := List.eq_nil_of_length_eq_zero hz1
            clear hz0 hz1
            go_wp2_with (go_at_call 12; refine (len_trio HT3.out).mono ?_; rintro e w' ⟨rfl, rfl⟩)
            go_loopw [101] (fun i wr => i = .int .i64 0 ∧ Hid (Below w3.heap.size w3 wr)) (fun _ _ => 0)
            case atStart => exact ⟨rfl, Below.refl _ _⟩
            case round =>
              obtain ⟨rfl, hbi⟩ := hrel
              go_wp2
              go_roundw
              case rel => exact ⟨k + 1, by omega, by go_num, hfinal.out _ hbi.out⟩
              case measure => simp [intOf]; omega
          · have t0 : ((T.length : Int) == 0) = false := beq_eq_false_iff_ne.2 (by omega)
            clear hz0
            go_wp2_with (go_at_call 12; refine (len_trio HT3.out).mono ?_; rintro e w' ⟨rfl, rfl⟩)
            go_loopw [101] (fun i wr => ∃ j : Nat, j ≤ T.length ∧ i = .int .i64 j ∧ Hid (Below w3.heap.size w3 wr)) (fun i _ => T.length - (intOf i).toNat)
            case atStart => exact ⟨0, Nat.zero_le _, rfl, Below.refl _ _⟩
            case round =>
              obtain ⟨j, hj, rfl, hbi⟩ := hrel
              obtain ⟨wi, rfl⟩ : ∃ wi : World, wi = wr := ⟨_, rfl⟩
              have hsi := hbi.out.size
              by_cases hjt : j < T.length
              · obtain ⟨g3, o3, rfl, hg3, x0, x1, x2⟩ := rd_get hrd3.out hjt
                have y0 := (hbi.out.cell (p := ⟨g3, o3 + j * 3, none⟩) hg3).trans x0
                have y1 := (hbi.out.cell (p := ⟨g3, o3 + j * 3 + 1, none⟩) hg3).trans x1
                have y2 := (hbi.out.cell (p := ⟨g3, o3 + j * 3 + 2, none⟩) hg3).trans x2
                clear x0 x1 x2
                go_wp2_with fail
                -- the list of what was added
                go_loopw [15, 108] (fun b i wr => ∃ m : Nat, m ≤ al2.length ∧ i = .int .i64 m ∧ b = .bool ((al2.take m).any (fun a => reqEq a T[j])) ∧ Hid (Below (wi.heap.size + 1) (wi.alloc (.cells #[.int .i64 T[j].c, .int .i64 T[j].n, .string T[j].t] 28)) wr)) (fun _ i _ => al2.length - (intOf i).toNat)
                case atStart => exact ⟨0, Nat.zero_le _, rfl, by simp, by have := Below.refl (wi.heap.size + 1) (wi.alloc (.cells #[.int .i64 T[j].c, .int .i64 T[j].n, .string T[j].t] 28)); exact this⟩
                case round =>
                  obtain ⟨m, hm', rfl, rfl, hbq⟩ := hrel
                  obtain ⟨wq, rfl⟩ : ∃ wq : World, wq = wr := ⟨_, rfl⟩
                  have hsq := hbq.out.size
                  simp only [World.size_alloc] at hsq
                  have q0 : wq.cell? ⟨wi.heap.size, 0, none⟩ = some (.int .i64 T[j].c) := (hbq.out.cell (p := ⟨wi.heap.size, 0, none⟩) (by simp)).trans (by simp)
                  have q1 : wq.cell? ⟨wi.heap.size, 1, none⟩ = some (.int .i64 T[j].n) := (hbq.out.cell (p := ⟨wi.heap.size, 1, none⟩) (by simp)).trans (by simp)
                  have q2 : wq.cell? ⟨wi.heap.size, 2, none⟩ = some (.string T[j].t) := (hbq.out.cell (p := ⟨wi.heap.size, 2, none⟩) (by simp)).trans (by simp)
                  have r0 : ∀ o, (wq.alloc o).cell? ⟨wi.heap.size, 0, none⟩ = some (.int .i64 T[j].c) := fun o => (World.cell?_alloc_lt _ _ _ (by show wi.heap.size < wq.heap.size; omega)).trans q0
                  have r1 : ∀ o, (wq.alloc o).cell? ⟨wi.heap.size, 1, none⟩ = some (.int .i64 T[j].n) := fun o => (World.cell?_alloc_lt _ _ _ (by show wi.heap.size < wq.heap.size; omega)).trans q1
                  have r2 : ∀ o, (wq.alloc o).cell? ⟨wi.heap.size, 2, none⟩ = some (.string T[j].t) := fun o => (World.cell?_alloc_lt _ _ _ (by show wi.heap.size < wq.heap.size; omega)).trans q2
                  have hbq3 : Hid (Below w3.heap.size w3 wq) := (hbi.out.alloc hsi _).trans (hbq.out.mono (by omega))
                  by_cases hmt : m < al2.length
                  · obtain ⟨ga, oa, hAa, hga, x0, x1, x2⟩ := rd_get hra.out hmt
                    subst hAa
                    have z0 := (hbq3.out.cell (p := ⟨ga, oa + m * 3, none⟩) hga).trans x0
                    have z1 := (hbq3.out.cell (p := ⟨ga, oa + m * 3 + 1, none⟩) hga).trans x1
                    have z2 := (hbq3.out.cell (p := ⟨ga, oa + m * 3 + 2, none⟩) hga).trans x2
                    have heq := fun wx => eql_req al2[m] T[j] wx
                    have hgd : Try.prog.eqGuardType Try.prog.depth 28 = false := by kernel_rfl
                    have hany := Lib.hid (show (al2.take (m + 1)).any (fun a => reqEq a T[j]) = ((al2.take m).any (fun a => reqEq a T[j]) || reqEq al2[m] T[j]) by rw [List.take_succ_eq_append_getElem hmt, List.any_append]; simp)
                    generalize (al2.take m).any (fun a => reqEq a T[j]) = b at *
                    clear x0 x1 x2
                    cases b with
                    | true =>
                      go_wp2
                      go_roundw
                      case rel => exact ⟨m + 1, by omega, by go_num, by rw [hany.out]; rfl, hbq.out.alloc (by simpa using hsq) _⟩
                      case measure => simp [intOf]; omega
                    | false =>
                      go_wp2
                      go_roundw
                      case rel => exact ⟨m + 1, by omega, by go_num, by rw [hany.out]; rfl, hbq.out.alloc (by simpa using hsq) _⟩
                      case measure => simp [intOf]; omega
                  · have hin : (al2.take m).any (fun a => reqEq a T[j]) = true := by
                      rw [List.take_of_length_le (by omega), List.any_eq_true]
                      exact ⟨T[j], htk.out.1 T[j] (List.getElem_mem _), reqEq_refl _⟩
                    rw [hin]
                    clear hin
                    go_wp2_with fail
                    -- the list of what is done
                    clear r0 r1 r2 q2
                    go_loopw [121] (fun i wr => ∃ m : Nat, m ≤ dl2.length ∧ i = .int .i64 m ∧ Hid (Below wq.heap.size wq wr)) (fun i _ => dl2.length - (intOf i).toNat)
                    case atStart => exact ⟨0, Nat.zero_le _, rfl, Below.refl _ _⟩
                    case round =>
                      obtain ⟨m2, hm2, rfl, hbr⟩ := hrel
                      obtain ⟨wd, rfl⟩ : ∃ wd : World, wd = wr := ⟨_, rfl⟩
                      have hsr := hbr.out.size
                      have s0 := (hbr.out.cell (p := ⟨wi.heap.size, 0, none⟩) (by show wi.heap.size < wq.heap.size; omega)).trans q0
                      have s1 := (hbr.out.cell (p := ⟨wi.heap.size, 1, none⟩) (by show wi.heap.size < wq.heap.size; omega)).trans q1
                      have r0 : ∀ o, (wd.alloc o).cell? ⟨wi.heap.size, 0, none⟩ = some (.int .i64 T[j].c) := fun o => (World.cell?_alloc_lt _ _ _ (by show wi.heap.size < wd.heap.size; omega)).trans s0
                      have r1 : ∀ o, (wd.alloc o).cell? ⟨wi.heap.size, 1, none⟩ = some (.int .i64 T[j].n) := fun o => (World.cell?_alloc_lt _ _ _ (by show wi.heap.size < wd.heap.size; omega)).trans s1
                      have hbr3 : Hid (Below w3.heap.size w3 wd) := hbq3.out.trans (hbr.out.mono hbq3.out.size)
                      clear q0 q1
                      by_cases hmt2 : m2 < dl2.length
                      · obtain ⟨gd, od, hAd, hgd', x0, x1, x2⟩ := rd_get hrdd.out hmt2
                        subst hAd
                        have z0 := (hbr3.out.cell (p := ⟨gd, od + m2 * 3, none⟩) hgd').trans x0
                        have z1 := (hbr3.out.cell (p := ⟨gd, od + m2 * 3 + 1, none⟩) hgd').trans x1
                        have z2 := (hbr3.out.cell (p := ⟨gd, od + m2 * 3 + 2, none⟩) hgd').trans x2
                        have hlater := Lib.hid (htk.out.2.1 T[j] (List.getElem_mem _) dl2[m2] (List.getElem_mem _))
                        clear x0 x1 x2
                        by_cases hcc : dl2[m2].c = T[j].c
                        · have hcb : (dl2[m2].c == T[j].c) = true := by simp [hcc]
                          have hnn := hlater.out hcc
                          clear hcc
                          go_wp2
                          go_roundw
                          case rel => exact ⟨m2 + 1, by omega, by go_num, hbr.out.alloc hsr _⟩
                          case measure => simp [intOf]; omega
                        · have hcb : (dl2[m2].c == T[j].c) = false := by simp [hcc]
                          clear hcc
                          go_wp2
                          go_roundw
                          case rel => exact ⟨m2 + 1, by omega, by go_num, hbr.out.alloc hsr _⟩
                          case measure => simp [intOf]; omega
                      · have hj0 : (0 : Int) ≤ (j : Int) := by omega
                        have hjc : (j : Int) ≤ (c3 : Int) := by omega
                        go_wp2_with fail
                        go_loopw [142] (fun i wr => ∃ m : Nat, m ≤ j ∧ i = .int .i64 m ∧ Hid (Below wd.heap.size wd wr)) (fun i _ => j - (intOf i).toNat)
                        case atStart => exact ⟨0, Nat.zero_le _, rfl, Below.refl _ _⟩
                        case round =>
                          obtain ⟨m3, hm3, rfl, hbs⟩ := hrel
                          obtain ⟨wt, rfl⟩ : ∃ wt : World, wt = wr := ⟨_, rfl⟩
                          have hst := hbs.out.size
                          have t1 := (hbs.out.cell (p := ⟨wi.heap.size, 0, none⟩) (by show wi.heap.size < wd.heap.size; omega)).trans s0
                          have u0 : ∀ o, (wt.alloc o).cell? ⟨wi.heap.size, 0, none⟩ = some (.int .i64 T[j].c) := fun o => (World.cell?_alloc_lt _ _ _ (by show wi.heap.size < wt.heap.size; omega)).trans t1
                          have hbs3 : Hid (Below w3.heap.size w3 wt) := hbr3.out.trans (hbs.out.mono hbr3.out.size)
                          clear s0 s1 r0 r1
                          by_cases hmt3 : m3 < j
                          · obtain ⟨_, _, hA3, _, x0, x1, x2⟩ := rd_get hrd3.out (k := m3) (by omega)
                            injection hA3 with hA3
                            injection hA3 with hA3 hA4 _
                            subst hA3 hA4
                            have z0 := (hbs3.out.cell (p := ⟨g3, o3 + m3 * 3, none⟩) hg3).trans x0
                            have z1 := (hbs3.out.cell (p := ⟨g3, o3 + m3 * 3 + 1, none⟩) hg3).trans x1
                            have z2 := (hbs3.out.cell (p := ⟨g3, o3 + m3 * 3 + 2, none⟩) hg3).trans x2
                            have hne : (T[m3].c == T[j].c) = false := by
                              have := List.pairwise_iff_getElem.1 htk.out.2.2 m3 j (by omega) hjt hmt3
                              simpa using this
                            clear x0 x1 x2
                            go_wp2
                            go_roundw
                            case rel => exact ⟨m3 + 1, by omega, by go_num, hbs.out.alloc hst _⟩
                            case measure => simp [intOf]; omega
                          · go_wp2
                            go_roundw
                            case rel => exact ⟨j + 1, by omega, by go_num, hbs3⟩
                            case measure => simp [intOf]; omega
              · go_wp2
                go_roundw
                case rel => exact ⟨k + 1, by omega, by go_num, hfinal.out _ hbi.out⟩
                case measure => simp [intOf]; omega
      · obtain ⟨L, d, al, dl, htr, hon, hal, hdl, hbw⟩ := hI
        have hsz := hbw.size
        go_wp2_with (go_at_call 8; refine (one_any _).mono ?_; rintro e w2 ⟨rfl, hb2⟩)
        go_ret
        exact ⟨rfl, hbw.trans (hb2.mono hsz)⟩

end Go.Proofs.Ytemldlfolacekaa
