/- The reference's Forget and Take; the law's ref. -/
import Derived.Test.YtemldlfolacekaaRc
namespace Go.Proofs.Ytemldlfolacekaa
open Go.RowKit Go.Shelf
attribute [local go_sem ↓] Go.wp_at_zero Go.wp_at_succ

set_option maxHeartbeats 400000 in
theorem ref_any (r : Req) (w : World) :
    Calls Try.prog 14 #[.agg #[.int .i64 r.c, .int .i64 r.n, .string r.t]] w fun e w' => e = .returned (.agg #[.int .i64 r.c, .int .i64 r.n, .string r.t]) ∧ Below w.heap.size w w' := by
  go_enter Try.func14, Try.ntmps14
  go_wp2
  refine bodyPost_ret (v := .agg #[.int .i64 r.c, .int .i64 r.n, .string r.t]) (by simp [results, Try.results14, go_sem]) rfl ⟨rfl, ?_⟩
  exact (((Below.refl _ _).alloc (Nat.le_refl _) _).alloc (by simp) _)

set_option maxHeartbeats 400000 in
theorem rforget_wrong (R : Nat) (c n : Int) (w : World) (h : wrongB c n = true) :
    Calls Try.prog 17 #[.pointer (some ⟨R, 0, none⟩), .int .i64 c, .int .i64 n] w fun e w' => e = .returned (.tuple #[.bool false, .int .i64 1]) ∧ w = w' := by
  go_enter Try.func17, Try.ntmps17
  go_wp2_with (go_at_call 26; refine (rwrong_yes _ _ _ h).mono ?_; rintro e w' ⟨rfl, rfl⟩)
  go_ret2
  exact ⟨rfl, rfl⟩

/-- what the reference's Forget comes to -/
def rforgetS (L : List Req) (c n : Int) : Bool × List Req := if hasS L c n = true then (decide ((dropS L c n).length < L.length), dropS L c n) else (false, L)

theorem hasS_take_false (L : List Req) (c n : Int) (k : Nat) (hk : k < L.length) (h : hasS (L.take k) c n = false) (h2 : (L[k].c == c && L[k].n == n) = false) : hasS (L.take (k + 1)) c n = false := by
  unfold hasS at *
  rw [List.take_succ_eq_append_getElem hk, List.any_append, h]
  simpa using h2
theorem hasS_at (L : List Req) (c n : Int) (k : Nat) (hk : k < L.length) (h2 : (L[k].c == c && L[k].n == n) = true) : hasS L c n = true := by
  unfold hasS
  rw [List.any_eq_true]
  exact ⟨L[k], List.getElem_mem _, h2⟩

set_option maxHeartbeats 1600000 in
theorem rforget_any (base R : Nat) (vl vd : Value) (L D : List Req) (c n : Int) (w : World) (hp : RefAt w base R vl vd L D) (h : wrongB c n = false) (hm : L.length ≤ 1000000) (hbase : base ≤ w.heap.size) :
    Calls Try.prog 17 #[.pointer (some ⟨R, 0, none⟩), .int .i64 c, .int .i64 n] w fun e w' => e = .returned (.tuple #[.bool (rforgetS L c n).1, .int .i64 0]) ∧ RefTo w w' base R vl vd (rforgetS L c n).2 D := by
  have hlt := hp.lt
  have hc := hp.cl
  have HP := Lib.hid hp
  have HO := Lib.hid hp.ol
  have HD := Lib.hid (fun (w2 : World) (hp2 : RefAt w2 base R vl vd L D) (hb2 : base ≤ w2.heap.size) => drop_any base R vl vd L D c n w2 hp2 hm hb2)
  obtain ⟨A, cc, rfl⟩ := own_shape hp.ol
  clear hp
  go_enter Try.func17, Try.ntmps17
  go_wp2_with (go_at_call 26; refine (rwrong_no _ _ _ h).mono ?_; rintro e w' ⟨rfl, rfl⟩)
  go_loopw [18] (fun i wr => ∃ k : Nat, k ≤ L.length ∧ i = .int .i64 k ∧ Hid (Below w.heap.size w wr) ∧ Hid (hasS (L.take k) c n = false)) (fun i _ => L.length - (intOf i).toNat)
  case atStart => exact ⟨0, Nat.zero_le _, rfl, Below.refl _ _, rfl⟩
  case round =>
    obtain ⟨k, hk, rfl, hbw, hno⟩ := hrel
    have hbs := hbw.out.size
    by_cases hlt' : k < L.length
    · obtain ⟨g, c', hV, hg, hx0, hx1, hx2⟩ := own_get45 HO.out hlt'
      injection hV with hA _ hcc
      subst hA
      clear hcc
      have y0 := (hbw.out.cell (p := ⟨g, k * 3, none⟩) hg).trans hx0
      have y1 := (hbw.out.cell (p := ⟨g, k * 3 + 1, none⟩) hg).trans hx1
      have y2 := (hbw.out.cell (p := ⟨g, k * 3 + 2, none⟩) hg).trans hx2
      clear hx0 hx1 hx2 hc
      cases h1 : (L[k].c == c) with
      | false =>
        have hno2 := Lib.hid (hasS_take_false L c n k hlt' hno.out (by rw [h1]; rfl))
        go_wp2
        go_roundw
        case rel => exact ⟨k + 1, by omega, by go_num, hbw.out.alloc hbs _, hno2⟩
        case measure => simp [intOf]; omega
      | true =>
        cases h2 : (L[k].n == n) with
        | false =>
          have hno2 := Lib.hid (hasS_take_false L c n k hlt' hno.out (by rw [h1, h2]; rfl))
          go_wp2
          go_roundw
          case rel => exact ⟨k + 1, by omega, by go_num, hbw.out.alloc hbs _, hno2⟩
          case measure => simp [intOf]; omega
        | true =>
          have hyes : rforgetS L c n = (decide ((dropS L c n).length < L.length), dropS L c n) := by rw [rforgetS, if_pos (hasS_at L c n k hlt' (by rw [h1, h2]; rfl))]
          have HE := Lib.hid hyes
          have hbw2 : Hid (∀ o, Below w.heap.size w (wr.alloc o)) := fun o => hbw.out.alloc hbs o
          clear hyes
          go_wp2_with fail
          refine (HD.out _ (HP.out.below (hbw2.out _)) (Nat.le_trans hbase (hbw2.out _).size)).mono ?_
          rintro e w4 ⟨rfl, vl4, hp4, hc4, _⟩
          go_wp2
          go_ret2
          rw [HE.out]
          exact ⟨rfl, vl4, _, hp4, (Chg.of_below (hbw2.out _)).trans hc4 (fun _ _ h => .inl h)⟩
    · have e : L.take k = L := List.take_of_length_le (by omega)
      have hno2 := hno.out
      rw [e] at hno2
      have hE : rforgetS L c n = (false, L) := by rw [rforgetS, if_neg (by rw [hno2]; simp)]
      have HE := Lib.hid hE
      clear e hno2 hE
      go_wp2
      go_ret2
      rw [HE.out]
      exact ⟨rfl, RefTo.of_below HP.out hbw.out⟩

set_option maxHeartbeats 1600000 in
theorem rtake_any (base R : Nat) (vl vd : Value) (l D : List Req) (w : World) (hp : RefAt w base R vl vd l D) (hm : l.length ≤ 1000000) (hs : ∀ r ∈ l, r.t.size ≤ 4000) :
    Calls Try.prog 19 #[.pointer (some ⟨R, 0, none⟩)] w fun e w' => ∃ v, e = .returned v ∧ w'.ownsRow w.heap.size 45 3 v (takeS l).length (cellsOf (takeS l)) ∧ Below w.heap.size w w' := by
  obtain ⟨i0, hi0, hz0, hz1, hz2⟩ := info_parts ref_info
  have hlt := hp.lt
  have hc := hp.cl
  have HO := Lib.hid hp.ol
  obtain ⟨A, c, rfl⟩ := own_shape hp.ol
  clear hp
  go_enter Try.func19, Try.ntmps19
  go_wp2
  go_loopw [3, 4, 12] (fun v s i wr => ∃ k : Nat, k ≤ l.length ∧ k ≤ 4 ∧ i = .int .i64 k ∧ s = .int .i64 (szOf (l.take k)) ∧ szOf (l.take k) ≤ 9000 ∧ Hid (wr.ownsRow w.heap.size 45 3 v k (cellsOf (l.take k))) ∧ Hid (Below w.heap.size w wr) ∧ Hid (takeS l = l.take k ++ takeFrom (l.drop k) k (szOf (l.take k)))) (fun _ _ i _ => l.length - (intOf i).toNat)
  case atStart => exact ⟨0, Nat.zero_le _, by omega, rfl, rfl, by simp [szOf], by simpa [cellsOf, Hid] using World.ownsRow_nil w w.heap.size 45 3, Below.refl _ _, by simp [Hid, takeS, szOf]⟩
  case round =>
    obtain ⟨k, hk, hk4, rfl, rfl, hsz, hown, hbw, ht⟩ := hrel
    have hbs := hbw.out.size
    by_cases hlt' : k < l.length
    · obtain ⟨g, c', hV, hg, hx0, hx1, hx2⟩ := own_get45 HO.out hlt'
      injection hV with hA _ hcc
      subst hA
      clear hcc
      have y0 := (hbw.out.cell (p := ⟨g, k * 3, none⟩) hg).trans hx0
      have y1 := (hbw.out.cell (p := ⟨g, k * 3 + 1, none⟩) hg).trans hx1
      have y2 := (hbw.out.cell (p := ⟨g, k * 3 + 2, none⟩) hg).trans hx2
      have hss := hs l[k] (List.getElem_mem _)
      clear hx0 hx1 hx2 hc
      obtain ⟨A', c2, rfl⟩ := own_shape hown.out
      by_cases hst : k = 4 ∨ 9000 < szOf (l.take k) + l[k].t.size
      · have hend := take_stop l k _ hlt' hst
        have HE : Hid (takeS l = l.take k) := by rw [Hid, ht.out, hend, List.append_nil]
        clear hend
        have hfin : Hid (∀ o, Below w.heap.size w (wr.alloc o)) := fun o => hbw.out.alloc hbs o
        have hfo : Hid (∀ o, (wr.alloc o).ownsRow w.heap.size 45 3 (.slice A' k c2) k (cellsOf (l.take k))) := fun o => hown.out.alloc o
        have hl' : Hid ((l.take k).length = k) := by rw [Hid, List.length_take]; omega
        rcases hst with hst | hst
        · subst hst
          go_wp2
          go_ret
          exact ⟨_, rfl, by rw [HE.out, hl'.out]; exact hfo.out _, hfin.out _⟩
        · by_cases h4 : k = 4
          · subst h4
            go_wp2
            go_ret
            exact ⟨_, rfl, by rw [HE.out, hl'.out]; exact hfo.out _, hfin.out _⟩
          · have h4' : ((k : Int) == 4) = false := by simp; omega
            go_wp2
            go_ret
            exact ⟨_, rfl, by rw [HE.out, hl'.out]; exact hfo.out _, hfin.out _⟩
      · have hmore := Lib.hid (take_more l k (szOf (l.take k)) hlt' hst)
        have h4 : ((k : Int) == 4) = false := by simp; omega
        have h9 : szOf (l.take k) + l[k].t.size ≤ 9000 := by omega
        have hk3 : k < 4 := by omega
        have hone : Hid (∀ u ∈ Req.cells l[k], u.oneCell' = true) := by intro u hu; simp [Req.cells] at hu; rcases hu with rfl | rfl | rfl <;> rfl
        have HO2 : Hid (∀ o o', ((wr.alloc o).alloc o').ownsRow w.heap.size 45 3 (.slice A' k c2) k (cellsOf (l.take k))) := fun o o' => (hown.out.alloc o).alloc o'
        clear hst
        go_wp2_with (at_builtin; refine wpList_append_lies _ rfl (.tmp 33) (.tmp 35) _ rfl w.heap.size 45 i0 _ 3 32 Try.underlying40 hi0 hz0 hz1 hz2 rfl (by omega) (.slice A' k c2) k (cellsOf (l.take k)) rfl (HO2.out _ _) ⟨wr.heap.size + 1, 0, none⟩ 1 1 (Req.cells l[k]) rfl rfl (news_box (by simp)) hone.out (by omega) (by unfold maxLen; omega) (by omega) (by simp; omega) (wr.heap.size + 2) (by simp) ?_; intro g2 cap2 w2 hown2 hg2 hat2 hlt2)
        have e1 : szOf (l.take (k + 1)) = szOf (l.take k) + l[k].t.size := szOf_succ l k hlt'
        have e2 := cells_snoc l k hlt'
        have hb2 : Below w.heap.size w w2 := ((hbw.out.alloc hbs _).alloc (by simp; omega) _).grown hg2 (by simp; omega) (fun g' h' => (hown.out.lt g' h').1)
        go_roundw
        case rel =>
          refine ⟨k + 1, by omega, by omega, by go_num, by rw [e1]; go_num, by omega, by rw [e2]; exact hown2, hb2, ?_⟩
          rw [Hid, ht.out, hmore.out, e1]
        case measure => simp [intOf]; omega
    · have HE : Hid (takeS l = l.take k) := by rw [Hid, ht.out, List.drop_eq_nil_of_le (by omega)]; simp [takeFrom]
      have hl' : Hid ((l.take k).length = k) := by rw [Hid, List.length_take]; omega
      go_wp2
      go_ret
      exact ⟨_, rfl, by rw [HE.out, hl'.out]; exact hown.out, hbw.out⟩

end Go.Proofs.Ytemldlfolacekaa
