/- The reference's Finish, Forget, Take; the law's ref. -/
import Derived.Test.YtemldlfolacekaaRb
namespace Go.Proofs.Ytemldlfolacekaa
open Go.RowKit Go.Shelf
attribute [local go_sem ↓] Go.wp_at_zero Go.wp_at_succ

set_option maxHeartbeats 400000 in
theorem finish_wrong (R : Nat) (c n : Int) (w : World) (h : wrongB c n = true) :
    Calls Try.prog 15 #[.pointer (some ⟨R, 0, none⟩), .int .i64 c, .int .i64 n] w fun e w' => e = .returned (.tuple #[.bool false, .int .i64 1]) ∧ w = w' := by
  go_enter Try.func15, Try.ntmps15
  go_wp2_with (go_at_call 26; refine (rwrong_yes _ _ _ h).mono ?_; rintro e w' ⟨rfl, rfl⟩)
  go_ret2
  exact ⟨rfl, rfl⟩

theorem RefAt.pushD {w w2 : World} {base R : Nat} {vl vd : Value} {L D : List Req} {r : Req} {k m g2 cap2 : Nat} {o : Obj} (hp : RefAt w base R vl vd L D) (hg : ((w.drewN k).alloc o).grownBy w2 vd.ownBlock) (hm : m = D.length + 1)
    (hown : w2.ownsRow base 45 3 (.slice (some ⟨g2, 0, none⟩) m cap2) m (cellsOf D ++ Req.cells r)) (hat : vd.ownBlock = some g2 ∨ g2 = w.heap.size + 1) :
    RefAt (w2.setCell ⟨R, 1, none⟩ (.slice (some ⟨g2, 0, none⟩) m cap2)) base R vl (.slice (some ⟨g2, 0, none⟩) m cap2) L (D ++ [r]) ∧ Chg (fun k => k = R ∨ vd.ownBlock = some k) w (w2.setCell ⟨R, 1, none⟩ (.slice (some ⟨g2, 0, none⟩) m cap2)) := by
  have hC : Chg (fun k => vd.ownBlock = some k) w w2 := (((Chg.refl _ w).drewN k).alloc o).grown hg (fun g h _ => h)
  have hR := hp.blk.chg hC hp.nd
  have hl := hC.owns hp.ol (fun g hg => hp.ap g hg)
  have hnd : (Value.slice (some ⟨g2, 0, none⟩) m cap2).ownBlock ≠ some R := own_blk_ne hown hR (by decide)
  have hnl := hp.nl
  have hset : w2.grownBy (w2.setCell ⟨R, 1, none⟩ (.slice (some ⟨g2, 0, none⟩) m cap2)) (some R) := ⟨rfl, rfl, rfl, by simp, fun k _ hk => Below.heap_setCell _ _ _ _ (fun e => hk (by rw [e]))⟩
  have hb := hR.set_ 1 (.slice (some ⟨g2, 0, none⟩) m cap2)
  refine ⟨⟨by simpa using hb, own_keep hl hset (fun g hg e => hnl (by rw [hg, e])), ?_, ?_⟩, (hC.mono (fun _ _ h => .inr h)).setCell (p := ⟨R, 1, none⟩) (fun _ => .inl rfl) _⟩
  · have e1 : (D ++ [r]).length = m := by simp [hm]
    have e2 : cellsOf (D ++ [r]) = cellsOf D ++ Req.cells r := by simp [cellsOf]
    rw [e1, e2]
    exact own_keep hown hset (fun g hg e => hnd (by rw [hg, e]))
  · intro g hg' e
    have e3 : g2 = g := by simpa [Value.ownBlock] using e
    subst e3
    rcases hat with hat | hat
    · exact hp.ap g2 hg' hat
    · have := (hp.ol.lt g2 hg').2; omega

theorem RefAt.pushL {w w2 : World} {base R : Nat} {vl vd : Value} {L D : List Req} {r : Req} {k m g2 cap2 : Nat} {o : Obj} (hp : RefAt w base R vl vd L D) (hg : ((w.drewN k).alloc o).grownBy w2 vl.ownBlock) (hm : m = L.length + 1)
    (hown : w2.ownsRow base 45 3 (.slice (some ⟨g2, 0, none⟩) m cap2) m (cellsOf L ++ Req.cells r)) (hat : vl.ownBlock = some g2 ∨ g2 = w.heap.size + 1) :
    RefAt (w2.setCell ⟨R, 0, none⟩ (.slice (some ⟨g2, 0, none⟩) m cap2)) base R (.slice (some ⟨g2, 0, none⟩) m cap2) vd (L ++ [r]) D ∧ Chg (fun k => k = R ∨ vl.ownBlock = some k) w (w2.setCell ⟨R, 0, none⟩ (.slice (some ⟨g2, 0, none⟩) m cap2)) := by
  have hC : Chg (fun k => vl.ownBlock = some k) w w2 := (((Chg.refl _ w).drewN k).alloc o).grown hg (fun g h _ => h)
  have hR := hp.blk.chg hC hp.nl
  have hd := hC.owns hp.od (fun g hg e => hp.ap g e hg)
  have hnl : (Value.slice (some ⟨g2, 0, none⟩) m cap2).ownBlock ≠ some R := own_blk_ne hown hR (by decide)
  have hnd := hp.nd
  have hset : w2.grownBy (w2.setCell ⟨R, 0, none⟩ (.slice (some ⟨g2, 0, none⟩) m cap2)) (some R) := ⟨rfl, rfl, rfl, by simp, fun k _ hk => Below.heap_setCell _ _ _ _ (fun e => hk (by rw [e]))⟩
  have hb := hR.set_ 0 (.slice (some ⟨g2, 0, none⟩) m cap2)
  refine ⟨⟨by simpa using hb, ?_, own_keep hd hset (fun g hg e => hnd (by rw [hg, e])), ?_⟩, (hC.mono (fun _ _ h => .inr h)).setCell (p := ⟨R, 0, none⟩) (fun _ => .inl rfl) _⟩
  · have e1 : (L ++ [r]).length = m := by simp [hm]
    have e2 : cellsOf (L ++ [r]) = cellsOf L ++ Req.cells r := by simp [cellsOf]
    rw [e1, e2]
    exact own_keep hown hset (fun g hg e => hnl (by rw [hg, e]))
  · intro g hg' e
    have e3 : g2 = g := by simpa [Value.ownBlock] using hg'
    subst e3
    rcases hat with hat | hat
    · exact hp.ap g2 hat e
    · have := (hp.od.lt g2 e).2; omega

/-- what Finish lays -/
def nq (c n : Int) : Req := ⟨c, n, ⟨#[]⟩⟩

set_option maxHeartbeats 1600000 in
theorem finish_ok (base R : Nat) (vl vd : Value) (L D : List Req) (c n : Int) (w : World) (hp : RefAt w base R vl vd L D) (h : wrongB c n = false) (hm : L.length ≤ 1000000) (hmd : D.length ≤ 1000000) (hbase : base ≤ w.heap.size) :
    Calls Try.prog 15 #[.pointer (some ⟨R, 0, none⟩), .int .i64 c, .int .i64 n] w fun e w' => e = .returned (.tuple #[.bool (decide ((dropS L c n).length < L.length)), .int .i64 0]) ∧
      RefTo w w' base R vl vd (dropS L c n) (D ++ [nq c n]) := by
  obtain ⟨i0, hi0, hz0, hz1, hz2⟩ := info_parts ref_info
  have hlt := hp.lt
  have hc := hp.cd
  have hf := hp.free 1
  have HP := Lib.hid hp
  have HO : Hid (∀ (m : Nat) (o : Obj), ((w.drewN m).alloc o).ownsRow base 45 3 vd D.length (cellsOf D)) := fun m o => World.ownsRow.alloc (w := w.drewN m) hp.od o
  have HO0 : Hid (∀ (o : Obj), (w.alloc o).ownsRow base 45 3 vd D.length (cellsOf D)) := fun o => hp.od.alloc o
  have hne1 : Hid (some R ≠ vd.ownBlock) := fun e => hp.nd e.symm
  have hone : Hid (∀ u ∈ Req.cells (nq c n), u.oneCell' = true) := by intro u hu; simp [Req.cells] at hu; rcases hu with rfl | rfl | rfl <;> rfl
  obtain ⟨A, cc, rfl⟩ := own_shape hp.od
  have hcA : ∀ (o : Obj), (w.alloc o).cell? ⟨R, 1, none⟩ = some (.slice A D.length cc) := fun o => (World.cell?_alloc_lt w o ⟨R, 1, none⟩ hlt).trans hc
  clear hp
  go_enter Try.func15, Try.ntmps15
  have HD := Lib.hid (fun (w2 : World) (vd2 : Value) (D2 : List Req) (hp2 : RefAt w2 base R vl vd2 L D2) (hb2 : base ≤ w2.heap.size) => drop_any base R vl vd2 L D2 c n w2 hp2 hm hb2)
  go_wp2_with (first | (go_at_call 26; refine (rwrong_no _ _ _ h).mono ?_; rintro e w' ⟨rfl, rfl⟩) | (at_builtin; refine wpList_append_lies _ rfl (.tmp 15) (.tmp 19) _ rfl base 45 i0 _ 3 32 Try.underlying40 hi0 hz0 hz1 hz2 rfl (by omega) (.slice A D.length cc) D.length (cellsOf D) rfl (HO0.out _) ⟨w.heap.size, 0, none⟩ 1 1 (Req.cells (nq c n)) rfl rfl (news_box (by simp)) hone.out (by omega) (by unfold maxLen; omega) (by omega) (by simp; omega) (w.heap.size + 1) (by simp) ?_; intro g2 cap2 w2 hown2 hg2 hat2 hlt2; have hc2 := (hg2.cell_far ⟨R, 1, none⟩ (by simp; omega) hne1.out).trans ((World.cell?_alloc_lt _ _ _ (by simp; omega)).trans hc); have hf2 := (hg2.frozen_far ⟨R, 1, none⟩ (by simp; omega) hne1.out).trans ((World.frozen?_alloc_old _ _ _ (by simp; omega)).trans hf)))
  obtain ⟨hp3, hc3⟩ := HP.out.pushD (k := 0) (r := nq c n) hg2 rfl hown2 hat2
  have hs3 := hc3.size
  refine (HD.out _ _ _ hp3 (by omega)).mono ?_
  rintro e w4 ⟨rfl, vl4, hp4, hc4, _⟩
  go_wp2
  go_ret2
  exact ⟨rfl, vl4, _, hp4, (hc3.trans hc4 (fun _ _ h => .inl h)).mono (fun _ _ h => h.elim .inl (fun h => .inr (.inr h)))⟩


end Go.Proofs.Ytemldlfolacekaa
