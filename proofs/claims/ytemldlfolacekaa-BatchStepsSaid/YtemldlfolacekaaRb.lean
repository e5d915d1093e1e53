/- The reference's drop. -/
import Derived.Test.YtemldlfolacekaaRa
namespace Go.Proofs.Ytemldlfolacekaa
open Go.RowKit Go.Shelf
attribute [local go_sem ↓] Go.wp_at_zero Go.wp_at_succ

def keepR (c n : Int) (r : Req) : Bool := r.c != c || decide (n < r.n)
def dropS (L : List Req) (c n : Int) : List Req := L.filter (keepR c n)
theorem dropS_yes (L : List Req) (c n : Int) (k : Nat) (hk : k < L.length) (h : keepR c n L[k] = true) : dropS (L.take (k + 1)) c n = dropS (L.take k) c n ++ [L[k]] := by
  unfold dropS; rw [List.take_succ_eq_append_getElem hk, List.filter_append]; simp [h]
theorem dropS_no (L : List Req) (c n : Int) (k : Nat) (hk : k < L.length) (h : keepR c n L[k] = false) : dropS (L.take (k + 1)) c n = dropS (L.take k) c n := by
  unfold dropS; rw [List.take_succ_eq_append_getElem hk, List.filter_append]; simp [h]
theorem dropS_le (L : List Req) (c n : Int) : (dropS L c n).length ≤ L.length := List.length_filter_le _ _

set_option maxHeartbeats 1600000 in
theorem drop_any (base R : Nat) (vl vd : Value) (L D : List Req) (c n : Int) (w : World) (hp : RefAt w base R vl vd L D) (hm : L.length ≤ 1000000) (hbase : base ≤ w.heap.size) :
    Calls Try.prog 27 #[.pointer (some ⟨R, 0, none⟩), .int .i64 c, .int .i64 n] w fun e w' => e = .returned (.bool (decide ((dropS L c n).length < L.length))) ∧
      ∃ vl', RefAt w' base R vl' vd (dropS L c n) D ∧ Chg (fun k => k = R) w w' ∧ ∀ g, vl'.ownBlock = some g → w.heap.size ≤ g := by
  obtain ⟨i0, hi0, hz0, hz1, hz2⟩ := info_parts ref_info
  have hlt := hp.lt
  have hc := hp.cl
  have hf := hp.free 0
  have HP := Lib.hid hp
  have HO := Lib.hid hp.ol
  obtain ⟨A, cc, rfl⟩ := own_shape hp.ol
  clear hp
  go_enter Try.func27, Try.ntmps27
  go_wp2
  go_loopw [7, 16] (fun v i wr => ∃ k : Nat, k ≤ L.length ∧ i = .int .i64 k ∧ Hid (wr.ownsRow w.heap.size 45 3 v (dropS (L.take k) c n).length (cellsOf (dropS (L.take k) c n))) ∧ Hid (Below w.heap.size w wr)) (fun _ i _ => L.length - (intOf i).toNat)
  case atStart => exact ⟨0, Nat.zero_le _, rfl, by simpa [cellsOf, dropS, Hid] using World.ownsRow_nil w w.heap.size 45 3, Below.refl _ _⟩
  case round =>
    obtain ⟨k, hk, rfl, hown, hbw⟩ := hrel
    have hbs := hbw.out.size
    by_cases hlt' : k < L.length
    · obtain ⟨g, c', hV, hg, hx0, hx1, hx2⟩ := own_get45 HO.out hlt'
      injection hV with hA _ hcc
      subst hA
      clear hcc
      have y0 := (hbw.out.cell (p := ⟨g, k * 3, none⟩) hg).trans hx0
      have y1 := (hbw.out.cell (p := ⟨g, k * 3 + 1, none⟩) hg).trans hx1
      have y2 := (hbw.out.cell (p := ⟨g, k * 3 + 2, none⟩) hg).trans hx2
      clear hx0 hx1 hx2 hc hf
      have hle := dropS_le (L.take k) c n
      rw [List.length_take] at hle
      cases hkp : keepR c n L[k] with
      | true =>
        have hyes := Lib.hid (dropS_yes L c n k hlt' hkp)
        have hone : Hid (∀ u ∈ Req.cells L[k], u.oneCell' = true) := by intro u hu; simp [Req.cells] at hu; rcases hu with rfl | rfl | rfl <;> rfl
        generalize dropS (L.take k) c n = K at *
        obtain ⟨A', c2, rfl⟩ := own_shape hown.out
        have HO2 : Hid (∀ o o', ((wr.alloc o).alloc o').ownsRow w.heap.size 45 3 (.slice A' K.length c2) K.length (cellsOf K)) := fun o o' => (hown.out.alloc o).alloc o'
        have hb2 : Hid (∀ (o o' : Obj) (w2 : World), ((wr.alloc o).alloc o').grownBy w2 (Value.slice A' K.length c2).ownBlock → Below w.heap.size w w2) := fun o o' w2 hg2 => ((hbw.out.alloc hbs _).alloc (by simp; omega) _).grown hg2 (by simp; omega) (fun g' h' => (hown.out.lt g' h').1)
        have hfin : Hid (∀ (w2 : World) (g2 cap2 : Nat), w2.ownsRow w.heap.size 45 3 (.slice (some ⟨g2, 0, none⟩) (K.length + 1) cap2) (K.length + 1) (cellsOf K ++ Req.cells L[k]) → w2.ownsRow w.heap.size 45 3 (.slice (some ⟨g2, 0, none⟩) (K.length + 1) cap2) (dropS (L.take (k + 1)) c n).length (cellsOf (dropS (L.take (k + 1)) c n))) := fun w2 g2 cap2 h => by
          rw [hyes.out, List.length_append, List.length_singleton, cellsOf_append]
          simpa [cellsOf] using h
        by_cases h1 : L[k].c = c
        · have h1b : (L[k].c != c) = false := by simp [h1]
          have h2 : n < L[k].n := by simpa [keepR, h1] using hkp
          clear h1 hkp
          go_wp2_with (at_builtin; refine wpList_append_lies _ rfl (.tmp 30) (.tmp 32) _ rfl w.heap.size 45 i0 _ 3 32 Try.underlying40 hi0 hz0 hz1 hz2 rfl (by omega) (.slice A' K.length c2) K.length (cellsOf K) rfl (HO2.out _ _) ⟨wr.heap.size + 1, 0, none⟩ 1 1 (Req.cells L[k]) rfl rfl (news_box (by simp)) hone.out (by omega) (by unfold maxLen; omega) (by omega) (by simp; omega) (wr.heap.size + 2) (by simp) ?_; intro g2 cap2 w2 hown2 hg2 hat2 hlt2)
          go_roundw
          case rel => exact ⟨k + 1, by omega, by go_num, hfin.out _ _ _ hown2, hb2.out _ _ _ hg2⟩
          case measure => simp [intOf]; omega
        · have h1b : (L[k].c != c) = true := by simp [h1]
          clear h1 hkp
          go_wp2_with (at_builtin; refine wpList_append_lies _ rfl (.tmp 30) (.tmp 32) _ rfl w.heap.size 45 i0 _ 3 32 Try.underlying40 hi0 hz0 hz1 hz2 rfl (by omega) (.slice A' K.length c2) K.length (cellsOf K) rfl (HO2.out _ _) ⟨wr.heap.size + 1, 0, none⟩ 1 1 (Req.cells L[k]) rfl rfl (news_box (by simp)) hone.out (by omega) (by unfold maxLen; omega) (by omega) (by simp; omega) (wr.heap.size + 2) (by simp) ?_; intro g2 cap2 w2 hown2 hg2 hat2 hlt2)
          go_roundw
          case rel => exact ⟨k + 1, by omega, by go_num, hfin.out _ _ _ hown2, hb2.out _ _ _ hg2⟩
          case measure => simp [intOf]; omega
      | false =>
        have hno := Lib.hid (dropS_no L c n k hlt' hkp)
        have h1 : L[k].c = c ∧ ¬ n < L[k].n := by simpa [keepR] using hkp
        obtain ⟨h1, h2⟩ := h1
        have h1b : (L[k].c != c) = false := by simp [h1]
        clear h1 hkp
        go_wp2
        go_roundw
        case rel => exact ⟨k + 1, by omega, by go_num, by rw [hno.out]; exact hown.out.alloc _, hbw.out.alloc hbs _⟩
        case measure => simp [intOf]; omega
    · have e : L.take k = L := List.take_of_length_le (by omega)
      rw [e] at hown
      clear e
      obtain ⟨A', c2, rfl⟩ := own_shape hown.out
      have hc1 := (hbw.out.cell (p := ⟨R, 0, none⟩) hlt).trans hc
      have hf1 := (hbw.out.frozen (p := ⟨R, 0, none⟩) hlt).trans hf
      generalize hK : dropS L c n = K at *
      have HK := Lib.hid hK
      clear hK hc hf
      go_wp2
      go_ret
      have hR := (HP.out.below hbw.out)
      have hne : Value.ownBlock (.slice A' K.length c2) ≠ some R := own_blk_ne hown.out hR.blk (by decide)
      rw [HK.out]
      refine ⟨rfl, (.slice A' K.length c2), ⟨?_, ?_, ?_, ?_⟩, (Chg.of_below (F := fun k => k = R) hbw.out).setCell (p := ⟨R, 0, none⟩) (fun _ => rfl) _, fun g hg => (hown.out.lt g hg).1⟩
      · have := hR.blk.set_ 0 (.slice A' K.length c2)
        simpa using this
      · exact own_keep (row := some R) (own_weaken hown.out hbase) ⟨rfl, rfl, rfl, by simp, fun k _ hk => Below.heap_setCell _ _ _ _ (fun e => hk (by rw [e]))⟩ (fun g hg e => hne (by rw [hg, e]))
      · have hnd := hR.nd
        exact own_keep (row := some R) hR.od ⟨rfl, rfl, rfl, by simp, fun k _ hk => Below.heap_setCell _ _ _ _ (fun e => hk (by rw [e]))⟩ (fun g hg e => hnd (by rw [hg, e]))
      · intro g hg e
        have h1 := (hown.out.lt g hg).1
        have h2 := (HP.out.od.lt g e).2
        omega

end Go.Proofs.Ytemldlfolacekaa
