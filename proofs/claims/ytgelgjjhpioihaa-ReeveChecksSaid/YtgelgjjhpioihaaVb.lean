/- Reeve: what a chain judges of rulings. -/
import Derived.Test.YtgelgjjhpioihaaPe
namespace Go.Proofs.Ytgelgjjhpioihaa
open Go.RowKit Go.Shelf
set_option linter.unusedVariables false
set_option linter.unusedSimpArgs false

theorem mine_rul {base : Nat} {w w' : World} {b : Nat} {cs : Array Value} (h : Chg (Mine base w) w w') (hb : Blk w b 49 cs) : Blk w' b 49 cs :=
  hb.chg h (fun hF => by
    obtain ⟨_, t, cs', hb', ht | ht⟩ := hF <;> subst ht
    · exact Blk.ne_ hb hb' (by decide) rfl
    · exact Blk.ne_ hb hb' (by decide) rfl)
theorem keepU {w : World} {b : Nat} {v0 v1 v2 v3 v4 v5 : Value} (h : Blk w b 49 #[v0, v1, v2, v3, v4, v5]) : w.cell? ⟨b, 2, none⟩ = some v2 ∧ w.cell? ⟨b, 3, none⟩ = some v3 ∧ w.cell? ⟨b, 4, none⟩ = some v4 ∧ w.cell? ⟨b, 5, none⟩ = some v5 := ⟨h.cell 2, h.cell 3, h.cell 4, h.cell 5⟩
/-- What holds at the head of the loop over the rulings. -/
structure JAt (w : World) (l : List Rul) (k : Nat) (cs : List Cfg) (wr : World) : Prop where
  hc : Chn w.heap.size wr (w.heap.size + 1) cs
  hb : Below w.heap.size w wr
  hj : judgeS [cfg0] l 0 = judgeS cs (l.drop k) k
  hl : cs.length ≤ 41
  h0 : 0 < cs.length

set_option maxHeartbeats 2000000 in
set_option maxRecDepth 100000 in
theorem judged_any (l : List Rul) (v : Value) (w : World) (hr : Rd w w.heap.size 6 v l.length (cellsU l)) (hm : l.length ≤ 1000) :
    Calls Try.prog 20 #[v] w fun e w' =>
      e = .returned (.tuple #[.pointer (some ⟨w.heap.size + 1, 0, none⟩), .int .i64 (judgeS [cfg0] l 0).2]) ∧ Chn w.heap.size w' (w.heap.size + 1) (judgeS [cfg0] l 0).1 ∧ (judgeS [cfg0] l 0).1.length ≤ 41 ∧ Below w.heap.size w w' := by
  have HR := Lib.hid hr
  obtain ⟨_, A, cc, rfl, hncc, _⟩ := hr
  go_enter Try.func20, Try.ntmps20
  go_wp2_with fail
  refine (new_any w).mono ?_
  rintro e w1 ⟨rfl, hp1, hb1⟩
  have hstart : Hid (JAt w l 0 [cfg0] w1) := ⟨hp1, hb1, rfl, by simp, by simp⟩
  clear hp1 hb1
  go_wp2_with fail
  go_loopw [13] (fun i wr => ∃ (k : Nat) (cs : List Cfg), k ≤ l.length ∧ i = .int .i64 k ∧ Hid (JAt w l k cs wr)) (fun i _ => l.length - (intOf i).toNat)
  case atStart => exact ⟨0, _, Nat.zero_le _, rfl, hstart.out⟩
  case round =>
    obtain ⟨k, cs, hk, rfl, hI⟩ := hrel
    clear hstart
    by_cases hlt : k < l.length
    · have hltb : decide (k < l.length) = true := by rw [decide_eq_true_iff]; exact hlt
      obtain ⟨wo, rfl⟩ : ∃ wo : World, wo = wr := ⟨_, rfl⟩
      obtain ⟨g0, off0, c0, hV, hg0, hx⟩ := rd_rul HR.out hlt
      injection hV with hA _ hcc
      subst hA hcc
      have hx' : ∀ i, i < 6 → ∀ u, (Rul.cells l[k])[i]? = some u → wo.cell? ⟨g0, off0 + (k * 6 + i), none⟩ = some u := fun i hi u hu => (hI.out.hb.cell (p := ⟨g0, off0 + (k * 6 + i), none⟩) hg0).trans (hx i hi u hu)
      have hstep : Hid (judgeS cs (l.drop k) k = if (doS cs l[k].x).2 ≠ l[k].err then ((doS cs l[k].x).1, (k : Int)) else judgeS (doS cs l[k].x).1 (l.drop (k + 1)) (k + 1)) := judge_drop cs l k hlt
      generalize l[k] = r at *
      have y0 : wo.cell? ⟨g0, off0 + k * 6, none⟩ = some (.int .i64 r.client) := by have := hx' 0 (by omega) _ rfl; simpa using this
      have y1 : wo.cell? ⟨g0, off0 + k * 6 + 1, none⟩ = some (.int .i64 r.number) := hx' 1 (by omega) _ rfl
      have y2 : wo.cell? ⟨g0, off0 + k * 6 + 2, none⟩ = some (.int .i64 r.x.kind) := hx' 2 (by omega) _ rfl
      have y3 : wo.cell? ⟨g0, off0 + k * 6 + 3, none⟩ = some (.int .i64 r.x.group) := hx' 3 (by omega) _ rfl
      have y4 : wo.cell? ⟨g0, off0 + k * 6 + 4, none⟩ = some (.int .i64 r.x.shard) := hx' 4 (by omega) _ rfl
      have y5 : wo.cell? ⟨g0, off0 + k * 6 + 5, none⟩ = some (.int .i64 r.err) := hx' 5 (by omega) _ rfl
      clear hx hx'
      have hdl := doS_len cs r.x hI.out.hl hI.out.h0
      have hcs := hI.out.hl
      have hcW := hI.out.hc.below ((Below.refl _ wo).alloc (Nat.le_refl _) (.cells #[.int .i64 r.client, .int .i64 r.number, .int .i64 r.x.kind, .int .i64 r.x.group, .int .i64 r.x.shard, .int .i64 r.err] 49))
      have hbW := hI.out.hb.alloc hI.out.hb.size (.cells #[.int .i64 r.client, .int .i64 r.number, .int .i64 r.x.kind, .int .i64 r.x.group, .int .i64 r.x.shard, .int .i64 r.err] 49)
      have hxW : Blk (wo.alloc (.cells #[.int .i64 r.client, .int .i64 r.number, .int .i64 r.x.kind, .int .i64 r.x.group, .int .i64 r.x.shard, .int .i64 r.err] 49)) wo.heap.size 49 #[.int .i64 r.client, .int .i64 r.number, .int .i64 r.x.kind, .int .i64 r.x.group, .int .i64 r.x.shard, .int .i64 r.err] := Blk.new wo _ _
      have HJ := Lib.hid hI.out.hj
      have HDO : Hid (∀ w1 : World, Chn w.heap.size w1 (w.heap.size + 1) cs → Calls Try.prog 14 #[.pointer (some ⟨w.heap.size + 1, 0, none⟩), .agg #[.int .i64 r.x.kind, .int .i64 r.x.group, .int .i64 r.x.shard]] w1 fun e w' =>
        e = .returned (.int .i64 (doS cs r.x).2) ∧ Chn w.heap.size w' (w.heap.size + 1) (doS cs r.x).1 ∧ Chg (Mine w.heap.size w1) w1 w') := fun w1 h => do_in _ _ _ r.x w1 h (by omega) hcs
      generalize doS cs r.x = rr at *
      obtain ⟨cs', e'⟩ := rr
      simp only at HDO hstep hdl
      have HC := Lib.hid hcW
      have HB := Lib.hid hbW
      have HXB : Hid (∀ w', Below (wo.alloc (.cells #[.int .i64 r.client, .int .i64 r.number, .int .i64 r.x.kind, .int .i64 r.x.group, .int .i64 r.x.shard, .int .i64 r.err] 49)).heap.size (wo.alloc (.cells #[.int .i64 r.client, .int .i64 r.number, .int .i64 r.x.kind, .int .i64 r.x.group, .int .i64 r.x.shard, .int .i64 r.err] 49)) w' → Blk w' wo.heap.size 49 #[.int .i64 r.client, .int .i64 r.number, .int .i64 r.x.kind, .int .i64 r.x.group, .int .i64 r.x.shard, .int .i64 r.err]) := fun w' h => hxW.below h hxW.lt
      have hk0 : (0 : Int) ≤ (k : Int) := by omega
      have hk1 : (k : Int) < (l.length : Int) := by omega
      clear hcW hbW hxW hI
      go_upto_region 6 with fail
      clear y0 y1 y2 y3 y4 y5
      generalize wo.heap.size = bx at *
      generalize wo.alloc (.cells #[.int .i64 r.client, .int .i64 r.number, .int .i64 r.x.kind, .int .i64 r.x.group, .int .i64 r.x.shard, .int .i64 r.err] 49) = W at *
      have hWW : w.heap.size ≤ W.heap.size := HB.out.size
      have HBB : Hid (∀ w1, Below W.heap.size W w1 → Below w.heap.size w w1) := fun w1 h => HB.out.trans (h.mono hWW)
      cases hq : (e' != r.err) with
      | true =>
        have HF : Hid (judgeS [cfg0] l 0 = (cs', (k : Int))) := by unfold Hid; rw [HJ.out, hstep.out, if_pos (by simpa using hq)]
        clear HJ hstep
        go_region_held3 (fun w' => w'.cell? ⟨bx, 2, none⟩ = some (.int .i64 r.x.kind) ∧ w'.cell? ⟨bx, 3, none⟩ = some (.int .i64 r.x.group) ∧ w'.cell? ⟨bx, 4, none⟩ = some (.int .i64 r.x.shard) ∧ w'.cell? ⟨bx, 5, none⟩ = some (.int .i64 r.err))
          ((first | (refine keepU (HXB.out _ ?_); simp only [bl_drew, bl_refl]; done) | exact keepU hxa))
          ((go_at_call 14; refine Calls.mono (HDO.out _ (HC.out.below (by simp only [bl_drew, bl_refl]))) ?_; rintro e w2 ⟨rfl, hc2, hch⟩; have hxa := mine_rul hch (HXB.out _ (by simp only [bl_drew, bl_refl])); have hbc := (HBB.out _ (by simp only [bl_drew, bl_refl])).trans (mine_below hch hWW); clear hch))
        have HCC := Lib.hid (And.intro hc2 (And.intro hdl.1 hbc))
        clear hc2 hbc hxa
        go_wp2_with fail
        go_ret2
        rw [HF.out]
        exact ⟨rfl, HCC.out.1, HCC.out.2.1, HCC.out.2.2⟩
      | false =>
        have HF : Hid (judgeS [cfg0] l 0 = judgeS cs' (l.drop (k + 1)) (k + 1)) := by unfold Hid; rw [HJ.out, hstep.out, if_neg (by simpa using hq)]
        clear HJ hstep
        go_region_held3 (fun w' => w'.cell? ⟨bx, 2, none⟩ = some (.int .i64 r.x.kind) ∧ w'.cell? ⟨bx, 3, none⟩ = some (.int .i64 r.x.group) ∧ w'.cell? ⟨bx, 4, none⟩ = some (.int .i64 r.x.shard) ∧ w'.cell? ⟨bx, 5, none⟩ = some (.int .i64 r.err))
          ((first | (refine keepU (HXB.out _ ?_); simp only [bl_drew, bl_refl]; done) | exact keepU hxa))
          ((go_at_call 14; refine Calls.mono (HDO.out _ (HC.out.below (by simp only [bl_drew, bl_refl]))) ?_; rintro e w2 ⟨rfl, hc2, hch⟩; have hxa := mine_rul hch (HXB.out _ (by simp only [bl_drew, bl_refl])); have hbc := (HBB.out _ (by simp only [bl_drew, bl_refl])).trans (mine_below hch hWW); clear hch))
        have HCC : Hid (JAt w l (k + 1) cs' w2) := ⟨hc2, hbc, HF.out, hdl.1, hdl.2⟩
        clear hc2 hbc hxa
        go_wp2_with fail
        go_roundw
        case rel => exact ⟨k + 1, cs', by omega, by go_num, HCC⟩
        case measure => simp [intOf]; omega
    · obtain rfl : k = l.length := by omega
      have HF : Hid (judgeS [cfg0] l 0 = (cs, -1)) := by unfold Hid; rw [hI.out.hj, List.drop_of_length_le (Nat.le_refl _)]; rfl
      have HCC := Lib.hid (And.intro hI.out.hc (And.intro hI.out.hl hI.out.hb))
      clear hI
      go_wp2_with fail
      go_ret2
      rw [HF.out]
      exact ⟨rfl, HCC.out.1, HCC.out.2.1, HCC.out.2.2⟩

end Go.Proofs.Ytgelgjjhpioihaa
