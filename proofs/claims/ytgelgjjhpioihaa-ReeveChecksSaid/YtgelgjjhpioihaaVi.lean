/- Reeve: Way of the first shard; the small case: two. -/
import Derived.Test.YtgelgjjhpioihaaVh
namespace Go.Proofs.Ytgelgjjhpioihaa
open Go.RowKit Go.Shelf
set_option linter.unusedVariables false
set_option linter.unusedSimpArgs false

def waysS (cs : List Cfg) : List Int := cs.map (·.o.a)
theorem waysS_take (cs : List Cfg) (m : Nat) (h : m < cs.length) : (waysS cs).take (m + 1) = (waysS cs).take m ++ [cs[m].o.a] := by
  unfold waysS
  rw [List.take_succ_eq_append_getElem (by simpa using h)]
  simp
structure WyAt (w : World) (cs : List Cfg) (m : Nat) (v : Value) (wr : World) : Prop where
  row : wr.ownsRow w.heap.size 3 1 v m (ints ((waysS cs).take m))
  hb : Below w.heap.size w wr

set_option maxHeartbeats 1000000 in
set_option maxRecDepth 100000 in
theorem way_any (vs : Value) (ps : List CfgV) (w : World) (hs : CRd w w.heap.size vs ps) (hn : ps.length ≤ 1000) (hgd : Good (ps.map (·.1))) (hd : ∀ k, k + 1 < (waysS (ps.map (·.1))).length → (waysS (ps.map (·.1))).getD (k + 1) 0 ≠ (waysS (ps.map (·.1))).getD k 0) :
    Calls Try.prog 18 #[vs, .int .i64 0] w (MovesPost w (waysS (ps.map (·.1)))) := by
  have HS := Lib.hid hs
  have HL := Lib.hid (linked_any vs ps w hs hn hgd)
  have HD := Lib.hid hd
  obtain ⟨_, A0, cc0, rfl, hncc0, _⟩ := hs.row
  obtain ⟨i0, hi0, hz0, hz1, hz2⟩ := info_parts int_info
  have HTK : Hid (∀ m (h : m < ps.length), (waysS (ps.map (·.1))).take (m + 1) = (waysS (ps.map (·.1))).take m ++ [ps[m].1.o.a]) := fun m h => by
    have := waysS_take (ps.map (·.1)) m (by simpa using h)
    simpa using this
  have HLN : Hid ((waysS (ps.map (·.1))).length = ps.length) := by unfold Hid waysS; rw [List.length_map, List.length_map]
  generalize waysS (ps.map (·.1)) = WS at *
  clear hs hgd hd
  go_enter Try.func18, Try.ntmps18
  go_wp2_with fail
  refine HL.out.mono ?_
  rintro e w1 ⟨rfl, hb1⟩
  have hst : Hid (w1.ownsRow w.heap.size 3 1 (.slice none 0 0) 0 (ints (WS.take 0)) ∧ Below w.heap.size w w1) := ⟨World.ownsRow_nil _ _ _ _, hb1⟩
  clear hb1 HL
  go_wp2_with fail
  go_loopw [7, 23] (fun v i wr => ∃ m : Nat, m ≤ ps.length ∧ i = .int .i64 (m : Int) ∧ Hid (wr.ownsRow w.heap.size 3 1 v m (ints (WS.take m)) ∧ Below w.heap.size w wr)) (fun _ i _ => ps.length - (intOf i).toNat)
  case atStart => exact ⟨0, by omega, rfl, hst.out⟩
  case round =>
    obtain ⟨m, hm, rfl, hM⟩ := hrel
    clear hst
    obtain ⟨wo, rfl⟩ : ∃ wo : World, wo = wr := ⟨_, rfl⟩
    obtain ⟨Am, cm, rfl⟩ := own_shape hM.out.1
    by_cases hlt : m < ps.length
    · obtain ⟨g, off, c', hV, hgl, q0, q1, q2, q3, q4, q5⟩ := HS.out.get hlt
      injection hV with hA _ hcc
      subst hA hcc
      have htk := Lib.hid (HTK.out m hlt)
      have HPM := Lib.hid (List.getElem_mem hlt)
      generalize ps[m] = p at *
      obtain ⟨⟨cn, cg, co⟩, sv⟩ := p
      obtain ⟨_, As, cS, hsv, hcS, _⟩ := HS.out.own _ HPM.out
      simp only at hsv
      subst hsv
      have k0 := (hM.out.2.cell (p := ⟨g, off + m * 6, none⟩) hgl).trans q0
      have k1 := (hM.out.2.cell (p := ⟨g, off + m * 6 + 1, none⟩) hgl).trans q1
      have k2 := (hM.out.2.cell (p := ⟨g, off + m * 6 + 2, none⟩) hgl).trans q2
      have k3 := (hM.out.2.cell (p := ⟨g, off + m * 6 + 3, none⟩) hgl).trans q3
      have k4 := (hM.out.2.cell (p := ⟨g, off + m * 6 + 4, none⟩) hgl).trans q4
      have k5 := (hM.out.2.cell (p := ⟨g, off + m * 6 + 5, none⟩) hgl).trans q5
      simp only at k0 k1 k2 k3 k4 k5 htk
      clear q0 q1 q2 q3 q4 q5
      have HRW := Lib.hid hM.out.1
      have HBW := Lib.hid hM.out.2
      have hwz := hM.out.2.size
      clear hM
      generalize List.take m WS = L at *
      have HO := Lib.hid (fun o o' => (HRW.out.alloc o).alloc o')
      have hone : Hid (∀ u ∈ [Value.int .i64 co.a], u.oneCell' = true) := by intro u hu; simp at hu; subst hu; rfl
      go_wp2_with (at_builtin; refine wpList_append_lies _ rfl (.tmp 27) (.tmp 32) _ rfl w.heap.size 3 i0 _ 1 8 Try.underlying35 hi0 hz0 hz1 hz2 rfl (by omega) (.slice Am m cm) m (ints L) rfl (HO.out _ _) ⟨wo.heap.size + 1, 0, none⟩ 1 1 [.int .i64 co.a] rfl rfl (news_box (by simp)) hone.out (by omega) (by unfold maxLen; omega) (by omega) (by simp; omega) (wo.heap.size + 2) (by simp) ?_; intro g2 cap2 w4 hown4 hg4 hat4 hlt4)
      have hfin : Hid (w4.ownsRow w.heap.size 3 1 (.slice (some ⟨g2, 0, none⟩) (m + 1) cap2) (m + 1) (ints (WS.take (m + 1))) ∧ Below w.heap.size w w4) := by
        refine ⟨?_, ((((Chg.of_below (F := fun i => w.heap.size ≤ i) HBW.out).alloc _).alloc _).grown hg4 (fun j hj _ => (HRW.out.lt j hj).1)).to_below (fun i hi h => by omega) (Nat.le_refl _)⟩
        rw [htk.out, ints_append]
        exact hown4
      clear hown4 hg4 hat4 hlt4
      go_wp2_with fail
      go_roundw
      case rel => exact ⟨m + 1, by omega, by go_num, hfin⟩
      case measure => simp [intOf]; omega
    · obtain rfl : m = ps.length := by omega
      have HF : Hid (wo.ownsRow w.heap.size 3 1 (.slice Am ps.length cm) WS.length (ints WS)) := by
        have h1 := hM.out.1
        rw [List.take_of_length_le (by rw [HLN.out]; omega)] at h1
        rw [Hid, HLN.out]
        exact h1
      have HBW := Lib.hid hM.out.2
      have HC := Lib.hid (compact_any (.slice Am ps.length cm) WS wo wo.heap.size (Rd.of_own HF.out) (by rw [HLN.out]; exact hn) HD.out)
      clear hM
      go_wp2_with fail
      refine HC.out.mono ?_
      rintro e w2 ⟨rfl, hb2, _⟩
      go_wp2_with fail
      go_ret2
      exact ⟨_, rfl, own_below HF.out hb2, HBW.out.trans (hb2.mono HBW.out.size)⟩

def u1 : Rul := ⟨0, 1, ⟨1, 1, 0⟩, 0⟩
def u2 : Rul := ⟨0, 2, ⟨1, 2, 0⟩, 0⟩
def v1 : Cfg := ⟨1, [1], ⟨1, 1, 1, 1⟩⟩
def v2 : Cfg := ⟨2, [1, 2], ⟨2, 2, 1, 1⟩⟩
theorem two_judge : judgeS [cfg0] [u1, u2] 0 = ([cfg0, v1, v2], -1) := by rfl
theorem two_good : Good [cfg0, v1, v2] := by
  have := judge_good [u1, u2] [cfg0] 0 good0 (by simp) (by simp)
  rwa [two_judge] at this
theorem two_moves : movesS [cfg0, v1, v2] = [0, 2] := by rfl
theorem two_ways : waysS [cfg0, v1, v2] = [0, 1, 2] := by rfl

theorem two_rd (w : World) : Rd (w.alloc (.cells #[.int .i64 0, .int .i64 1, .int .i64 1, .int .i64 1, .int .i64 0, .int .i64 0, .int .i64 0, .int .i64 2, .int .i64 1, .int .i64 2, .int .i64 0, .int .i64 0] 49))
    (w.alloc (.cells #[.int .i64 0, .int .i64 1, .int .i64 1, .int .i64 1, .int .i64 0, .int .i64 0, .int .i64 0, .int .i64 2, .int .i64 1, .int .i64 2, .int .i64 0, .int .i64 0] 49)).heap.size 6 (.slice (some ⟨w.heap.size, 0, none⟩) 2 2) 2 (cellsU [u1, u2]) :=
  ⟨rfl, _, _, rfl, Nat.le_refl _, .inr ⟨w.heap.size, 0, rfl, by simp, fun j u hu => by
    have := news_box (w := w) (B := w.heap.size) (t := 49) (cs := #[.int .i64 0, .int .i64 1, .int .i64 1, .int .i64 1, .int .i64 0, .int .i64 0, .int .i64 0, .int .i64 2, .int .i64 1, .int .i64 2, .int .i64 0, .int .i64 0]) rfl j u hu
    rwa [Addr.add_lit] at this⟩⟩
theorem lit_rd (w : World) (l : List Int) (n : Nat) (hn : l.length = n) : Rd (w.alloc (.cells (ints l).toArray 3)) (w.alloc (.cells (ints l).toArray 3)).heap.size 1 (.slice (some ⟨w.heap.size, 0, none⟩) n n) l.length (ints l) := by
  subst hn
  refine ⟨by simp [ints], _, _, rfl, Nat.le_refl _, .inr ⟨w.heap.size, 0, rfl, by simp, fun j u hu => ?_⟩⟩
  have := news_box (w := w) (B := w.heap.size) (t := 3) (cs := (ints l).toArray) rfl j u (by simpa using hu)
  rwa [Addr.add_lit] at this

set_option maxHeartbeats 1000000 in
set_option maxRecDepth 100000 in
theorem two_any (w : World) : Calls Try.prog 7 #[] w fun e w' => e = .returned (.bool true) ∧ Below w.heap.size w w' := by
  have hch := chain_any [u1, u2] _ _ (two_rd w) (by simp)
  unfold ChainPost at hch
  rw [two_judge] at hch
  simp only [show ¬ (0 : Int) ≤ -1 by omega, if_false] at hch
  have HCH := Lib.hid hch
  clear hch
  go_enter Try.func7, Try.ntmps7
  go_wp2_with fail
  refine HCH.out.mono ?_
  rintro e w1 ⟨v', ps, rfl, hrow, hmap, hb⟩
  have HB := Lib.hid (((Below.refl _ w).alloc (Nat.le_refl _) _).trans (hb.mono (by simp)))
  have hl : ps.length = 3 := by have := congrArg List.length hmap; simpa using this
  have hM := moves_any _ ps w1 hrow.rd (by omega) (by omega) (by rw [hmap]; exact two_good)
  rw [hmap, two_moves] at hM
  have HROW := Lib.hid hrow
  have HMAP := Lib.hid hmap
  have h3 : ((ps.length : Int) == 3) = true := by rw [hl]; rfl
  have HL3 := Lib.hid hl
  obtain ⟨Ac, cc, rfl⟩ := own_shape hrow.row
  clear hrow hmap hb HCH hl
  go_wp2_with fail
  refine hM.mono ?_
  rintro e w2 ⟨vm, rfl, hown2, hb2⟩
  have hW := way_any _ ps w2 (HROW.out.below hb2).rd (by have := HL3.out; omega) (by rw [HMAP.out]; exact two_good) (by
    rw [HMAP.out, two_ways]
    intro k h
    have : k = 0 ∨ k = 1 := by simp at h; omega
    rcases this with rfl | rfl <;> decide)
  rw [HMAP.out, two_ways] at hW
  have HB2 := Lib.hid (HB.out.trans (hb2.mono HB.out.size))
  have HO2 := Lib.hid hown2
  obtain ⟨Am, cm, rfl⟩ := own_shape hown2
  clear hown2 hb2 hM
  go_wp2_with fail
  refine hW.mono ?_
  rintro e w3 ⟨vw, rfl, hown3, hb3⟩
  have HO2b := Lib.hid (own_below HO2.out hb3)
  have HB3 := Lib.hid (HB2.out.trans (hb3.mono HB2.out.size))
  have HO3 := Lib.hid hown3
  obtain ⟨Aw, cw, rfl⟩ := own_shape hown3
  clear hown3 hb3 hW
  go_wp2_with fail
  refine (ints_any _ _ [0, 2] [0, 2] _ _ (((Rd.of_own HO2b.out).below ((Below.refl _ _).alloc (Nat.le_refl _) _)).more (by simp)) (lit_rd w3 [0, 2] 2 rfl) (by simp) (by simp)).mono ?_
  rintro e w4 ⟨rfl, hb4⟩
  have HA := Lib.hid (((Below.refl _ w3).alloc (Nat.le_refl _) _).trans (hb4.mono (by simp)))
  have HO3b := Lib.hid (own_below HO3.out HA.out)
  have HB4 := Lib.hid (HB3.out.trans (HA.out.mono HB3.out.size))
  rw [show intsEq [0, 2] [0, 2] = true from rfl]
  clear hb4
  go_wp2_with fail
  refine (ints_any _ _ [0, 1, 2] [0, 1, 2] _ _ (((Rd.of_own HO3b.out).below ((Below.refl _ _).alloc (Nat.le_refl _) _)).more (by simp)) (lit_rd w4 [0, 1, 2] 3 rfl) (by simp) (by simp)).mono ?_
  rintro e w5 ⟨rfl, hb5⟩
  have HB5 := Lib.hid (HB4.out.trans ((((Below.refl _ w4).alloc (Nat.le_refl _) _).trans (hb5.mono (by simp))).mono HB4.out.size))
  rw [show intsEq [0, 1, 2] [0, 1, 2] = true from rfl]
  clear hb5
  go_wp2_with fail
  go_ret
  exact ⟨rfl, HB5.out⟩

end Go.Proofs.Ytgelgjjhpioihaa
