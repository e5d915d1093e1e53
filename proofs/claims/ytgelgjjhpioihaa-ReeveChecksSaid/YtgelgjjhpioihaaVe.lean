/- Reeve: Check. -/
import Derived.Test.YtgelgjjhpioihaaVd
namespace Go.Proofs.Ytgelgjjhpioihaa
open Go.RowKit Go.Shelf
set_option linter.unusedVariables false
set_option linter.unusedSimpArgs false

def checkS (l : List Rul) (seen : List Cfg) : Int × Int := if 0 ≤ (judgeS [cfg0] l 0).2 then (1, (judgeS [cfg0] l 0).2) else seenS (judgeS [cfg0] l 0).1 seen 0
theorem get_small {cs : List Cfg} (h : Good cs) (num : Int) : (getS cs num).1.gs.length ≤ 4 := by
  unfold getS
  split
  · rename_i hn
    have hk : num.toNat < cs.length := by omega
    rw [List.getD_eq_getElem?_getD, List.getElem?_eq_getElem hk]
    exact (check_bounds (h.1 _ (List.getElem_mem hk))).2.2.1
  · simp [cfg0]
def CheckPost (w : World) (r : Int × Int) (e : Ending) (w' : World) : Prop := e = .returned (.tuple #[.int .i64 r.1, .int .i64 r.2, .int .i64 0]) ∧ Below w.heap.size w w'

set_option maxHeartbeats 4000000 in
set_option maxRecDepth 100000 in
theorem check28_any (l : List Rul) (v vs : Value) (ps : List CfgV) (w : World) (hr : Rd w w.heap.size 6 v l.length (cellsU l)) (hm : l.length ≤ 100) (hs : CRd w w.heap.size vs ps) (hn : ps.length ≤ 1000) (hg : ∀ p ∈ ps, p.1.gs.length ≤ 1000) :
    Calls Try.prog 17 #[v, vs] w (CheckPost w (checkS l (ps.map (·.1)))) := by
  have HR := Lib.hid hr
  have HS := Lib.hid hs
  have HG := Lib.hid hg
  obtain ⟨_, A, cc, rfl, hncc, _⟩ := hr
  obtain ⟨_, A0, cc0, rfl, hncc0, _⟩ := hs.row
  have hj := judged_any l _ w HR.out (by omega)
  have hlo : -1 ≤ (judgeS [cfg0] l 0).2 := by rcases judge_at l [cfg0] 0 with h | h <;> omega
  have HGD := Lib.hid (judge_good l [cfg0] 0 good0 (by simp) (by simp))
  unfold checkS
  generalize judgeS [cfg0] l 0 = r at *
  obtain ⟨cs, at'⟩ := r
  simp only at hj hlo HGD ⊢
  have HJ := Lib.hid hj
  clear hj hs hg
  by_cases h0 : 0 ≤ at'
  · rw [if_pos h0]
    go_enter Try.func17, Try.ntmps17
    go_wp2_with fail
    refine HJ.out.mono ?_
    rintro e w1 ⟨rfl, hc, h41, hb⟩
    have HB := Lib.hid hb
    clear hc hb
    go_wp2_with fail
    refine bodyPost_ret (v := .tuple #[.int .i64 1, .int .i64 at', .int .i64 0]) (by simp [results, Try.results17, go_sem]) rfl ?_
    exact ⟨rfl, HB.out⟩
  · rw [if_neg h0]
    go_enter Try.func17, Try.ntmps17
    go_wp2_with fail
    refine HJ.out.mono ?_
    rintro e w1 ⟨rfl, hc, h41, hb⟩
    have HB := Lib.hid hb
    have HC := Lib.hid hc
    have hw1 : w.heap.size ≤ w1.heap.size := hb.size
    clear hc hb HJ
    go_wp2_with fail
    go_loopw [26] (fun i wr => ∃ k : Nat, k ≤ ps.length ∧ i = .int .i64 k ∧ Hid (Below w1.heap.size w1 wr) ∧ Hid (seenS cs (ps.map (·.1)) 0 = seenS cs ((ps.map (·.1)).drop k) k)) (fun i _ => ps.length - (intOf i).toNat)
    case atStart => exact ⟨0, Nat.zero_le _, rfl, Below.refl _ _, rfl⟩
    case round =>
      obtain ⟨k, hk, rfl, hq, hS⟩ := hrel
      by_cases hlt : k < ps.length
      · obtain ⟨g, off, c', hV, hgl, q0, q1, q2, q3, q4, q5⟩ := HS.out.get hlt
        injection hV with hA _ hcc
        subst hA hcc
        have HPM := Lib.hid (List.getElem_mem hlt)
        have hstep : Hid (seenS cs (ps.map (·.1)) 0 = if badC cs ps[k].1 = true then (2, (k : Int)) else seenS cs ((ps.map (·.1)).drop (k + 1)) (k + 1)) := by
          unfold Hid
          rw [hS.out, seen_drop cs _ k (by simpa using hlt), List.getElem_map]
        have HBW := Lib.hid (HB.out.trans (hq.out.mono hw1))
        have k0 := (HBW.out.cell (p := ⟨g, off + k * 6, none⟩) hgl).trans q0
        have k1 := (HBW.out.cell (p := ⟨g, off + k * 6 + 1, none⟩) hgl).trans q1
        have k2 := (HBW.out.cell (p := ⟨g, off + k * 6 + 2, none⟩) hgl).trans q2
        have k3 := (HBW.out.cell (p := ⟨g, off + k * 6 + 3, none⟩) hgl).trans q3
        have k4 := (HBW.out.cell (p := ⟨g, off + k * 6 + 4, none⟩) hgl).trans q4
        have k5 := (HBW.out.cell (p := ⟨g, off + k * 6 + 5, none⟩) hgl).trans q5
        clear q0 q1 q2 q3 q4 q5 hS
        generalize ps[k] = p at *
        obtain ⟨cf, sv⟩ := p
        have hg4 := HG.out _ HPM.out
        have hrp := HS.out.own _ HPM.out
        obtain ⟨_, As, cS, hsv, hcS, _⟩ := id hrp
        simp only at hsv hg4 hstep k0 k1 k2 k3 k4 k5 hrp
        subst hsv
        have HRP := Lib.hid hrp
        clear hrp
        have hbad : Hid (badC cs cf = !((getS cs cf.num).2 == 0 && cfgEqB (getS cs cf.num).1 cf)) := rfl
        have HGT := Lib.hid (fun (o : Obj) => get_any w.heap.size (w.heap.size + 1) cs cf.num (wr.alloc o) ((HC.out.below hq.out).below ((Below.refl _ _).alloc (Nat.le_refl _) o)) (by omega))
        have hgs := get_small HGD.out cf.num
        generalize getS cs cf.num = r at *
        obtain ⟨d, e'⟩ := r
        simp only at hgs hbad
        go_wp2_with fail
        refine (HGT.out _).mono ?_
        rintro e w2 ⟨s2, rfl, ho2, hb2⟩
        obtain ⟨A2, c2, rfl⟩ := own_shape ho2
        have hbk : Blk w2 wr.heap.size 40 (cfgCells cf.num (.slice As cf.gs.length cS) cf.o) := Blk.below (Blk.new wr _ _) hb2 (by simp)
        obtain ⟨z0, z1, z2, z3, z4, z5⟩ := keep6 hbk (Below.refl _ _)
        have hlt2 : wr.heap.size < w2.heap.size := hbk.lt
        have HB2 := Lib.hid (hq.out.trans (((Below.refl _ wr).alloc (Nat.le_refl _) _).trans (hb2.mono (by simp)) |>.mono hq.out.size))
        have HRA := Lib.hid (fun o => (Rd.of_own ho2).below ((Below.refl _ w2).alloc (Nat.le_refl _) o))
        have HRB : Hid (∀ o, Rd (w2.alloc o) w2.heap.size 1 (.slice As cf.gs.length cS) cf.gs.length (ints cf.gs)) := fun o => ((HRP.out.below (HB.out.trans (HB2.out.mono hw1))).more (by have := HB2.out.size; omega)).below ((Below.refl _ w2).alloc (Nat.le_refl _) o)
        clear ho2 hb2 hbk k0 k1 k2 k3 k4 k5 HGT
        unfold Cfg.val
        simp only
        cases he : (e' == 0) with
        | false =>
          have he2 : (e' != 0) = true := by simpa using he
          have HF : Hid (seenS cs (ps.map (·.1)) 0 = (2, (k : Int))) := by unfold Hid; rw [hstep.out, hbad.out, he]; rfl
          go_wp2_with fail
          refine bodyPost_ret (v := .tuple #[.int .i64 2, .int .i64 k, .int .i64 0]) (by simp [results, Try.results17, go_sem]) rfl ?_
          rw [HF.out]
          exact ⟨rfl, HB.out.trans ((HB2.out.alloc HB2.out.size _).mono hw1)⟩
        | true =>
          have he2 : (e' != 0) = false := by simpa using he
          have HBD : Hid (badC cs cf = !(cfgEqB d cf)) := by unfold Hid; rw [hbad.out, he]; rfl
          go_wp2_with fail
          refine (same_any d cf A2 c2 As cS _ w2.heap.size (by simp) (HRA.out _) (HRB.out _) (by omega) hg4).mono ?_
          rintro e w3 ⟨rfl, hb3⟩
          have HB3 := Lib.hid (HB2.out.trans (((Below.refl _ w2).alloc (Nat.le_refl _) _).trans (hb3.mono (by simp)) |>.mono HB2.out.size))
          clear hb3 z0 z1 z2 z3 z4 z5
          cases hsm : cfgEqB d cf with
          | false =>
            have HF : Hid (seenS cs (ps.map (·.1)) 0 = (2, (k : Int))) := by unfold Hid; rw [hstep.out, HBD.out, hsm]; rfl
            go_wp2_with fail
            refine bodyPost_ret (v := .tuple #[.int .i64 2, .int .i64 k, .int .i64 0]) (by simp [results, Try.results17, go_sem]) rfl ?_
            rw [HF.out]
            exact ⟨rfl, HB.out.trans (HB3.out.mono hw1)⟩
          | true =>
            have HF : Hid (seenS cs (ps.map (·.1)) 0 = seenS cs ((ps.map (·.1)).drop (k + 1)) (k + 1)) := by unfold Hid; rw [hstep.out, HBD.out, hsm]; rfl
            go_wp2_with fail
            go_roundw
            case rel => exact ⟨k + 1, by omega, by go_num, HB3.out, HF⟩
            case measure => simp [intOf]; omega
      · obtain rfl : k = ps.length := by omega
        have HF : Hid (seenS cs (ps.map (·.1)) 0 = (0, 0)) := by unfold Hid; rw [hS.out, List.drop_of_length_le (by simp)]; rfl
        clear hS
        go_wp2_with fail
        refine bodyPost_ret (v := .tuple #[.int .i64 0, .int .i64 0, .int .i64 0]) (by simp [results, Try.results17, go_sem]) rfl ?_
        rw [HF.out]
        exact ⟨rfl, HB.out.trans (hq.out.mono hw1)⟩

/-- Are configurations more than are gone through here? -/
def largeB (l : List Cfg) : Bool := l.any (fun c => decide (50 < c.gs.length)) || decide (60 < l.length)
set_option maxHeartbeats 1000000 in
set_option maxRecDepth 100000 in
theorem large_any (vs : Value) (ps : List CfgV) (w : World) (hs : CRd w w.heap.size vs ps) (hn : ps.length ≤ 9223372036854775807) (hg : ∀ p ∈ ps, p.1.gs.length ≤ 9223372036854775807) :
    Calls Try.prog 16 #[vs] w fun e w' => e = .returned (.bool (largeB (ps.map (·.1)))) ∧ Below w.heap.size w w' := by
  have HS := Lib.hid hs
  have HG := Lib.hid hg
  obtain ⟨_, A0, cc0, rfl, hncc0, _⟩ := hs.row
  clear hs hg
  go_enter Try.func16, Try.ntmps16
  go_wp2_with fail
  go_loopw [7] (fun i wr => ∃ k : Nat, k ≤ ps.length ∧ i = .int .i64 k ∧ Hid (Below w.heap.size w wr) ∧ Hid (((ps.map (·.1)).take k).any (fun c => decide (50 < c.gs.length)) = false)) (fun i _ => ps.length - (intOf i).toNat)
  case atStart => exact ⟨0, Nat.zero_le _, rfl, Below.refl _ _, rfl⟩
  case round =>
    obtain ⟨k, hk, rfl, hq, hS⟩ := hrel
    by_cases hlt : k < ps.length
    · obtain ⟨g, off, c', hV, hgl, q0, q1, q2, q3, q4, q5⟩ := HS.out.get hlt
      injection hV with hA _ hcc
      subst hA hcc
      have HPM := Lib.hid (List.getElem_mem hlt)
      have ht : Hid ((ps.map (·.1)).take (k + 1) = (ps.map (·.1)).take k ++ [ps[k].1]) := by
        unfold Hid
        rw [List.take_succ_eq_append_getElem (by simpa using hlt), List.getElem_map]
      have k0 := (hq.out.cell (p := ⟨g, off + k * 6, none⟩) hgl).trans q0
      have k1 := (hq.out.cell (p := ⟨g, off + k * 6 + 1, none⟩) hgl).trans q1
      have k2 := (hq.out.cell (p := ⟨g, off + k * 6 + 2, none⟩) hgl).trans q2
      have k3 := (hq.out.cell (p := ⟨g, off + k * 6 + 3, none⟩) hgl).trans q3
      have k4 := (hq.out.cell (p := ⟨g, off + k * 6 + 4, none⟩) hgl).trans q4
      have k5 := (hq.out.cell (p := ⟨g, off + k * 6 + 5, none⟩) hgl).trans q5
      clear q0 q1 q2 q3 q4 q5
      have hlb : Hid (50 < ps[k].1.gs.length → largeB (ps.map (·.1)) = true) := by
        intro h
        have : (ps.map (·.1)).any (fun c => decide (50 < c.gs.length)) = true := by
          rw [List.any_eq_true]
          exact ⟨ps[k].1, List.mem_map.2 ⟨ps[k], HPM.out, rfl⟩, by simpa using h⟩
        unfold largeB
        rw [this]; rfl
      generalize ps[k] = p at *
      obtain ⟨cf, sv⟩ := p
      have hg4 := HG.out _ HPM.out
      obtain ⟨_, As, cS, hsv, hcS, _⟩ := HS.out.own _ HPM.out
      simp only at hsv hg4 ht k0 k1 k2 k3 k4 k5 hlb
      subst hsv
      by_cases hbig : 50 < cf.gs.length
      · have hb2 : (50 : Int) < (cf.gs.length : Int) := by omega
        have HF : Hid (largeB (ps.map (·.1)) = true) := hlb.out hbig
        go_wp2_with fail
        go_ret
        rw [HF.out]
        exact ⟨rfl, hq.out.alloc hq.out.size _⟩
      · have hb2 : decide ((50 : Int) < (cf.gs.length : Int)) = false := by rw [decide_eq_false_iff_not]; omega
        have HF : Hid (((ps.map (·.1)).take (k + 1)).any (fun c => decide (50 < c.gs.length)) = false) := by
          unfold Hid
          rw [ht.out, List.any_append, hS.out]
          simp [hbig]
        clear hbig
        go_wp2_with fail
        go_roundw
        case rel => exact ⟨k + 1, by omega, by go_num, hq.out.alloc hq.out.size _, HF⟩
        case measure => simp [intOf]; omega
    · obtain rfl : k = ps.length := by omega
      have HF : Hid (largeB (ps.map (·.1)) = decide ((60 : Int) < (ps.length : Int))) := by
        unfold Hid largeB
        have := hS.out
        rw [List.take_of_length_le (by simp)] at this
        rw [this, List.length_map]
        simp only [Bool.false_or, decide_eq_decide]
        omega
      clear hS
      go_wp2_with fail
      go_ret
      rw [HF.out]
      exact ⟨rfl, hq.out⟩

end Go.Proofs.Ytgelgjjhpioihaa
