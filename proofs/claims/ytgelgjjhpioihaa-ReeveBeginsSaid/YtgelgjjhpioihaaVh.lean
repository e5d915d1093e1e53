/- Reeve: Moves. -/
import Derived.Test.YtgelgjjhpioihaaVf
import Derived.Test.YtgelgjjhpioihaaVg
namespace Go.Proofs.Ytgelgjjhpioihaa
open Go.RowKit Go.Shelf
set_option linter.unusedVariables false
set_option linter.unusedSimpArgs false

theorem movesS_length (cs : List Cfg) : (movesS cs).length = cs.length - 1 := by simp [movesS]
theorem movesS_get (cs : List Cfg) (m : Nat) (h : m + 1 < cs.length) : (movesS cs)[m]? = some (mv cs[m].o cs[m + 1].o) := by
  unfold movesS
  rw [List.getElem?_map, List.getElem?_range (by omega)]
  simp only [Option.map_some, List.getD_eq_getElem?_getD, List.getElem?_eq_getElem h, List.getElem?_eq_getElem (show m < cs.length by omega)]
  rfl
theorem movesS_take (cs : List Cfg) (m : Nat) (h : m + 1 < cs.length) : (movesS cs).take (m + 1) = (movesS cs).take m ++ [mv cs[m].o cs[m + 1].o] := by
  rw [List.take_add_one, movesS_get cs m h]; rfl
structure MvAt (w : World) (cs : List Cfg) (m : Nat) (v : Value) (wr : World) : Prop where
  row : wr.ownsRow w.heap.size 3 1 v m (ints ((movesS cs).take m))
  hb : Below w.heap.size w wr
def MovesPost (w : World) (l : List Int) (e : Ending) (w' : World) : Prop := ∃ v', e = .returned (.tuple #[v', .int .i64 0]) ∧ w'.ownsRow w.heap.size 3 1 v' l.length (ints l) ∧ Below w.heap.size w w'
theorem blk_j {w : World} {g o : Nat} {p : Own} (h2 : w.cell? ⟨g, o, none⟩ = some (.int .i64 p.a)) (h3 : w.cell? ⟨g, o + 1, none⟩ = some (.int .i64 p.b)) (h4 : w.cell? ⟨g, o + 2, none⟩ = some (.int .i64 p.c)) (h5 : w.cell? ⟨g, o + 3, none⟩ = some (.int .i64 p.d)) (j : Nat) (hj : j < 4) : w.cell? ⟨g, o + j, none⟩ = some (.int .i64 (p.get j)) := by
  have h : j = 0 ∨ j = 1 ∨ j = 2 ∨ j = 3 := by omega
  rcases h with rfl | rfl | rfl | rfl
  · exact h2
  · exact h3
  · exact h4
  · exact h5

set_option maxHeartbeats 1000000 in
set_option maxRecDepth 100000 in
theorem moves_any (vs : Value) (ps : List CfgV) (w : World) (hs : CRd w w.heap.size vs ps) (hn : ps.length ≤ 1000) (h0 : 0 < ps.length) (hgd : Good (ps.map (·.1))) :
    Calls Try.prog 15 #[vs] w (MovesPost w (movesS (ps.map (·.1)))) := by
  have HS := Lib.hid hs
  have HL := Lib.hid (linked_any vs ps w hs hn hgd)
  obtain ⟨_, A0, cc0, rfl, hncc0, _⟩ := hs.row
  obtain ⟨i0, hi0, hz0, hz1, hz2⟩ := info_parts int_info
  have hcl : Hid ((ps.map (·.1)).length = ps.length) := by unfold Hid; rw [List.length_map]
  have HTK : Hid (∀ m (h : m + 1 < ps.length), (movesS (ps.map (·.1))).take (m + 1) = (movesS (ps.map (·.1))).take m ++ [mv ps[m].1.o ps[m + 1].1.o]) := fun m h => by
    have := movesS_take (ps.map (·.1)) m (by simpa using h)
    simpa using this
  have HLN : Hid ((movesS (ps.map (·.1))).length = ps.length - 1) := by unfold Hid; rw [movesS_length, List.length_map]
  clear hs hgd
  go_enter Try.func15, Try.ntmps15
  go_wp2_with fail
  refine HL.out.mono ?_
  rintro e w1 ⟨rfl, hb1⟩
  have hst : Hid (MvAt w (ps.map (·.1)) 0 (.slice none 0 0) w1) := ⟨World.ownsRow_nil _ _ _ _, hb1⟩
  clear hb1 HL
  go_wp2_with fail
  go_loopw [5, 6] (fun v i wr => ∃ m : Nat, m + 1 ≤ ps.length ∧ i = .int .i64 ((m : Int) + 1) ∧ Hid (MvAt w (ps.map (·.1)) m v wr)) (fun _ i _ => ps.length - (intOf i).toNat)
  case atStart => exact ⟨0, by omega, rfl, hst.out⟩
  case round =>
    obtain ⟨m, hm, rfl, hM⟩ := hrel
    clear hst
    obtain ⟨wo, rfl⟩ : ∃ wo : World, wo = wr := ⟨_, rfl⟩
    obtain ⟨Am, cm, rfl⟩ := own_shape hM.out.row
    by_cases hlt : m + 1 < ps.length
    · obtain ⟨g, off, c', hV, hgl, q0, q1, q2, q3, q4, q5⟩ := HS.out.get hlt
      injection hV with hA _ hcc
      subst hA hcc
      obtain ⟨g', off', c', hV, hgl', p0, p1, p2, p3, p4, p5⟩ := HS.out.get (k := m) (by omega)
      injection hV with hA _ hcc
      injection hA with hA
      injection hA with hA1 hA2
      subst hA1 hA2
      clear hcc
      have htk := Lib.hid (HTK.out m hlt)
      generalize ps[m + 1].1.o = qo at *
      generalize ps[m].1.o = po at *
      have k2 := (hM.out.hb.cell (p := ⟨g, off + m * 6 + 2, none⟩) hgl).trans p2
      have k3 := (hM.out.hb.cell (p := ⟨g, off + m * 6 + 3, none⟩) hgl).trans p3
      have k4 := (hM.out.hb.cell (p := ⟨g, off + m * 6 + 4, none⟩) hgl).trans p4
      have k5 := (hM.out.hb.cell (p := ⟨g, off + m * 6 + 5, none⟩) hgl).trans p5
      have j2 := (hM.out.hb.cell (p := ⟨g, off + (m + 1) * 6 + 2, none⟩) hgl).trans q2
      have j3 := (hM.out.hb.cell (p := ⟨g, off + (m + 1) * 6 + 3, none⟩) hgl).trans q3
      have j4 := (hM.out.hb.cell (p := ⟨g, off + (m + 1) * 6 + 4, none⟩) hgl).trans q4
      have j5 := (hM.out.hb.cell (p := ⟨g, off + (m + 1) * 6 + 5, none⟩) hgl).trans q5
      have HJ := Lib.hid (blk_j j2 j3 j4 j5)
      clear q0 q1 q2 q3 q4 q5 p0 p1 p2 p3 p4 p5 j2 j3 j4 j5
      have hm0 : (0 : Int) ≤ (m : Int) := by omega
      have hm1 : (m : Int) + 1 < (ps.length : Int) := by omega
      have hm2 : (0 : Int) ≤ (m : Int) + 1 := by omega
      go_wp2_with fail
      go_loopw [7, 27] (fun nn jj wx => ∃ j : Nat, j ≤ 4 ∧ jj = .int .i64 j ∧ nn = .int .i64 (mvK po qo j) ∧ wx = wo) (fun _ jj _ => 4 - (intOf jj).toNat)
      case atStart => exact ⟨0, by omega, rfl, rfl, rfl⟩
      case round =>
        obtain ⟨j, hj, rfl, rfl, rfl⟩ := hrel
        by_cases hlt4 : j < 4
        · have hix := ix_get po j hlt4
          have hcell := HJ.out j hlt4
          have hst : Hid (mvK po qo (j + 1) = mvK po qo j + mv1 po qo j) := rfl
          have hm1d : Hid (mv1 po qo j = if po.get j ≠ 0 ∧ po.get j ≠ qo.get j then 1 else 0) := rfl
          obtain ⟨hb0, hb4⟩ := mvK_bd po qo j
          generalize po.get j = a at *
          generalize qo.get j = b at *
          generalize mvK po qo j = s at *
          cases ha : (a != 0) with
          | false =>
            have HE : Hid (mvK po qo (j + 1) = s) := by
              unfold Hid; rw [hst.out, hm1d.out, if_neg (by have : a = 0 := by simpa using ha
                                                            simp [this])]; omega
            go_wp2_with fail
            go_roundw
            case rel => exact ⟨j + 1, by omega, by go_num, by rw [HE.out], by trivial⟩
            case measure => simp [intOf]; omega
          | true =>
            have ha' : a ≠ 0 := by simpa using ha
            have HA := Lib.hid ha'
            clear ha'
            cases hab : (a != b) with
            | false =>
              have HE : Hid (mvK po qo (j + 1) = s) := by
                unfold Hid; rw [hst.out, hm1d.out, if_neg (by have : a = b := by simpa using hab
                                                              simp [this])]; omega
              go_wp2_with fail
              go_roundw
              case rel => exact ⟨j + 1, by omega, by go_num, by rw [HE.out], by trivial⟩
              case measure => simp [intOf]; omega
            | true =>
              have HE : Hid (mvK po qo (j + 1) = s + 1) := by
                unfold Hid; rw [hst.out, hm1d.out, if_pos ⟨HA.out, by simpa using hab⟩]
              go_wp2_with fail
              go_roundw
              case rel => exact ⟨j + 1, by omega, by go_num, by rw [HE.out], by trivial⟩
              case measure => simp [intOf]; omega
        · obtain rfl : j = 4 := by omega
          have hmv : Hid (mv po qo = mvK po qo 4) := rfl
          generalize mvK po qo 4 = s at *
          clear k2 k3 k4 k5 HJ
          have HRW := Lib.hid hM.out.row
          have HBW := Lib.hid hM.out.hb
          have hwz := hM.out.hb.size
          clear hM
          generalize List.take m (movesS (ps.map (·.1))) = L at *
          have HO := Lib.hid (fun o => HRW.out.alloc o)
          have hone : Hid (∀ u ∈ [Value.int .i64 s], u.oneCell' = true) := by intro u hu; simp at hu; subst hu; rfl
          go_wp2_with (at_builtin; refine wpList_append_lies _ rfl (.tmp 47) (.tmp 49) _ rfl w.heap.size 3 i0 _ 1 8 Try.underlying35 hi0 hz0 hz1 hz2 rfl (by omega) (.slice Am m cm) m (ints L) rfl (HO.out _) ⟨wr.heap.size, 0, none⟩ 1 1 [.int .i64 s] rfl rfl (news_box (by simp)) hone.out (by omega) (by unfold maxLen; omega) (by omega) (by simp; omega) (wr.heap.size + 1) (by simp) ?_; intro g2 cap2 w4 hown4 hg4 hat4 hlt4)
          have hfin : Hid (MvAt w (ps.map (·.1)) (m + 1) (.slice (some ⟨g2, 0, none⟩) (m + 1) cap2) w4) := by
            refine ⟨?_, (((Chg.of_below (F := fun i => w.heap.size ≤ i) HBW.out).alloc _).grown hg4 (fun j hj _ => (HRW.out.lt j hj).1)).to_below (fun i hi h => by omega) (Nat.le_refl _)⟩
            rw [htk.out, ints_append, hmv.out]
            exact hown4
          clear hown4 hg4 hat4 hlt4
          go_wp2_with fail
          go_roundw
          case rel => exact ⟨m + 1, by omega, by go_num, hfin⟩
          case measure => simp [intOf]; omega
    · have hme : m + 1 = ps.length := by omega
      have HF : Hid (wo.ownsRow w.heap.size 3 1 (.slice Am m cm) (movesS (ps.map (·.1))).length (ints (movesS (ps.map (·.1))))) := by
        have h1 := hM.out.row
        rw [List.take_of_length_le (by rw [HLN.out]; omega)] at h1
        rw [Hid, HLN.out, show ps.length - 1 = m by omega]
        exact h1
      have hd : decide ((m : Int) + 1 < (ps.length : Int)) = false := by rw [decide_eq_false_iff_not]; omega
      clear hme
      go_wp2_with fail
      go_ret2
      exact ⟨_, rfl, HF.out, hM.out.hb⟩

end Go.Proofs.Ytgelgjjhpioihaa
