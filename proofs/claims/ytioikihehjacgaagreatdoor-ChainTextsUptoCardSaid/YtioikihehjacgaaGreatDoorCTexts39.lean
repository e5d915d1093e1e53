/- Lists of numbers as texts: the program's and the document's. -/
import Derived.Test.YtioikihehjacgaaGreatDoorCTexts20
import Derived.Test.YtioikihehjacgaaGreatDoorCTexts23
import Derived.Test.YtioikihehjacgaaGreatDoorCTexts27
import Derived.Test.YtioikihehjacgaaGreatDoorCTexts38
set_option linter.unusedVariables false
set_option linter.unusedSimpArgs false
set_option linter.unnecessarySimpa false
namespace Go.Proofs.YtioikihehjacgaaGreatDoor
open Go.RowKit Go.Shelf

theorem strs_snoc (l : List Int) (k : Nat) (hk : k < l.length) : strs ((l.take (k + 1)).map Lib.itoa) = strs ((l.take k).map Lib.itoa) ++ [.string ⟨(Lib.itoa l[k]).toArray⟩] := by
  rw [List.take_succ_eq_append_getElem hk, List.map_append, strs, List.map_append]; rfl
theorem itoas_small (l : List Int) (hn : ∀ n ∈ l, -9223372036854775808 ≤ n ∧ n ≤ 9223372036854775807) : (lstB l).length ≤ l.length * 51 := by
  have := packB_len (l.map Lib.itoa) 21 (fun s hs => by
    obtain ⟨n, hn', rfl⟩ := List.mem_map.1 hs
    have := hn n hn'
    exact Lib.itoa_length_le n (by omega) (by omega)) (by omega)
  rw [List.length_map] at this
  exact this

set_option maxHeartbeats 4000000 in
set_option maxRecDepth 100000 in
theorem numbers_any (v : Value) (l : List Int) (w : World) (hl : Lay w) (B0 : Nat) (hB0 : B0 ≤ w.heap.size) (hr : Rd w B0 1 v l.length (ints l)) (hm : l.length ≤ 1000000) (hn : ∀ n ∈ l, -9223372036854775808 ≤ n ∧ n ≤ 9223372036854775807) :
    Calls Tryz.prog 22 #[v] w fun e w' => e = .returned (.string ⟨(lstB l).toArray⟩) ∧ Below w.heap.size w w' := by
  have HR : Hid (Rd w w.heap.size 1 v l.length (ints l)) := hr.more hB0
  have HN := Lib.hid hn
  clear hn
  obtain ⟨_, A, c, rfl, _, _⟩ := hr
  obtain ⟨i0, hi0, hz0, hz1, hz2⟩ := info_parts infoS
  go_enter Tryz.func22, Tryz.ntmps22
  go_wp2
  go_loopw [3, 8] (fun o i wr => ∃ (k : Nat) (A' : Option Addr) (c' : Nat), k ≤ l.length ∧ i = .int .i64 k ∧ o = .slice A' k c' ∧ Hid (wr.ownsRow w.heap.size 9 1 (.slice A' k c') k (strs ((l.take k).map Lib.itoa))) ∧ Hid (Below w.heap.size w wr)) (fun _ i _ => l.length - (intOf i).toNat)
  case atStart => exact ⟨0, none, 0, Nat.zero_le _, rfl, rfl, World.ownsRow_nil _ _ _ _, Below.refl _ _⟩
  case round =>
    obtain ⟨k, A', c', hk, rfl, rfl, HO, HB⟩ := hrel
    by_cases hlt : k < l.length
    · obtain ⟨g, off, c1, hV, hg, q0⟩ := rd_get1 (HR.out.below HB.out) hlt
      injection hV with hA _ hcc
      subst hA
      clear hcc
      have HT := Lib.hid (strs_snoc l k hlt)
      obtain ⟨n0, n1⟩ := HN.out l[k] (List.getElem_mem hlt)
      have hsz := HB.out.size
      generalize l[k] = n at *
      go_wp2_with fail
      refine (num_any n n0 n1 _ (hl.later HB.out)).mono ?_
      rintro e w1 ⟨rfl, hb1⟩
      have HO1 := Lib.hid (own_below HO.out hb1)
      have HB1 := Lib.hid (HB.out.trans (hb1.mono HB.out.size))
      have hsz1 := HB1.out.size
      clear HO hb1
      go_wp2_with (at_builtin; refine wpList_append_own _ rfl _ _ 55 rfl w.heap.size 9 i0 _ 1 16 Tryz.underlying55 hi0 hz0 hz1 hz2 rfl (by omega) _ _ _ rfl (HO1.out.alloc _) ⟨w1.heap.size, 0, none⟩ 1 1 [.string ⟨(Lib.itoa n).toArray⟩] rfl rfl (news_box (cs := #[.string ⟨(Lib.itoa n).toArray⟩]) rfl) (by simp [Value.oneCell']) (by show _ ≤ 9223372036854775807; omega) (by omega) (by simp; omega) ?_; intro v' w6 hown' hgrow _; obtain ⟨g', cap', rfl⟩ := ownsRow_succ hown')
      refine ⟨⟨k + 1, some ⟨g', 0, none⟩, cap', by omega, by simp, rfl, ?_, ?_⟩, by simp [intOf]; omega⟩
      · unfold Hid
        rw [HT.out]
        exact hown'
      · exact HB1.out.trans ((((Below.refl w.heap.size w1).alloc hsz1 _)).grown hgrow (by simp; omega) (fun g e => (HO1.out.lt g e).1))
    · obtain rfl : k = l.length := by omega
      rw [List.take_length] at HO
      have hsm := itoas_small l HN.out
      have hsm2 : (packB (l.map Lib.itoa)).length ≤ 140737488355328 := by unfold lstB at hsm; omega
      have hlen : (l.map Lib.itoa).length = l.length := by simp
      have HOO : Hid (wr.ownsRow w.heap.size 9 1 (.slice A' l.length c') (l.map Lib.itoa).length (strs (l.map Lib.itoa))) := by unfold Hid; rw [hlen]; exact HO.out
      have hm3 : (l.map Lib.itoa).length ≤ 1000000000000 := by rw [hlen]; omega
      clear hlen hsm
      go_wp2_with fail
      refine (pack_any _ (l.map Lib.itoa) wr.heap.size _ (hl.later HB.out) (Nat.le_refl _) (Rd.of_own HOO.out) hm3 hsm2).mono ?_
      rintro e w2 ⟨rfl, hb2⟩
      go_wp2
      go_ret
      exact ⟨rfl, HB.out.trans (hb2.mono HB.out.size)⟩

set_option maxHeartbeats 4000000 in
set_option maxRecDepth 100000 in
theorem rlist_any (v : Value) (l : List Int) (w : World) (B0 : Nat) (hB0 : B0 ≤ w.heap.size) (hr : Rd w B0 1 v l.length (ints l)) (hm : l.length ≤ 1000000) (hn : ∀ n ∈ l, -9223372036854775808 ≤ n ∧ n ≤ 9223372036854775807) :
    Calls Tryz.prog 25 #[v] w fun e w' => e = .returned (.string ⟨(lstB l).toArray⟩) ∧ Below w.heap.size w w' := by
  have HR : Hid (Rd w w.heap.size 1 v l.length (ints l)) := hr.more hB0
  have HN := Lib.hid hn
  clear hn
  obtain ⟨_, A, c, rfl, _, _⟩ := hr
  obtain ⟨i0, hi0, hz0, hz1, hz2⟩ := info_parts infoS
  go_enter Tryz.func25, Tryz.ntmps25
  go_wp2
  go_loopw [3, 8] (fun o i wr => ∃ (k : Nat) (A' : Option Addr) (c' : Nat), k ≤ l.length ∧ i = .int .i64 k ∧ o = .slice A' k c' ∧ Hid (wr.ownsRow w.heap.size 9 1 (.slice A' k c') k (strs ((l.take k).map Lib.itoa))) ∧ Hid (Below w.heap.size w wr)) (fun _ i _ => l.length - (intOf i).toNat)
  case atStart => exact ⟨0, none, 0, Nat.zero_le _, rfl, rfl, World.ownsRow_nil _ _ _ _, Below.refl _ _⟩
  case round =>
    obtain ⟨k, A', c', hk, rfl, rfl, HO, HB⟩ := hrel
    by_cases hlt : k < l.length
    · obtain ⟨g, off, c1, hV, hg, q0⟩ := rd_get1 (HR.out.below HB.out) hlt
      injection hV with hA _ hcc
      subst hA
      clear hcc
      have HT := Lib.hid (strs_snoc l k hlt)
      obtain ⟨n0, n1⟩ := HN.out l[k] (List.getElem_mem hlt)
      have hsz := HB.out.size
      generalize l[k] = n at *
      go_wp2_with fail
      refine (rnum_any n n0 n1 _).mono ?_
      rintro e w1 ⟨rfl, hb1⟩
      have HO1 := Lib.hid (own_below HO.out hb1)
      have HB1 := Lib.hid (HB.out.trans (hb1.mono HB.out.size))
      have hsz1 := HB1.out.size
      clear HO hb1
      go_wp2_with (at_builtin; refine wpList_append_own _ rfl _ _ 55 rfl w.heap.size 9 i0 _ 1 16 Tryz.underlying55 hi0 hz0 hz1 hz2 rfl (by omega) _ _ _ rfl (HO1.out.alloc _) ⟨w1.heap.size, 0, none⟩ 1 1 [.string ⟨(Lib.itoa n).toArray⟩] rfl rfl (news_box (cs := #[.string ⟨(Lib.itoa n).toArray⟩]) rfl) (by simp [Value.oneCell']) (by show _ ≤ 9223372036854775807; omega) (by omega) (by simp; omega) ?_; intro v' w6 hown' hgrow _; obtain ⟨g', cap', rfl⟩ := ownsRow_succ hown')
      refine ⟨⟨k + 1, some ⟨g', 0, none⟩, cap', by omega, by simp, rfl, ?_, ?_⟩, by simp [intOf]; omega⟩
      · unfold Hid
        rw [HT.out]
        exact hown'
      · exact HB1.out.trans ((((Below.refl w.heap.size w1).alloc hsz1 _)).grown hgrow (by simp; omega) (fun g e => (HO1.out.lt g e).1))
    · obtain rfl : k = l.length := by omega
      rw [List.take_length] at HO
      have hsm := itoas_small l HN.out
      have hsm2 : (packB (l.map Lib.itoa)).length ≤ 140737488355328 := by unfold lstB at hsm; omega
      have hlen : (l.map Lib.itoa).length = l.length := by simp
      have HOO : Hid (wr.ownsRow w.heap.size 9 1 (.slice A' l.length c') (l.map Lib.itoa).length (strs (l.map Lib.itoa))) := by unfold Hid; rw [hlen]; exact HO.out
      have hm3 : (l.map Lib.itoa).length ≤ 1000000000000 := by rw [hlen]; omega
      clear hlen hsm
      go_wp2_with fail
      refine (rpack_any _ (l.map Lib.itoa) wr.heap.size _ (Nat.le_refl _) (Rd.of_own HOO.out) hm3 hsm2).mono ?_
      rintro e w2 ⟨rfl, hb2⟩
      go_wp2
      go_ret
      exact ⟨rfl, HB.out.trans (hb2.mono HB.out.size)⟩

theorem toNum_four (s : Bs) (h : ¬ (toNumB s).2 = 0) : (toNumB s).2 = 4 := by
  rcases toNum_cases s with e | ⟨e, _⟩
  · rw [e]
  · exact absurd (by rw [e]) h
theorem toNums_cnt : ∀ (l : List Bs) (ns : List Int), toNums l = some ns → ns.length = l.length := fun l ns h => by
  have := congrArg List.length (toNums_some l ns h)
  simpa using this
theorem listedB_count (t : Bs) : (listedB t).1.length ≤ t.length := by
  unfold listedB
  split
  · cases hn : toNums (unpackB t).1 with
    | none => simp
    | some l => simp only; rw [toNums_cnt _ l hn]; exact (unpackB_small t).1
  · simp
theorem unpackB_four (s : Bs) (h : ¬ (unpackB s).2 = 0) : unpackB s = ([], 4) := by
  unfold unpackB at h ⊢
  cases hu : unpackO s with
  | none => rfl
  | some l => rw [hu] at h; simp at h

set_option maxHeartbeats 4000000 in
set_option maxRecDepth 100000 in
theorem listed_any (t : Bs) (ht : t.length ≤ 1000000000) (w : World) (hl : Lay w) :
    Calls Tryz.prog 28 #[.string ⟨t.toArray⟩] w fun e w' => ∃ v, e = .returned (.tuple #[v, .int .i64 (listedB t).2]) ∧ w'.ownsRow w.heap.size 3 1 v (listedB t).1.length (ints (listedB t).1) ∧ Below w.heap.size w w' := by
  have hU := unpack_any t (by omega) w hl
  obtain ⟨i0, hi0, hz0, hz1, hz2⟩ := info_parts int_info
  have hbig := unpackB_small t
  have HL : Hid (listedB t = if (unpackB t).2 = 0 then (match toNums (unpackB t).1 with | some l => (l, (0 : Int)) | none => ([], 4)) else ([], 4)) := rfl
  by_cases he : (unpackB t).2 = 0
  · have HL2 : Hid (listedB t = match toNums (unpackB t).1 with | some l => (l, (0 : Int)) | none => ([], 4)) := by unfold Hid; rw [HL.out, if_pos he]
    rw [he] at hU
    clear he HL
    generalize (unpackB t).1 = l at *
    have HBG := Lib.hid hbig
    clear hbig
    go_enter Tryz.func28, Tryz.ntmps28
    go_wp2_with fail
    refine hU.mono ?_
    rintro e w1 ⟨v, rfl, hv, hb1⟩
    obtain ⟨A, c, rfl⟩ := own_shape hv
    have HV := Lib.hid (Rd.of_own hv)
    have HB1 := Lib.hid hb1
    have hlen := HBG.out.1
    have hl1 := hl.later hb1
    clear hU hv hb1
    go_wp2_with fail
    go_loopw [6, 21] (fun o i wr => ∃ (k : Nat) (ns : List Int) (A' : Option Addr) (c' : Nat), k ≤ l.length ∧ i = .int .i64 k ∧ o = .slice A' k c' ∧ Hid (ns.length = k ∧ toNums (l.take k) = some ns) ∧ Hid (wr.ownsRow w1.heap.size 3 1 (.slice A' k c') k (ints ns)) ∧ Hid (Below w1.heap.size w1 wr)) (fun _ i _ => l.length - (intOf i).toNat)
    case atStart => exact ⟨0, [], none, 0, Nat.zero_le _, rfl, rfl, ⟨rfl, rfl⟩, World.ownsRow_nil _ _ _ _, Below.refl _ _⟩
    case round =>
      obtain ⟨k, ns, A', c', hk, rfl, rfl, HNS, HO, HB⟩ := hrel
      by_cases hlt : k < l.length
      · obtain ⟨g, off, c1, hV, hg, q0⟩ := rd_gets (HV.out.below HB.out) hlt
        injection hV with hA _ hcc
        subst hA
        clear hcc
        have hsl := HBG.out.2 l[k] (List.getElem_mem hlt)
        have HT := Lib.hid (toNums_take l k hlt ns HNS.out.2)
        have HNO := Lib.hid (toNums_none l k hlt)
        have hsz := HB.out.size
        have hsz1 := HB1.out.size
        have h4 := toNum_four l[k]
        generalize l[k] = s at *
        have hN := toNum_any s (by omega) wr (hl1.later HB.out)
        by_cases h0 : (toNumB s).2 = 0
        · rw [h0] at hN
          have HT2 : Hid (toNums (l.take (k + 1)) = some (ns ++ [(toNumB s).1])) := by unfold Hid; rw [HT.out, if_pos h0]
          clear HT HNO h0 h4
          generalize (toNumB s).1 = n at *
          go_wp2_with fail
          refine hN.mono ?_
          rintro e w2 ⟨rfl, hb2⟩
          have HO2 := Lib.hid (own_below HO.out hb2)
          have HB2 := Lib.hid (HB.out.trans (hb2.mono HB.out.size))
          have hsz2 := HB2.out.size
          clear HO hb2 hN
          go_wp2_with (at_builtin; refine wpList_append_own _ rfl _ _ 22 rfl w1.heap.size 3 i0 _ 1 8 Tryz.underlying22 hi0 hz0 hz1 hz2 rfl (by omega) _ _ _ rfl (HO2.out.alloc _) ⟨w2.heap.size, 0, none⟩ 1 1 [.int .i64 n] rfl rfl (news_box (cs := #[.int .i64 n]) rfl) (by simp [Value.oneCell']) (by show _ ≤ 9223372036854775807; omega) (by omega) (by simp; omega) ?_; intro v' w6 hown' hgrow _; obtain ⟨g', cap', rfl⟩ := ownsRow_succ hown')
          refine ⟨⟨k + 1, ns ++ [n], some ⟨g', 0, none⟩, cap', by omega, by simp, rfl, ⟨by simp [HNS.out.1], HT2.out⟩, ?_, ?_⟩, by simp [intOf]; omega⟩
          · unfold Hid
            simpa [ints] using hown'
          · exact HB2.out.trans (((Below.refl w1.heap.size w2).alloc hsz2 _).grown hgrow (by simp; omega) (fun g e => (HO2.out.lt g e).1))
        · have h4' := h4 h0
          rw [h4'] at hN
          have HF : Hid (listedB t = ([], 4)) := by unfold Hid; rw [HL2.out, HNO.out h0]
          clear h4 h0
          go_wp2_with fail
          refine hN.mono ?_
          rintro e w2 ⟨rfl, hb2⟩
          go_wp2
          go_ret2
          refine ⟨_, by rw [HF.out]; rfl, by rw [HF.out]; exact World.ownsRow_nil _ _ _ _, ?_⟩
          have := HB.out.trans (hb2.mono HB.out.size)
          exact HB1.out.trans (this.mono HB1.out.size)
      · obtain rfl : k = l.length := by omega
        rw [List.take_length] at HNS
        have HF : Hid (listedB t = (ns, 0)) := by unfold Hid; rw [HL2.out, HNS.out.2]
        go_wp2
        go_ret2
        refine ⟨_, by rw [HF.out]; rfl, ?_, HB1.out.trans (HB.out.mono HB1.out.size)⟩
        rw [HF.out]
        show wr.ownsRow w.heap.size 3 1 _ ns.length (ints ns)
        rw [HNS.out.1]
        exact own_weaken HO.out HB1.out.size
  · have hu := unpackB_four t he
    have HF : Hid (listedB t = ([], 4)) := by unfold Hid; rw [HL.out, if_neg he]
    rw [hu] at hU
    go_enter Tryz.func28, Tryz.ntmps28
    go_wp2_with fail
    refine hU.mono ?_
    rintro e w1 ⟨v, rfl, hv, hb1⟩
    obtain ⟨A, c, rfl⟩ := own_shape hv
    go_wp2
    go_ret2
    exact ⟨_, by rw [HF.out]; rfl, by rw [HF.out]; exact World.ownsRow_nil _ _ _ _, hb1⟩

end Go.Proofs.YtioikihehjacgaaGreatDoor
