/- The numbers of a list's text: the document's. -/
import Derived.Test.YtijacbnoemjgcaaGreatDoorPb40
import Derived.Test.YtijacbnoemjgcaaGreatDoorPb47
import Derived.Test.YtijacbnoemjgcaaGreatDoorPb43
set_option linter.unusedVariables false
set_option linter.unusedSimpArgs false
set_option linter.unnecessarySimpa false
namespace Go.Proofs.YtijacbnoemjgcaaGreatDoor
open Go.RowKit Go.Shelf

/-- What numbers answers. -/
def numsS (t : Bs) : List Int × Bool := match thrO t with
  | some ns => (ns, true)
  | none => ([], false)

set_option maxHeartbeats 4000000 in
set_option maxRecDepth 100000 in
theorem rnumbers_any (t : Bs) (ht : t.length ≤ 1000000000) (w : World) :
    Calls Tryz.prog 17 #[.string ⟨t.toArray⟩] w fun e w' => ∃ v, e = .returned (.tuple #[v, .bool (numsS t).2]) ∧ w'.ownsRow w.heap.size 3 1 v (numsS t).1.length (ints (numsS t).1) ∧ Below w.heap.size w w' := by
  have hU := runpack_any t (by omega) w
  obtain ⟨i0, hi0, hz0, hz1, hz2⟩ := info_parts int_info
  have hbig := unpackB_small t
  have HL : Hid (numsS t = match (if (unpackB t).2 = 0 ∧ (unpackB t).1.length % 3 = 0 then toNums (unpackB t).1 else none) with | some l => (l, true) | none => ([], false)) := rfl
  by_cases he : (unpackB t).2 = 0
  · by_cases h3 : (unpackB t).1.length % 3 = 0
    · have HL2 : Hid (numsS t = match toNums (unpackB t).1 with | some l => (l, true) | none => ([], false)) := by unfold Hid; rw [HL.out, if_pos ⟨he, h3⟩]
      rw [he] at hU
      have hmod : (((unpackB t).1.length : Int) % 3 != 0) = false := by rw [bne_eq_false_iff_eq]; omega
      clear he HL h3
      generalize (unpackB t).1 = l at *
      have HBG := Lib.hid hbig
      clear hbig
      go_enter Tryz.func17, Tryz.ntmps17
      go_wp2_with fail
      refine hU.mono ?_
      rintro e w1 ⟨v, rfl, hv, hb1⟩
      obtain ⟨A, c, rfl⟩ := own_shape hv
      have HV := Lib.hid (Rd.of_own hv)
      have HB1 := Lib.hid hb1
      have hlen := HBG.out.1
      clear hU hv hb1
      go_wp2_with fail
      go_loopw [6, 26] (fun o i wr => ∃ (k : Nat) (ns : List Int) (A' : Option Addr) (c' : Nat), k ≤ l.length ∧ i = .int .i64 k ∧ o = .slice A' k c' ∧ Hid (ns.length = k ∧ toNums (l.take k) = some ns) ∧ Hid (wr.ownsRow w1.heap.size 3 1 (.slice A' k c') k (ints ns)) ∧ Hid (Below w1.heap.size w1 wr)) (fun _ i _ => l.length - (intOf i).toNat)
      case atStart => exact ⟨0, [], none, 0, Nat.zero_le _, rfl, rfl, ⟨rfl, rfl⟩, World.ownsRow_nil _ _ _ _, Below.refl _ _⟩
      case round =>
        obtain ⟨k, ns, A', c', hk, rfl, rfl, HNS, HO, HB⟩ := hrel
        by_cases hlt : k < l.length
        · obtain ⟨g, off, c1, hV, hg, q0⟩ := rd_gets (HV.out.below HB.out) hlt
          injection hV with hA _ hcc
          subst hA
          clear hcc
          have hsl := HBG.out.2 l[k] (List.getElem_mem hlt)
          have HT := Lib.hid (toNums_take l k hlt ns HNS.out.2)
          have HNO := Lib.hid (toNums_none l k hlt)
          have hsz := HB.out.size
          have hsz1 := HB1.out.size
          have h4 := toNum_fourU l[k]
          generalize l[k] = s at *
          have hN := rtoNum_any s (by omega) wr
          by_cases h0 : (toNumB s).2 = 0
          · rw [h0] at hN
            have HT2 : Hid (toNums (l.take (k + 1)) = some (ns ++ [(toNumB s).1])) := by unfold Hid; rw [HT.out, if_pos h0]
            clear HT HNO h0 h4
            generalize (toNumB s).1 = n at *
            go_wp2_with fail
            refine hN.mono ?_
            rintro e w2 ⟨rfl, hb2⟩
            have HO2 := Lib.hid (own_below HO.out hb2)
            have HB2 := Lib.hid (HB.out.trans (hb2.mono HB.out.size))
            have hsz2 := HB2.out.size
            clear HO hb2 hN
            go_wp2_with (at_builtin; refine wpList_append_own _ rfl _ _ 43 rfl w1.heap.size 3 i0 _ 1 8 Tryz.underlying43 hi0 hz0 hz1 hz2 rfl (by omega) _ _ _ rfl (HO2.out.alloc _) ⟨w2.heap.size, 0, none⟩ 1 1 [.int .i64 n] rfl rfl (news_box (cs := #[.int .i64 n]) rfl) (by simp [Value.oneCell']) (by show _ ≤ 9223372036854775807; omega) (by omega) (by simp; omega) ?_; intro v' w6 hown' hgrow _; obtain ⟨g', cap', rfl⟩ := ownsRow_succ hown')
            refine ⟨⟨k + 1, ns ++ [n], some ⟨g', 0, none⟩, cap', by omega, by simp, rfl, ⟨by simp [HNS.out.1], HT2.out⟩, ?_, ?_⟩, by simp [intOf]; omega⟩
            · unfold Hid
              simpa [ints] using hown'
            · exact HB2.out.trans (((Below.refl w1.heap.size w2).alloc hsz2 _).grown hgrow (by simp; omega) (fun g e => (HO2.out.lt g e).1))
          · have h4' := h4 h0
            rw [h4'] at hN
            have HF : Hid (numsS t = ([], false)) := by unfold Hid; rw [HL2.out, HNO.out h0]
            clear h4 h0
            go_wp2_with fail
            refine hN.mono ?_
            rintro e w2 ⟨rfl, hb2⟩
            go_wp2
            go_ret2
            refine ⟨_, by rw [HF.out]; rfl, by rw [HF.out]; exact World.ownsRow_nil _ _ _ _, ?_⟩
            have := HB.out.trans (hb2.mono HB.out.size)
            exact HB1.out.trans (this.mono HB1.out.size)
        · obtain rfl : k = l.length := by omega
          rw [List.take_length] at HNS
          have HF : Hid (numsS t = (ns, true)) := by unfold Hid; rw [HL2.out, HNS.out.2]
          go_wp2
          go_ret2
          refine ⟨_, by rw [HF.out]; rfl, ?_, HB1.out.trans (HB.out.mono HB1.out.size)⟩
          rw [HF.out]
          show wr.ownsRow w.heap.size 3 1 _ ns.length (ints ns)
          rw [HNS.out.1]
          exact own_weaken HO.out HB1.out.size
    · have HF : Hid (numsS t = ([], false)) := by unfold Hid; rw [HL.out, if_neg (fun h => h3 h.2)]
      have hmod : (((unpackB t).1.length : Int) % 3 != 0) = true := by simp only [bne_iff_ne, ne_eq]; omega
      rw [he] at hU
      clear HL
      go_enter Tryz.func17, Tryz.ntmps17
      go_wp2_with fail
      refine hU.mono ?_
      rintro e w1 ⟨v, rfl, hv, hb1⟩
      obtain ⟨A, c, rfl⟩ := own_shape hv
      go_wp2
      go_ret2
      exact ⟨_, by rw [HF.out]; rfl, by rw [HF.out]; exact World.ownsRow_nil _ _ _ _, hb1⟩
  · have hu := unpackB_fourU t he
    have HF : Hid (numsS t = ([], false)) := by unfold Hid; rw [HL.out, if_neg (fun h => he h.1)]
    rw [hu] at hU
    go_enter Tryz.func17, Tryz.ntmps17
    go_wp2_with fail
    refine hU.mono ?_
    rintro e w1 ⟨v, rfl, hv, hb1⟩
    obtain ⟨A, c, rfl⟩ := own_shape hv
    go_wp2
    go_ret2
    exact ⟨_, by rw [HF.out]; rfl, by rw [HF.out]; exact World.ownsRow_nil _ _ _ _, hb1⟩

end Go.Proofs.YtijacbnoemjgcaaGreatDoor
