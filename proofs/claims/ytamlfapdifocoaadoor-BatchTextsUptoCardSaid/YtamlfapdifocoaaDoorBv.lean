/- BatchTexts: a batch's text; requests opened; the law's walk. -/
import Derived.Test.YtamlfapdifocoaaDoorBu
import Derived.Test.YtamlfapdifocoaaDoorBk
import Derived.Test.YtamlfapdifocoaaDoorQa
set_option linter.unusedVariables false
set_option linter.unusedSimpArgs false
set_option linter.unnecessarySimpa false
namespace Go.Proofs.YtamlfapdifocoaaDoor
open Go.RowKit Go.Shelf Go.ChangeShapes Go.WideShapes Go.Deep

theorem cells_i : Tryd.prog.cellsOf 3 = 1 := by kernel_rfl
theorem cells_s : Tryd.prog.cellsOf 9 = 1 := by kernel_rfl
theorem cells_req : Tryd.prog.cellsOf 26 = 3 := by kernel_rfl
structure ReqS.Ok (w : World) (r : ReqS) : Prop where
  s : r.s.length ≤ 1048576
section
variable {H : Type} {enc : TypeId × Value → H} {w : World} {base : Nat} {spare : Nat → Bool} {held : Bool}
theorem open_req (n : Nat) (cs : List Value) (y : DataW H × List MemPlace) (h : DataW.trod enc Tryd.prog w base spare held n 26 cs = some y) (hb : Rows.uptoBulk y.1 ≤ 1048576) :
    ∃ o : ReqS, cs = o.cells ∧ o.Ok w := by
  have hcl := trod_cells Tryd.underlying26 h
  rw [cells_req] at hcl
  obtain ⟨v0, v1, v2, rfl⟩ : ∃ a b c, cs = [a, b, c] := by match cs, hcl with | [a, b, c], _ => exact ⟨a, b, c, rfl⟩
  obtain ⟨_, y0, t0, b0⟩ := trod_field Tryd.underlying26 h hb 0 _ rfl
  obtain ⟨_, y1, t1, b1⟩ := trod_field Tryd.underlying26 h hb 1 _ rfl
  obtain ⟨_, y2, t2, b2⟩ := trod_field Tryd.underlying26 h hb 2 _ rfl
  replace t0 : DataW.trod enc Tryd.prog w base spare held _ 3 (([v0, v1, v2].drop 0).take (Tryd.prog.cellsOf 3)) = some y0 := t0
  replace t1 : DataW.trod enc Tryd.prog w base spare held _ 3 (([v0, v1, v2].drop 1).take (Tryd.prog.cellsOf 3)) = some y1 := t1
  replace t2 : DataW.trod enc Tryd.prog w base spare held _ 9 (([v0, v1, v2].drop 2).take (Tryd.prog.cellsOf 9)) = some y2 := t2
  simp only [cells_i, cells_s, List.drop_zero, List.drop_succ_cons, List.take_succ_cons, List.take_zero] at t0 t1 t2
  obtain ⟨n0, e0, _⟩ := trod_i64 Tryd.underlying3 t0
  obtain ⟨n1, e1, _⟩ := trod_i64 Tryd.underlying3 t1
  obtain ⟨s2, e2, h2⟩ := trod_str Tryd.underlying9 t2 b2
  simp at e0 e1 e2
  subst e0 e1 e2
  exact ⟨⟨n0, n1, s2⟩, rfl, ⟨h2⟩⟩
theorem open_reqs {fuel : Nat} {a0 : Option Addr} {len cap : Nat} {x : DataW H × List MemPlace} (h : DataW.trod enc Tryd.prog w base spare held fuel 22 [.slice a0 len cap] = some x) (hb : Rows.uptoBulk x.1 ≤ 1048576) :
    ∃ l : List ReqS, l.length = len ∧ Rd w w.heap.size 3 (.slice a0 len cap) l.length (l.flatMap ReqS.cells) ∧ l.length ≤ 1048576 ∧ ∀ o ∈ l, o.Ok w :=
  open_list ReqS.cells 3 (by omega) (fun _ => rfl) (fun o => o.Ok w) Tryd.underlying22 cells_req open_req h hb
end

set_option maxHeartbeats 4000000 in
set_option maxRecDepth 100000 in
theorem btext_any (v : Value) (l : List ReqS) (w : World) (hl : Lay w) (hr : Rd w w.heap.size 3 v l.length (l.flatMap ReqS.cells)) (hm : l.length ≤ 1000000000) (hp : (packB (textsB l)).length ≤ 140737488355328) :
    Calls Tryd.prog 5 #[v] w fun e w' => e = .returned (.string ⟨(packB (textsB l)).toArray⟩) ∧ Below w.heap.size w w' := by
  have HR : Hid (Rd w w.heap.size 3 v l.length (l.flatMap ReqS.cells)) := hr
  obtain ⟨_, A, c, rfl, _, _⟩ := hr
  obtain ⟨i0, hi0, hz0, hz1, hz2⟩ := info_parts infoS
  go_enter Tryd.func5, Tryd.ntmps5
  go_wp2
  go_loopw [3, 8] (fun o i wr => ∃ (k : Nat) (A' : Option Addr) (c' : Nat), k ≤ l.length ∧ i = .int .i64 k ∧ o = .slice A' k c' ∧ Hid (wr.ownsRow w.heap.size 9 1 (.slice A' k c') k (strs (textsB (l.take k)))) ∧ Hid (Below w.heap.size w wr)) (fun _ i _ => l.length - (intOf i).toNat)
  case atStart => exact ⟨0, none, 0, Nat.zero_le _, rfl, rfl, World.ownsRow_nil _ _ _ _, Below.refl _ _⟩
  case round =>
    obtain ⟨k, A', c', hk, rfl, rfl, HO, HB⟩ := hrel
    by_cases hlt : k < l.length
    · obtain ⟨g, off, c1, hV, hg, q0, q1, q2⟩ := rd_reqs (HR.out.below HB.out) hlt
      injection hV with hA _ hcc
      subst hA
      clear hcc
      have HT := Lib.hid (textsB_take l k hlt)
      have hsz := HB.out.size
      generalize l[k] = r at *
      obtain ⟨rc, rn, rs⟩ := r
      simp only at q0 q1 q2 HT
      go_wp2_with (at_builtin; refine wpList_append_own _ rfl _ _ 24 rfl w.heap.size 9 i0 _ 1 16 Tryd.underlying24 hi0 hz0 hz1 hz2 rfl (by omega) _ _ _ rfl ((HO.out.alloc _).alloc _) ⟨wr.heap.size + 1, 0, none⟩ 1 1 [.string ⟨rs.toArray⟩] rfl rfl (news_box (cs := #[.string ⟨rs.toArray⟩]) (by simp)) (by simp [Value.oneCell']) (by show _ ≤ 9223372036854775807; omega) (by omega) (by simp; omega) ?_; intro v' w6 hown' hgrow _; obtain ⟨g', cap', rfl⟩ := ownsRow_succ hown')
      refine ⟨⟨k + 1, some ⟨g', 0, none⟩, cap', by omega, by simp, rfl, ?_, ?_⟩, by simp [intOf]; omega⟩
      · unfold Hid
        rw [HT.out]
        simpa [strs] using hown'
      · exact HB.out.trans ((((Below.refl w.heap.size wr).alloc hsz _).alloc (by simp; omega) _).grown hgrow (by simp; omega) (fun g e => (HO.out.lt g e).1))
    · obtain rfl : k = l.length := by omega
      rw [List.take_length] at HO
      have hlen : (textsB l).length = l.length := by simp [textsB]
      go_wp2_with fail
      refine (pack_any _ (textsB l) wr.heap.size _ (hl.later HB.out) (Nat.le_refl _) (by rw [hlen]; exact Rd.of_own HO.out) (by omega) hp).mono ?_
      rintro e w2 ⟨rfl, hb2⟩
      go_wp2
      go_ret
      exact ⟨rfl, HB.out.trans (hb2.mono HB.out.size)⟩

theorem sumT_take (l : List ReqS) (k : Nat) (hk : k < l.length) : ((textsB (l.take (k + 1))).map List.length).sum = ((textsB (l.take k)).map List.length).sum + l[k].s.length := by
  rw [textsB_take l k hk, List.map_append, List.sum_append]; simp
theorem packB_len (l : List Bs) (hs : ∀ s ∈ l, s.length ≤ 1048576) : (packB l).length ≤ (l.map List.length).sum + 24 * l.length := by
  induction l with
  | nil => simp [packB]
  | cons a l ih =>
    have h1 := ih (fun s hs' => hs s (by simp [hs']))
    have h2 := hs a (by simp)
    have h3 := Lib.itoa_length_le (a.length : Int) (by omega) (by omega)
    rw [packB_cons]
    simp only [List.map_cons, List.sum_cons, List.length_append, List.length_cons] at h1 ⊢
    omega
theorem packB_count (l : List Bs) : l.length ≤ (packB l).length := by
  induction l with
  | nil => simp
  | cons a l ih => rw [packB_cons]; simp; omega
theorem unpackB_count (t : Bs) : (unpackB t).1.length ≤ t.length := by
  unfold unpackB
  cases hu : unpackO t with
  | none => simp
  | some l =>
    have hpc := (pack_unpack t.length t l (Nat.le_refl _) hu).1
    show l.length ≤ t.length
    rw [← hpc]
    exact packB_count l
theorem btexts_count (t : Bs) : (btextsB t).1.length ≤ t.length := by
  rw [btexts_is]
  split
  · exact unpackB_count t
  · simp

set_option maxHeartbeats 8000000 in
set_option maxRecDepth 100000 in
theorem btexts_law (v : Value) (l : List ReqS) (s : Bs) (w : World) (hl : Lay w) (hr : Rd w w.heap.size 3 v l.length (l.flatMap ReqS.cells)) (hm : l.length ≤ 1048576) (hg : ∀ o ∈ l, o.Ok w) (hs : s.length ≤ 1048576) :
    Calls Tryd.prog 3 #[v, .string ⟨s.toArray⟩] w fun e w' => e = .returned (.bool true) ∧ Below w.heap.size w w' := by
  have HR : Hid (Rd w w.heap.size 3 v l.length (l.flatMap ReqS.cells)) := hr
  obtain ⟨_, A, c, rfl, _, _⟩ := hr
  obtain ⟨i0, hi0, hz0, hz1, hz2⟩ := info_parts infoS
  by_cases hbig : 100 < l.length
  · go_enter Tryd.func3, Tryd.ntmps3
    go_wp2_with fail
    refine (one_any w).mono ?_
    rintro e w1 ⟨rfl, hb1⟩
    go_wp2
    go_ret
    exact ⟨rfl, hb1⟩
  · by_cases hbs : 30000 < s.length
    · go_enter Tryd.func3, Tryd.ntmps3
      go_wp2_with fail
      refine (one_any w).mono ?_
      rintro e w1 ⟨rfl, hb1⟩
      go_wp2
      go_ret
      exact ⟨rfl, hb1⟩
    · go_enter Tryd.func3, Tryd.ntmps3
      go_wp2_with fail
      go_loopw [5, 6, 27] (fun o n i wr => ∃ (k : Nat) (A' : Option Addr) (c' sum : Nat), k ≤ l.length ∧ i = .int .i64 k ∧ o = .slice A' k c' ∧ n = .int .i64 sum ∧ sum ≤ 30000 ∧ Hid (((textsB (l.take k)).map List.length).sum = sum) ∧ Hid (wr.ownsRow w.heap.size 9 1 (.slice A' k c') k (strs (textsB (l.take k)))) ∧ Hid (Below w.heap.size w wr)) (fun _ _ i _ => l.length - (intOf i).toNat)
      case atStart => exact ⟨0, none, 0, 0, Nat.zero_le _, rfl, rfl, rfl, by omega, rfl, World.ownsRow_nil _ _ _ _, Below.refl _ _⟩
      case round =>
        obtain ⟨k, A', c', sum, hk, rfl, rfl, rfl, hsum, HS, HO, HB⟩ := hrel
        by_cases hlt : k < l.length
        · obtain ⟨g, off, c1, hV, hgl, q0, q1, q2⟩ := rd_reqs (HR.out.below HB.out) hlt
          injection hV with hA _ hcc
          subst hA
          clear hcc
          have HT := Lib.hid (textsB_take l k hlt)
          have HST := Lib.hid (sumT_take l k hlt)
          have hrs := (hg l[k] (List.getElem_mem hlt)).s
          have hsz := HB.out.size
          generalize l[k] = r at *
          obtain ⟨rc, rn, rs⟩ := r
          simp only at q0 q1 q2 HT HST hrs
          go_wp2_with (first
            | (at_builtin; refine wpList_append_own _ rfl _ _ 24 rfl w.heap.size 9 i0 _ 1 16 Tryd.underlying24 hi0 hz0 hz1 hz2 rfl (by omega) _ _ _ rfl ((HO.out.alloc _).alloc _) ⟨wr.heap.size + 1, 0, none⟩ 1 1 [.string ⟨rs.toArray⟩] rfl rfl (news_box (cs := #[.string ⟨rs.toArray⟩]) (by simp)) (by simp [Value.oneCell']) (by show _ ≤ 9223372036854775807; omega) (by omega) (by simp; omega) ?_; intro v' w6 hown' hgrow _; obtain ⟨g', cap', rfl⟩ := ownsRow_succ hown'; have hX6 := ((Blk.new wr 26 #[.int .i64 rc, .int .i64 rn, .string ⟨rs.toArray⟩]).alloc (.cells #[.string ⟨rs.toArray⟩] 9)).grown hgrow (fun e => by have := (HO.out.lt _ e.symm).2; omega); have x6 : w6.cell? ⟨wr.heap.size, 2, none⟩ = some (.string ⟨rs.toArray⟩) := hX6.cell 2; have hb6 := HB.out.trans ((((Below.refl w.heap.size wr).alloc hsz (.cells #[.int .i64 rc, .int .i64 rn, .string ⟨rs.toArray⟩] 26)).alloc (by simp; omega) (.cells #[.string ⟨rs.toArray⟩] 9)).grown hgrow (by simp; omega) (fun g e => (HO.out.lt g e).1)); have HB6 := Lib.hid hb6; clear hb6 hX6))
          · refine (one_any _).mono ?_
            rintro e w7 ⟨rfl, hb7⟩
            go_wp2
            go_ret
            exact ⟨rfl, HB6.out.trans (hb7.mono HB6.out.size)⟩
          · rename_i q
            refine ⟨⟨k + 1, some ⟨g', 0, none⟩, cap', sum + rs.length, by omega, by simp, rfl, by simp, by omega, ?_, ?_, HB6.out⟩, by simp [intOf]; omega⟩
            · unfold Hid
              rw [HST.out, HS.out]
            · unfold Hid
              rw [HT.out]
              simpa [strs] using hown'
        · obtain rfl : k = l.length := by omega
          rw [List.take_length] at HO HS
          have hT : Hid (∀ x ∈ textsB l, x.length ≤ 1048576) := by
            intro x hx
            obtain ⟨r, hr', rfl⟩ := List.mem_map.1 hx
            exact (hg r hr').s
          have hlen : (textsB l).length = l.length := by simp [textsB]
          have hpl := packB_len (textsB l) hT.out
          have hpl2 : (packB (textsB l)).length ≤ 60000 := by rw [HS.out] at hpl; omega
          have HTL := Lib.hid hlen
          have hup : unpackB (packB (textsB l)) = (textsB l, 0) := by
            unfold unpackB
            rw [unpack_pack _ (fun x hx => by have := hT.out x hx; omega)]
          have hbk : btextsB (packB (textsB l)) = if (textsB l).length ≤ 4 ∧ shortS (textsB l) = true then (textsB l, 0) else ([], 4) := by
            rw [btexts_is, hup]
            simp
          have HBK := Lib.hid hbk
          have hbc := btexts_count s
          clear hup hbk hlen hpl
          go_wp2_with fail
          refine (btext_any _ l _ (hl.later HB.out) ((HR.out.below HB.out).more HB.out.size) (by omega) (by omega)).mono ?_
          rintro e w1 ⟨rfl, hb1⟩
          have hb01 := HB.out.trans (hb1.mono HB.out.size)
          have HO1 := Lib.hid (own_below HO.out hb1)
          clear hb1
          go_wp2_with fail
          refine (btexts_any s (by omega) _ (hl.later hb01)).mono ?_
          rintro e w2 ⟨v2, rfl, hv2, hb2⟩
          obtain ⟨A2, c2, rfl⟩ := own_shape hv2
          have hb02 := hb01.trans (hb2.mono hb01.size)
          have HO2 := Lib.hid (own_below HO1.out hb2)
          clear HO1 hb2
          go_wp2_with fail
          refine (rbtexts_any s (by omega) _).mono ?_
          rintro e w3 ⟨v3, rfl, hv3, hb3⟩
          obtain ⟨A3, c3, rfl⟩ := own_shape hv3
          have hb03 := hb02.trans (hb3.mono hb02.size)
          have HO3 := Lib.hid (own_below HO2.out hb3)
          have HV2 := Lib.hid (own_below hv2 hb3)
          have HV3 := Lib.hid hv3
          clear HO2 hb3 hv2 hv3
          go_wp2_with fail
          refine (rpack_any _ (textsB l) w3.heap.size _ (Nat.le_refl _) (by rw [HTL.out]; exact Rd.of_own HO3.out) (by rw [HTL.out]; omega) (by omega)).mono ?_
          rintro e w4 ⟨rfl, hb4⟩
          have hb04 := hb03.trans (hb4.mono hb03.size)
          have HO4 := Lib.hid (own_below HO3.out hb4)
          have HV24 := Lib.hid (own_below HV2.out hb4)
          have HV34 := Lib.hid (own_below HV3.out hb4)
          clear HO3 HV2 HV3 hb4
          go_wp2_with fail
          refine (same_any _ _ (btextsB s).1 (btextsB s).1 w4.heap.size _ (Nat.le_refl _) (Rd.of_own HV24.out) (Rd.of_own HV34.out) (by omega) (by omega)).mono ?_
          rintro e w5 ⟨rfl, hb5⟩
          rw [decide_eq_true rfl]
          have hb05 := hb04.trans (hb5.mono hb04.size)
          have HO5 := Lib.hid (own_below HO4.out hb5)
          clear HO4 HV24 HV34 hb5
          have hB := btexts_any (packB (textsB l)) (by omega) w5 (hl.later hb05)
          by_cases hc : (textsB l).length ≤ 4 ∧ shortS (textsB l) = true
          · rw [HBK.out, if_pos hc] at hB
            have HBB := Lib.hid hB
            clear hB hc
            go_wp2_with fail
            refine HBB.out.mono ?_
            rintro e w6 ⟨v6, rfl, hv6, hb6⟩
            obtain ⟨A6, c6, rfl⟩ := own_shape hv6
            have hb06 := hb05.trans (hb6.mono hb05.size)
            have HO6 := Lib.hid (own_below HO5.out hb6)
            have HV6 := Lib.hid hv6
            clear HO5 hv6 hb6
            go_wp2_with fail
            refine (same_any _ _ (textsB l) (textsB l) w6.heap.size _ (Nat.le_refl _) (Rd.of_own HV6.out) (by rw [HTL.out]; exact Rd.of_own HO6.out) (by rw [HTL.out]; omega) (by rw [HTL.out]; omega)).mono ?_
            rintro e w7 ⟨rfl, hb7⟩
            rw [decide_eq_true rfl]
            have hb07 := hb06.trans (hb7.mono hb06.size)
            go_wp2_with fail
            refine (one_any _).mono ?_
            rintro e w8 ⟨rfl, hb8⟩
            go_wp2
            go_ret
            exact ⟨rfl, hb07.trans (hb8.mono hb07.size)⟩
          · rw [HBK.out, if_neg hc] at hB
            have HBB := Lib.hid hB
            clear hB hc
            go_wp2_with fail
            refine HBB.out.mono ?_
            rintro e w6 ⟨v6, rfl, hv6, hb6⟩
            obtain ⟨A6, c6, rfl⟩ := own_shape hv6
            have hb06 := hb05.trans (hb6.mono hb05.size)
            clear hv6 hb6
            go_wp2_with fail
            refine (one_any _).mono ?_
            rintro e w8 ⟨rfl, hb8⟩
            go_wp2
            go_ret
            exact ⟨rfl, hb06.trans (hb8.mono hb06.size)⟩

end Go.Proofs.YtamlfapdifocoaaDoor
