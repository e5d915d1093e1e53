/- The document's moot as a text. -/
import Derived.Test.YtijacbnoemjgcaaDoorPt46
set_option linter.unusedVariables false
set_option linter.unusedSimpArgs false
set_option linter.unnecessarySimpa false
namespace Go.Proofs.YtijacbnoemjgcaaDoor
open Go.RowKit Go.Shelf

set_option maxHeartbeats 4000000 in
set_option maxRecDepth 100000 in
theorem rmtext_any (base m : Nat) (lv cvv : Value) (s : Mt) (C : List Cli) (w : World) (hp : RMtP base w m lv cvv s.tk C) (hk : MtOk s) (hag : AgC s.cl C) (hC : C.length ≤ 1000) :
    Calls Tryd.prog 11 #[.pointer (some ⟨m, 0, none⟩)] w fun e w' => e = .returned (.string ⟨(mtxt s.tk s.cl).toArray⟩) ∧ Below w.heap.size w w' := by
  have hm := hp
  have HM := Lib.hid hm
  have HRW := Lib.hid (Rd.of_own hm.row)
  have HAG := Lib.hid hag
  have hparts := mtxt_parts hk
  have hlen : s.tk.length ≤ 40 := by have := hk.len; have := hk.l41; omega
  have HIN := Lib.hid hk.tin
  have HCL := Lib.hid hk.cl
  have HPR := Lib.hid hparts
  obtain ⟨i0, hi0, hz0, hz1, hz2⟩ := info_parts infoS
  obtain ⟨Av, cv, rfl⟩ := own_shape hm.row
  have b1 : w.cell? ⟨m, 0, none⟩ = some (.slice Av s.tk.length cv) := hm.box.cell 0
  obtain ⟨scs, tk, cl⟩ := s
  simp only at *
  clear hm hk hparts hp hag
  go_enter Tryd.func11, Tryd.ntmps11
  go_wp2_with fail
  go_loopw [3, 14] (fun o i wr => ∃ (k : Nat) (A' : Option Addr) (n c' : Nat), k ≤ tk.length ∧ i = .int .i64 k ∧ o = .slice A' n c' ∧ n ≤ 3 * k ∧ Hid (TxP w A' n c' (cmdsB (tk.take k)) wr)) (fun _ i _ => tk.length - (intOf i).toNat)
  case atStart => exact ⟨0, none, 0, 0, Nat.zero_le _, rfl, rfl, by omega, TxP.nil w⟩
  case round =>
    obtain ⟨k, A', n, c', hk, rfl, rfl, hn3, HT⟩ := hrel
    have hwsz := HT.out.bel.size
    by_cases hlt : k < tk.length
    · obtain ⟨g, off, c1, hV, hg, q0, q1, q2⟩ := rd_cmd (HRW.out.below HT.out.bel) hlt
      injection hV with hA _ hcc
      subst hA
      clear hcc
      have hsn := Lib.hid (cmdsB_take tk k hlt)
      obtain ⟨⟨x0, x1⟩, ⟨x2, x3⟩, ⟨x4, x5⟩⟩ := HIN.out tk[k] (List.getElem_mem hlt)
      generalize tk[k] = x at *
      obtain ⟨kind, group, shard⟩ := x
      simp only [cmdT] at *
      go_upto_region 5 with fail
      have hX := Blk.new wr 41 #[.int .i64 kind, .int .i64 group, .int .i64 shard]
      have hb0 := (Below.refl wr.heap.size wr).alloc (Nat.le_refl _) (.cells #[.int .i64 kind, .int .i64 group, .int .i64 shard] 41)
      have HTW := Lib.hid (HT.out.more hb0)
      clear q0 q1 q2 hb0 HT b1
      generalize wr.heap.size = b at *
      generalize wr.alloc (.cells #[.int .i64 kind, .int .i64 group, .int .i64 shard] 41) = W at *
      have HX := Lib.hid hX
      clear hX
      have hone := Lib.hid (tri_one (kind, group, shard))
      go_region_held3 (fun w' => w'.cell? ⟨b, 0, none⟩ = some (.int .i64 kind) ∧ w'.cell? ⟨b, 1, none⟩ = some (.int .i64 group) ∧ w'.cell? ⟨b, 2, none⟩ = some (.int .i64 shard))
        ((first | (refine keep3U HX.out ?_; simp only [bl_drew, bl_alloc, bl_refl, *]; done) | (with_reducible exact hxc)))
        ((first
          | (go_at_call 22; have hq := hbl2; refine Calls.mono (rnum_any shard x4 x5 _) ?_; rintro e w3 ⟨rfl, hb3⟩; have hbl3 : Below W.heap.size W w3 := below_then hbl2 hb3; have hT3 := HTW.out.more hbl3; have hs3 := hT3.bel.size)
          | (go_at_call 22; have hq := hbl1; refine Calls.mono (rnum_any group x2 x3 _) ?_; rintro e w2 ⟨rfl, hb2⟩; have hbl2 : Below W.heap.size W w2 := below_then hbl1 hb2)
          | (go_at_call 22; have hq : Below W.heap.size W W.drew := (by simp only [bl_drew, bl_refl]); refine Calls.mono (rnum_any kind x0 x1 _) ?_; rintro e w1 ⟨rfl, hb1⟩; have hbl1 : Below W.heap.size W w1 := below_then hq hb1)
          | (have hq := hbl3; (refine step_append_lies _ (by rfl) (.tmp 18) (.tmp 28) _ (by rfl) w.heap.size 9 i0 _ 1 16 Tryd.underlying71 hi0 hz0 hz1 hz2 (by rfl) (by omega) (.slice A' n c') n (strs (cmdsB (tk.take k))) (by simp [Act.eval]) (hT3.own.alloc _) ⟨w3.heap.size, 0, none⟩ 3 3 (strs (triB (kind, group, shard))) (by simp [Act.eval]) (by rfl) (World.news_of_block (heap_alloc_new _ _)) hone.out (by omega) (by unfold maxLen; omega) (by omega) (by simp; omega) (w3.heap.size + 1) (by simp) ?_; intro g2 cap2 w4 hown4 hg4 hat4 hlt4; have hxc := keep3U (((HX.out.below hbl3 HX.out.lt).alloc _).grown hg4 (fun e => own_blk_ne hT3.own (HX.out.below hbl3 HX.out.lt) (by decide) e.symm)) (Below.refl _ _)))))
      all_goals
        have hfin := Lib.hid (hT3.push (kind, group, shard) hg4 hown4)
        clear hown4 hg4 hat4 hlt4 hT3
        go_wp2_with fail
        refine ⟨⟨k + 1, some ⟨g2, 0, none⟩, n + 3, cap2, by omega, by simp, rfl, by omega, ?_⟩, by simp [intOf]; omega⟩
        unfold Hid
        rw [hsn.out]
        exact hfin.out
    · obtain rfl : k = tk.length := by omega
      rw [List.take_length] at HT
      obtain ⟨wo, rfl⟩ : ∃ wo : World, wo = wr := ⟨_, rfl⟩
      have HMo := Lib.hid (HM.out.below HT.out.bel)
      clear b1 hlt
      go_wp2_with fail
      go_loopw [6, 7] (fun o i wr => ∃ (k : Nat) (A2 : Option Addr) (n2 c2 : Nat), k ≤ 8 ∧ i = .int .i64 k ∧ o = .slice A2 n2 c2 ∧ n2 ≤ 3 * k ∧ Hid (TxP wo A2 n2 c2 (clisB cl k) wr)) (fun _ i _ => 8 - (intOf i).toNat)
      case atStart => exact ⟨0, none, 0, 0, Nat.zero_le _, rfl, rfl, by omega, TxP.nil wo⟩
      case round =>
        obtain ⟨k, A2, n2, c2, hk8, rfl, rfl, hn8, HT2⟩ := hrel
        have hwsz2 := HT2.out.bel.size
        by_cases hlt : k < 8
        · have hof : ∀ w1 : World, Below wo.heap.size wo w1 → Calls Tryd.prog 18 #[.pointer (some ⟨m, 0, none⟩), .int .i64 (k : Int)] w1 fun e w' => ∃ xc, e = .returned (.agg #[.int .i64 xc, .int .i64 (cl k).1, .int .i64 (cl k).2]) ∧ Below w1.heap.size w1 w' := fun w1 hb => (rof_any base m _ cvv tk C k w1 (HMo.out.below hb) hC).mono (fun e w' h => by
            obtain ⟨h1, h2⟩ := HAG.out k hlt
            rw [h1, h2] at h
            exact ⟨_, h.1, h.2⟩)
          have HOF := Lib.hid hof
          have k8 : (k : Int) < 8 := by omega
          clear hof
          go_wp2_with fail
          refine (HOF.out wr HT2.out.bel).mono ?_
          rintro e W0 ⟨xc, rfl, hb9⟩
          have hX := Blk.new W0 68 #[.int .i64 xc, .int .i64 (cl k).1, .int .i64 (cl k).2]
          have hb0 := (Below.refl W0.heap.size W0).alloc (Nat.le_refl _) (.cells #[.int .i64 xc, .int .i64 (cl k).1, .int .i64 (cl k).2] 68)
          have HTW := Lib.hid ((HT2.out.more hb9).more hb0)
          have HX := Lib.hid hX
          have HW9 := Lib.hid hb9.size
          clear hb0 hX hb9 HOF
          by_cases h0 : 0 < (cl k).1
          · have hsn := Lib.hid (cliB_yes h0)
            have hbd : (1 ≤ (cl k).1 ∧ (cl k).1 ≤ 1099511627776 ∧ 0 ≤ (cl k).2 ∧ (cl k).2 ≤ 999) := by
              rcases HCL.out k with e | ⟨_, e⟩
              · rw [e] at h0; simp at h0
              · exact e
            obtain ⟨y0, y1, y2, y3⟩ := hbd
            go_upto_region 13 with fail
            clear HT2
            generalize W0.heap.size = b at *
            generalize (cl k).1 = cn at *
            generalize (cl k).2 = ca at *
            generalize W0.alloc (.cells #[.int .i64 xc, .int .i64 cn, .int .i64 ca] 68) = W at *
            have hone := Lib.hid (tri_one ((k : Int), cn, ca))
            go_region_held3 (fun w' => w'.cell? ⟨b, 0, none⟩ = some (.int .i64 xc) ∧ w'.cell? ⟨b, 1, none⟩ = some (.int .i64 cn) ∧ w'.cell? ⟨b, 2, none⟩ = some (.int .i64 ca))
              ((first | (refine keep3U HX.out ?_; simp only [bl_drew, bl_alloc, bl_refl, *]; done) | (with_reducible exact hxc)))
              ((first
                | (go_at_call 22; have hq := hbl2; refine Calls.mono (rnum_any ca (by omega) (by omega) _) ?_; rintro e w3 ⟨rfl, hb3⟩; have hbl3 : Below W.heap.size W w3 := below_then hbl2 hb3; have hT3 := HTW.out.more hbl3; have hs3 := hT3.bel.size)
                | (go_at_call 22; have hq := hbl1; refine Calls.mono (rnum_any cn (by omega) (by omega) _) ?_; rintro e w2 ⟨rfl, hb2⟩; have hbl2 : Below W.heap.size W w2 := below_then hbl1 hb2)
                | (go_at_call 22; have hq : Below W.heap.size W W.drew := (by simp only [bl_drew, bl_refl]); refine Calls.mono (rnum_any (k : Int) (by omega) (by omega) _) ?_; rintro e w1 ⟨rfl, hb1⟩; have hbl1 : Below W.heap.size W w1 := below_then hq hb1)
                | (have hq := hbl3; (refine step_append_lies _ (by rfl) (.tmp 41) (.tmp 50) _ (by rfl) wo.heap.size 9 i0 _ 1 16 Tryd.underlying71 hi0 hz0 hz1 hz2 (by rfl) (by omega) (.slice A2 n2 c2) n2 (strs (clisB cl k)) (by simp [Act.eval]) (hT3.own.alloc _) ⟨w3.heap.size, 0, none⟩ 3 3 (strs (triB ((k : Int), cn, ca))) (by simp [Act.eval]) (by rfl) (World.news_of_block (heap_alloc_new _ _)) hone.out (by omega) (by unfold maxLen; omega) (by omega) (by simp; omega) (w3.heap.size + 1) (by simp) ?_; intro g2 cap2 w4 hown4 hg4 hat4 hlt4; have hxc := keep3U (((HX.out.below hbl3 HX.out.lt).alloc _).grown hg4 (fun e => own_blk_ne hT3.own (HX.out.below hbl3 HX.out.lt) (by decide) e.symm)) (Below.refl _ _)))))
            all_goals
              have hfin := Lib.hid (hT3.push ((k : Int), cn, ca) hg4 hown4)
              clear hown4 hg4 hat4 hlt4 hT3
              go_wp2_with fail
              refine ⟨⟨k + 1, some ⟨g2, 0, none⟩, n2 + 3, cap2, by omega, by simp, rfl, by omega, ?_⟩, by simp [intOf]; omega⟩
              unfold Hid
              rw [hsn.out]
              exact hfin.out
          · have hsn := Lib.hid (cliB_no h0)
            have hd : decide (0 < (cl k).1) = false := decide_eq_false h0
            clear h0
            go_wp2_with fail
            refine ⟨⟨k + 1, A2, n2, c2, by omega, by simp, rfl, by omega, ?_⟩, by simp [intOf]; omega⟩
            unfold Hid
            rw [hsn.out]
            exact HTW.out
        · obtain rfl : k = 8 := by omega
          have HOc := Lib.hid (Rd.of_own (own_below HT.out.own HT2.out.bel))
          have HOk := Lib.hid (Rd.of_own HT2.out.own)
          have hc1 := HT.out.len
          have hc2 := HT2.out.len
          have HBR := Lib.hid (HT.out.bel.trans (HT2.out.bel.mono HT.out.bel.size))
          have hcc := Lib.hid (cmdsB_length tk)
          have HP1 : Hid ((packB (cmdsB tk)).length ≤ 140737488355328) := Nat.le_trans HPR.out.1 (by omega)
          have HP2 : Hid ((packB (clisB cl 8)).length ≤ 140737488355328) := Nat.le_trans HPR.out.2.1 (by omega)
          have HP3 : Hid ((packB [packB (cmdsB tk), packB (clisB cl 8)]).length ≤ 140737488355328) := Nat.le_trans HPR.out.2.2 (by omega)
          rw [hc1] at HOc
          rw [hc2] at HOk
          subst hc1 hc2
          generalize hcm : cmdsB tk = cm at *
          generalize hck : clisB cl 8 = ck at *
          have HTXT : Hid (mtxt tk cl = packB [packB cm, packB ck]) := by unfold Hid mtxt; rw [hcm, hck]
          clear HT HT2 hcm hck HPR hlt
          go_wp2_with fail
          refine (rpack_any _ cm wr.heap.size _ (Nat.le_refl _) HOc.out (by omega) HP1.out).mono ?_
          rintro e w1 ⟨rfl, hb1⟩
          have HOk1 := Lib.hid (HOk.out.below hb1)
          have HBR1 := Lib.hid (HBR.out.trans (hb1.mono HBR.out.size))
          have hs1 := hb1.size
          clear hb1 HOk
          go_wp2_with fail
          refine (rpack_any _ ck wr.heap.size _ hs1 HOk1.out (by omega) HP2.out).mono ?_
          rintro e w2 ⟨rfl, hb2⟩
          have HBR2 := Lib.hid (HBR1.out.trans (hb2.mono HBR1.out.size))
          clear hb2
          have hb3 := (Below.refl w2.heap.size w2).alloc (Nat.le_refl _) (.cells #[.string ⟨(packB cm).toArray⟩, .string ⟨(packB ck).toArray⟩] 9)
          have HBR3 := Lib.hid (HBR2.out.trans (hb3.mono HBR2.out.size))
          go_wp2_with fail
          refine (rpack_any _ [packB cm, packB ck] (w2.heap.size + 1) _ (by simp) (rd_newU w2 [packB cm, packB ck] _ rfl 2 rfl) (by simp) HP3.out).mono ?_
          rintro e w4 ⟨rfl, hb4⟩
          go_wp2
          go_ret
          exact ⟨by rw [HTXT.out]; rfl, HBR3.out.trans (hb4.mono HBR3.out.size)⟩

end Go.Proofs.YtijacbnoemjgcaaDoor
