/- The reference: Encode. -/
import Derived.Test.YtkmhimaeakbpoaaDoorPe33
import Derived.Test.YtkmhimaeakbpoaaDoorPe38
import Derived.Test.YtkmhimaeakbpoaaDoorPe36
set_option linter.unusedVariables false
set_option linter.unusedSimpArgs false
set_option linter.unnecessarySimpa false
namespace Go.Proofs.YtkmhimaeakbpoaaDoor
open Go.RowKit Go.Shelf

set_option maxHeartbeats 4000000 in
set_option maxRecDepth 100000 in
theorem renc_any (c : Crt) (v : Value) (w : World) (B : Nat) (hB : B ≤ w.heap.size) (hr : Rd w B 2 v c.tags.length (cellsT c.tags)) (hm : c.tags.length ≤ 1048576) (ht : c.t.length ≤ 1048576) :
    Calls Tryd.prog 19 #[.agg #[.string ⟨c.t.toArray⟩, .int .i64 c.g, v]] w fun e w' => e = .returned (.tuple #[.string ⟨(encS c).1.toArray⟩, .int .i64 (encS c).2]) ∧ Below w.heap.size w w' := by
  obtain ⟨A, cc, rfl⟩ : ∃ A cc, v = .slice A c.tags.length cc := by obtain ⟨_, A, cc, rfl, _⟩ := hr; exact ⟨_, _, rfl⟩
  have hb0 := (Below.refl w.heap.size w).alloc (Nat.le_refl _) (.cells #[.string ⟨c.t.toArray⟩, .int .i64 c.g, .slice A c.tags.length cc] 36)
  have HBX := Lib.hid (Blk.new w 36 #[.string ⟨c.t.toArray⟩, .int .i64 c.g, .slice A c.tags.length cc])
  have hF := rform_any c (.slice A c.tags.length cc) (w.alloc (.cells #[.string ⟨c.t.toArray⟩, .int .i64 c.g, .slice A c.tags.length cc] 36)) w.heap.size hb0.size ((hr.more hB).below hb0) hm
  have HR := Lib.hid (hr.more hB)
  have HB0 := Lib.hid hb0
  obtain ⟨i0, hi0, hz0, hz1, hz2⟩ := info_parts infoSY
  clear hb0 hr
  by_cases hf : formS c = 0
  · have HE : Hid (encS c = (packB (crtL c), 0)) := by unfold Hid encS; rw [if_pos hf]
    obtain ⟨hlen, hcnt⟩ := crtL_len hf ht hm
    obtain ⟨f1, f2, f3⟩ := form_in hf
    have HT := Lib.hid (tagsE_in f3)
    have HLN := Lib.hid hlen
    have hg1 : -9223372036854775808 ≤ c.g := by omega
    have hg2 : c.g ≤ 9223372036854775807 := by omega
    rw [hf] at hF
    clear hf f1 f2 f3 hlen
    go_enter Tryd.func19, Tryd.ntmps19
    go_wp2_with fail
    refine hF.mono ?_
    rintro e W ⟨rfl, hb1⟩
    have HBW := Lib.hid (HB0.out.trans (hb1.mono HB0.out.size))
    have HX := Lib.hid (HBX.out.below hb1 HBX.out.lt)
    clear hb1 hF HB0 HBX
    go_upto_region 4 with fail
    go_cut [5] (fun o wc => ∃ b, o = .slice (some ⟨b, 0, none⟩) 2 2 ∧ TxL w (some ⟨b, 0, none⟩) 2 2 (crtLk c 0) wc ∧ Below W.heap.size W wc)
    case first =>
      go_region_held3 (fun w' => w'.cell? ⟨w.heap.size, 0, none⟩ = some (.string ⟨c.t.toArray⟩) ∧ w'.cell? ⟨w.heap.size, 1, none⟩ = some (.int .i64 c.g) ∧ w'.cell? ⟨w.heap.size, 2, none⟩ = some (.slice A c.tags.length cc))
        ((refine keep3Y HX.out ?_; simp only [bl_drew, bl_alloc, bl_refl, *]))
        ((go_at_call 39; refine Calls.mono (rnum_any c.g hg1 hg2 _) ?_; rintro e w1 ⟨rfl, hb1⟩; have hbl1 : Below W.heap.size W w1 := below_then (by simp only [bl_drew, bl_refl]) hb1; have hbk1 : Below w.heap.size w w1 := HBW.out.trans (hbl1.mono HBW.out.size)))
      all_goals
        go_wp2_with fail
        go_meet
        case rel => exact ⟨_, rfl, TxL.made hbk1 _ _ rfl 2 rfl (by unfold maxLen; omega), below_al hbl1 _⟩
    case rest =>
      obtain ⟨b, rfl, htx, hbl⟩ := hcut
      have hx := HX.out.below hbl HX.out.lt
      have x2 : wc.cell? ⟨w.heap.size, 2, none⟩ = some (.slice A c.tags.length cc) := hx.cell 2
      have HTX := Lib.hid htx
      clear htx hx hbl HX
      go_wp2_with fail
      go_loopw [5, 22] (fun o i wr => ∃ (k : Nat) (A' : Option Addr) (n c' : Nat), k ≤ c.tags.length ∧ i = .int .i64 k ∧ o = .slice A' n c' ∧ n ≤ 2 + k * 2 ∧ Hid (TxL w A' n c' (crtLk c k) wr)) (fun _ i _ => c.tags.length - (intOf i).toNat)
      case atStart => exact ⟨0, _, 2, 2, Nat.zero_le _, rfl, rfl, by omega, HTX.out⟩
      case round =>
        obtain ⟨k, A', n, c', hk, rfl, rfl, hn, HTT⟩ := hrel
        clear HTX
        by_cases hlt : k < c.tags.length
        · obtain ⟨g, off, c1, hV, hg, q0, q1⟩ := rd_tag (HR.out.below HTT.out.bel) hlt
          injection hV with hA _ hcc
          subst hA
          clear hcc
          have hsn := Lib.hid (crtLk_succ c k hlt)
          obtain ⟨y0, y1, y2, _⟩ := HT.out c.tags[k] (List.getElem_mem hlt)
          generalize crtLk c k = Lk at *
          generalize c.tags[k] = x at *
          obtain ⟨no, s⟩ := x
          simp only at q0 q1 y0 y1 y2 hsn
          have hone := Lib.hid (strs_one (tagB (no, s)))
          have n1 : -9223372036854775808 ≤ no := by omega
          have n2 : no ≤ 9223372036854775807 := by omega
          go_upto_region 8 with fail
          have hX := Blk.new wr 75 #[.int .i64 no, .string ⟨s.toArray⟩]
          have hb0 := (Below.refl wr.heap.size wr).alloc (Nat.le_refl _) (.cells #[.int .i64 no, .string ⟨s.toArray⟩] 75)
          have HTW := Lib.hid (HTT.out.more hb0)
          have hwsz := HTT.out.bel.size
          clear q0 q1 hb0 HTT x2
          generalize wr.heap.size = b2 at *
          generalize wr.alloc (.cells #[.int .i64 no, .string ⟨s.toArray⟩] 75) = W2 at *
          have HX := Lib.hid hX
          clear hX
          go_region_held3 (fun w' => w'.cell? ⟨b2, 0, none⟩ = some (.int .i64 no) ∧ w'.cell? ⟨b2, 1, none⟩ = some (.string ⟨s.toArray⟩))
            ((first | (refine keep2Y HX.out ?_; simp only [bl_drew, bl_alloc, bl_refl, *]; done) | (with_reducible exact hxc)))
            ((first
              | (go_at_call 39; have hq : Below W2.heap.size W2 W2.drew := (by simp only [bl_drew, bl_refl]); refine Calls.mono (rnum_any no n1 n2 _) ?_; rintro e w3 ⟨rfl, hb3⟩; have hbl3 : Below W2.heap.size W2 w3 := below_then hq hb3; have hT3 := HTW.out.more hbl3; have hs3 := hT3.bel.size)
              | (have hq := hbl3; (refine step_append_lies _ (by rfl) (.tmp 26) (.tmp 32) _ (by rfl) w.heap.size 9 i0 _ 1 16 Tryd.underlying84 hi0 hz0 hz1 hz2 (by rfl) (by omega) (.slice A' n c') n (strs Lk) (by simp [Act.eval]) (hT3.own.alloc _) ⟨w3.heap.size, 0, none⟩ 2 2 (strs (tagB (no, s))) (by simp [Act.eval]) (by rfl) (World.news_of_block (heap_alloc_new _ _)) hone.out (by omega) (by unfold maxLen; omega) (by omega) (by simp; omega) (w3.heap.size + 1) (by simp) ?_; intro g2 cap2 w4 hown4 hg4 hat4 hlt4; have hxc := keep2Y (((HX.out.below hbl3 HX.out.lt).alloc _).grown hg4 (fun e => own_blk_ne hT3.own (HX.out.below hbl3 HX.out.lt) (by decide) e.symm)) (Below.refl _ _)))))
          all_goals
            have hfin := Lib.hid (hT3.push (tagB (no, s)) rfl hg4 hown4)
            clear hown4 hg4 hat4 hlt4 hT3
            go_wp2_with fail
            refine ⟨⟨k + 1, some ⟨g2, 0, none⟩, n + 2, cap2, by omega, by simp, rfl, by omega, ?_⟩, by simp [intOf]; omega⟩
            unfold Hid
            rw [hsn.out]
            exact hfin.out
        · obtain rfl : k = c.tags.length := by omega
          have hq := crtLk_all c
          rw [hq] at HTT
          have hle := HTT.out.len
          subst hle
          have hrd := Rd.of_own HTT.out.own
          have HB := Lib.hid HTT.out.bel
          have HRD := Lib.hid hrd
          have hcn : (crtL c).length ≤ 1000000000000 := by omega
          clear hq HTT hrd hn hlt x2 hcnt
          generalize crtL c = L at *
          go_wp2_with fail
          refine (rpack_any _ L _ _ (Nat.le_refl _) HRD.out hcn HLN.out).mono ?_
          rintro e w2 ⟨rfl, hb2⟩
          go_wp2
          go_ret2
          exact ⟨by rw [HE.out]; rfl, HB.out.trans (hb2.mono HB.out.size)⟩
  · have HE : Hid (encS c = ([], formS c)) := by unfold Hid encS; rw [if_neg hf]
    have hne : (formS c != 0) = true := by simpa using hf
    generalize formS c = f at *
    clear hf
    go_enter Tryd.func19, Tryd.ntmps19
    go_wp2_with fail
    refine hF.mono ?_
    rintro e W ⟨rfl, hb1⟩
    have HB := Lib.hid (HB0.out.trans (hb1.mono HB0.out.size))
    clear hb1
    go_wp2
    go_ret2
    exact ⟨by rw [HE.out]; rfl, HB.out⟩


end Go.Proofs.YtkmhimaeakbpoaaDoor
