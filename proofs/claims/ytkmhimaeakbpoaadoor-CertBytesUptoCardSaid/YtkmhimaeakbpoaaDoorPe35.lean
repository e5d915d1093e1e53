/- cert.Decode: the walk (printed by tools/gen_yv.py). -/
import Derived.Test.YtkmhimaeakbpoaaDoorPe31
import Derived.Test.YtkmhimaeakbpoaaDoorPe34
set_option linter.unusedVariables false
set_option linter.unusedSimpArgs false
set_option linter.unnecessarySimpa false
namespace Go.Proofs.YtkmhimaeakbpoaaDoor
open Go.RowKit Go.Shelf
attribute [local go_sem] Oper.semAt_some

set_option maxHeartbeats 8000000 in
set_option maxRecDepth 100000 in
theorem decode_any (b : Bs) (hb : b.length ≤ 1048576) (w : World) (hl : Lay w) :
    Calls Tryd.prog 20 #[.string ⟨b.toArray⟩] w (CrtOut w (decS b)) := by
  unfold CrtOut
  have I0 := DecI.start w
  have hz0 : ((w.alloc (.cells #[.string ⟨#[]⟩, .int .i64 0, .slice none 0 0] 24)).alloc (.cells #[.int .i64 0] 31)).heap.size = w.heap.size + 2 := by simp
  have hU := unpack_any b (by omega) _ (hl.later I0.bel)
  have HSM := Lib.hid (unpackB_small b)
  have HI0 := Lib.hid I0
  have HZ0 := Lib.hid hz0
  clear I0 hz0
  by_cases he : (unpackB b).2 = 0
  · have HD := Lib.hid (decS_list he)
    rw [he] at hU
    clear he
    generalize (unpackB b).1 = l at *
    by_cases h2 : l.length < 2
    · have HE : Hid (decS b = (crt0, 4)) := by unfold Hid; rw [HD.out, decL_short h2]
      have hi2 : (l.length : Int) < 2 := by omega
      refine (callsIn_wide (n := 6)).1 ?_
      refine callsIn_of_wp_marks Tryd.func20 rfl trivial ?_ rfl
      simp only [Tryd.ntmps20, List.size_toArray, List.length_cons, List.length_nil, Nat.reduceAdd, Nat.reduceSub, Array.replicate_succ, Array.replicate_zero, List.push_toArray, List.append_toArray, List.nil_append, List.cons_append]
      gi_wp2_with fail
      refine ⟨trivial, ?_⟩
      refine (callsIn_wide.2 hU).mono ?_
      rintro e w1 ⟨v, rfl, hv, hb1⟩
      obtain ⟨A, c, rfl⟩ := own_shape hv
      have HI1 := Lib.hid (HI0.out.below hb1 (by rw [HZ0.out]; omega))
      have r0 := HI1.out.z
      have r1 := HI1.out.e
      have x0 := r0.frozen 0
      have x1 := r0.frozen 1
      have x2 := r0.frozen 2
      have x3 := r1.frozen 0
      have v0 : w1.cell? ⟨w.heap.size, 0, none⟩ = some (.string ⟨#[]⟩) := r0.cell 0
      have v1 : w1.cell? ⟨w.heap.size, 1, none⟩ = some (.int .i64 0) := r0.cell 1
      have v2 : w1.cell? ⟨w.heap.size, 2, none⟩ = some (.slice none 0 0) := r0.cell 2
      have v3 : w1.cell? ⟨w.heap.size + 1, 0, none⟩ = some (.int .i64 0) := r1.cell 0
      have HX := Lib.hid (HI1.out.exit 4)
      clear r0 r1
      clear hU hv hb1 HI0 h2
      gi_wp2
      have hx := HX.out
      have z0 := hx.z.cell 0
      have z1 := hx.z.cell 1
      have z2 := hx.z.cell 2
      have z3 := hx.e.cell 0
      refine ⟨.tuple #[.agg #[.string ⟨#[]⟩, .int .i64 0, .slice none 0 0], .int .i64 4], ?_, none, 0, by rw [HE.out]; rfl, by rw [HE.out]; exact World.ownsRow_nil _ _ _ _, hx.bel⟩
      simp [results, Tryd.results20, go_sem, z0, z1, z2, z3]
    have hi2 : decide ((l.length : Int) < 2) = false := by rw [decide_eq_false_iff_not]; omega
    by_cases ho : l.length % 2 = 1
    · have HE : Hid (decS b = (crt0, 4)) := by unfold Hid; rw [HD.out, decL_odd ho]
      have hi3 : ((l.length : Int) % 2 != 0) = true := by simp only [bne_iff_ne, ne_eq]; omega
      clear h2 ho
      refine (callsIn_wide (n := 6)).1 ?_
      refine callsIn_of_wp_marks Tryd.func20 rfl trivial ?_ rfl
      simp only [Tryd.ntmps20, List.size_toArray, List.length_cons, List.length_nil, Nat.reduceAdd, Nat.reduceSub, Array.replicate_succ, Array.replicate_zero, List.push_toArray, List.append_toArray, List.nil_append, List.cons_append]
      gi_wp2_with fail
      refine ⟨trivial, ?_⟩
      refine (callsIn_wide.2 hU).mono ?_
      rintro e w1 ⟨v, rfl, hv, hb1⟩
      obtain ⟨A, c, rfl⟩ := own_shape hv
      have HI1 := Lib.hid (HI0.out.below hb1 (by rw [HZ0.out]; omega))
      have r0 := HI1.out.z
      have r1 := HI1.out.e
      have x0 := r0.frozen 0
      have x1 := r0.frozen 1
      have x2 := r0.frozen 2
      have x3 := r1.frozen 0
      have v0 : w1.cell? ⟨w.heap.size, 0, none⟩ = some (.string ⟨#[]⟩) := r0.cell 0
      have v1 : w1.cell? ⟨w.heap.size, 1, none⟩ = some (.int .i64 0) := r0.cell 1
      have v2 : w1.cell? ⟨w.heap.size, 2, none⟩ = some (.slice none 0 0) := r0.cell 2
      have v3 : w1.cell? ⟨w.heap.size + 1, 0, none⟩ = some (.int .i64 0) := r1.cell 0
      have HX := Lib.hid (HI1.out.exit 4)
      clear r0 r1
      clear hU hv hb1 HI0
      gi_wp2
      have hx := HX.out
      have z0 := hx.z.cell 0
      have z1 := hx.z.cell 1
      have z2 := hx.z.cell 2
      have z3 := hx.e.cell 0
      refine ⟨.tuple #[.agg #[.string ⟨#[]⟩, .int .i64 0, .slice none 0 0], .int .i64 4], ?_, none, 0, by rw [HE.out]; rfl, by rw [HE.out]; exact World.ownsRow_nil _ _ _ _, hx.bel⟩
      simp [results, Tryd.results20, go_sem, z0, z1, z2, z3]
    have hi3 : ((l.length : Int) % 2 != 0) = false := by simp only [bne_eq_false_iff_eq]; omega
    obtain ⟨t, g, ll, HL, q, HQ, hq9⟩ : ∃ t g ll, Hid (l = t :: g :: ll) ∧ ∃ q, Hid (ll.length = 2 * q) ∧ q ≤ 1048576 := by
      match l, h2, ho, HSM with
      | [], h2, _, _ => simp at h2
      | [_], h2, _, _ => simp at h2
      | t :: g :: ll, _, ho, hs => exact ⟨t, g, ll, rfl, ll.length / 2, by unfold Hid; simp at ho; omega, by have := hs.out.1; simp at this; omega⟩
    have hll : l.length = 2 + 2 * q := by rw [HL.out]; simp [HQ.out]; omega
    have HLL := Lib.hid hll
    have hi4 : (2 : Int) ≤ (l.length : Int) := by omega
    have hi5 : (1 : Int) < (l.length : Int) := by omega
    have hi6 : (0 : Int) < (l.length : Int) := by omega
    have hg1 := HSM.out.2 g (by rw [HL.out]; simp)
    have hmix : Tryd.prog.follows .mixedOrders = true := by kernel_rfl
    clear h2 ho hll
    by_cases hn : (toNumB g).2 = 0
    · refine (callsIn_wide (n := 6)).1 ?_
      refine callsIn_of_wp_marks Tryd.func20 rfl trivial ?_ rfl
      simp only [Tryd.ntmps20, List.size_toArray, List.length_cons, List.length_nil, Nat.reduceAdd, Nat.reduceSub, Array.replicate_succ, Array.replicate_zero, List.push_toArray, List.append_toArray, List.nil_append, List.cons_append]
      gi_wp2_with fail
      refine ⟨trivial, ?_⟩
      refine (callsIn_wide.2 hU).mono ?_
      rintro e w1 ⟨v, rfl, hv, hb1⟩
      obtain ⟨A, c, rfl⟩ := own_shape hv
      have HI1 := Lib.hid (HI0.out.below hb1 (by rw [HZ0.out]; omega))
      rcases hv.2 with ⟨_, h1⟩ | ⟨gb, cap, cur, hVe, hbg, hgg, hnc, hcm, _⟩
      · omega
      injection hVe with hA _ hcc
      subst hA hcc
      have hrd := Rd.of_own hv
      have hlt1 : 1 < l.length := by omega
      have hlt0 : 0 < l.length := by omega
      obtain ⟨gb', off, c', hV, hgb, q1⟩ := rd_gets hrd hlt1
      injection hV with hA _ hcc
      injection hA with hA
      injection hA with hA1 hA2 hA3
      subst hA1 hA2
      clear hcc hA3
      obtain ⟨gb', off, c', hV, hgb', q0⟩ := rd_gets hrd hlt0
      injection hV with hA _ hcc
      injection hA with hA
      injection hA with hA1 hA2 hA3
      subst hA1 hA2
      clear hcc hA3
      rw [get1Y HL.out] at q1
      rw [get0Y HL.out] at q0
      have HRD := Lib.hid hrd
      have hN := toNum_any g (by omega) w1 (hl.later HI1.out.bel)
      rw [hn] at hN
      have HN := Lib.hid hn
      obtain ⟨gn, HGN⟩ : ∃ gn, Hid ((toNumB g).1 = gn) := ⟨_, rfl⟩
      rw [HGN.out] at hN
      have hc1 : 2 ≤ c := by omega
      have hcm' : c ≤ 9223372036854775807 := hcm
      have k1 : (l.length : Int) ≤ (c : Int) := by omega
      clear hU hv hb1 HI0 hrd hlt1 hlt0 hn
      gi_wp2_with fail
      refine ⟨trivial, ?_⟩
      refine (callsIn_wide.2 hN).mono ?_
      rintro e w2 ⟨rfl, hb2⟩
      have HI2 := Lib.hid (HI1.out.below hb2 (by have := HI1.out.e.lt; omega))
      have q0' := (hb2.cell (p := ⟨gb, 0 + 0, none⟩) hgb').trans q0
      clear hN
      gi_wp2
      all_goals
        refine ⟨trivial, ?_⟩
        refine (chunk_in _ _ _ _ _).mono ?_
        rintro e w3 ⟨rfl, rfl⟩
        simp only [World.size_alloc]
        gi_wp2
        obtain ⟨b0, b1, b2, hB3, hZ3⟩ := dec_blocks w2 t gn (.slice (some ⟨gb, _, none⟩) (l.length - 2) _)
        generalize ((World.alloc _ _).alloc _).alloc _ = w3 at b0 b1 b2 hB3 hZ3 ⊢
        have HI3 := Lib.hid (HI2.out.below hB3 (by have := HI2.out.e.lt; omega))
        have hseq := chunkY 5 w.heap.size (by omega) gb q _ _ _ (w2.heap.size + 1) w3 b1 b2 (by have := HLL.out; omega) (by omega) (by omega) (by have := HI3.out.bel.size; omega) (by first | exact .inl ⟨rfl, by have := HLL.out; omega⟩ | exact .inr (by have := HLL.out; omega))
        have hrow3 : Rd w3 w2.heap.size 1 _ l.length (strs l) := (HRD.out.below hb2).more hb2.size |>.below hB3
        have hsz2 : w.heap.size + 2 ≤ w2.heap.size := by have := HI2.out.e.lt; omega
        clear b1 b2 hB3 q0' q0 q1 HRD hbg hgg hgb hgb' hb2 HI1 HI2
        refine rangeFunc_one (f0 := none) rfl (by omega) (gf := 57) (lb := #[.pointer (some ⟨w2.heap.size + 1, 0, none⟩), .pointer (some ⟨w2.heap.size + 1 + 1, 0, none⟩)]) rfl trivial (enters_of Tryd.func57 (by kernel_rfl) rfl) rfl
          (n₀ := w.heap.size) (lo := w2.heap.size + 1) (hi := w2.heap.size + 1 + 2) (w0 := w3) (by omega) (by omega) hseq (Below.refl _ _) (fun _ => rfl)
          (MidV w w2.heap.size t gn ll l _) (EndV w ll q) (midV_stands w w2.heap.size t gn ll l _ _ (by omega) (by omega)) (endV_stands w ll q _ (by omega)) ⟨HI3.out, ⟨_, b0, World.ownsRow_nil _ _ _ _⟩, fun i hi => by simp at hi, hrow3, by omega⟩
          49 8 (fun x => .slice (some ⟨gb, 2 + 2 * x, none⟩) 2 2) ?assign ?body ?done ?stop
        case assign =>
          intro l' x W K hK
          simp only [chunkV]
          simp only [List.setIfInBounds_toArray, List.set_cons_zero, List.set_cons_succ] at hK
          gi_wp2
          exact hK
        case body =>
          rintro ll' pre x W hpx hI
          obtain ⟨hpl, hxq⟩ := pre_range hpx
          obtain ⟨v, hOb, hOw⟩ := hI.out
          obtain ⟨Av, cv, rfl⟩ := own_shape hOw
          have hk0 : 2 + 2 * x < l.length := by have := HLL.out; omega
          have hk1 : 2 + (2 * x + 1) < l.length := by have := HLL.out; omega
          obtain ⟨g', of', c', hV, hgl, q2⟩ := rd_gets hI.row hk0
          injection hV with hA1 _ _
          injection hA1 with hA1
          injection hA1 with hA1 hA2 _
          subst hA1
          subst hA2
          obtain ⟨g', of', c', hV, _, q3⟩ := rd_gets hI.row hk1
          injection hV with hA1 _ _
          injection hA1 with hA1
          injection hA1 with hA1 hA2 _
          subst hA1
          subst hA2
          have hs0 := HSM.out.2 _ (List.getElem_mem hk0)
          rw [getNY HL.out hk0] at q2 hs0
          rw [getNY HL.out hk1] at q3
          rw [Nat.zero_add] at q2 q3
          rw [← Nat.add_assoc] at q3
          have HPT : Hid (prT ll pre.length = ((toNumB (ll.getD (2 * x) [])).1, ll.getD (2 * x + 1) [])) := by rw [hpl]; rfl
          have HPG : Hid (prG ll pre.length ↔ (toNumB (ll.getD (2 * x) [])).2 = 0) := by rw [hpl]; exact Iff.rfl
          have HNF : Hid ((toNumB (ll.getD (2 * x) [])).2 ≠ 0 → (toNumB (ll.getD (2 * x) [])).2 = 4) := toNum_fourY _
          have HM := Lib.hid hI
          have HOB := Lib.hid hOb
          have HOW := Lib.hid hOw
          generalize ll.getD (2 * x) [] = s0 at *
          generalize ll.getD (2 * x + 1) [] = s1 at *
          have hN := toNum_any s0 (by omega) W (hl.later hI.i.bel)
          have hWs := hI.size
          have hplx : pre.length < 1048577 := by omega
          have HPL := Lib.hid hpl
          clear hpl
          simp only [List.setIfInBounds_toArray, List.set_cons_zero, List.set_cons_succ]
          clear hI hOb hOw hk0 hk1 hseq b0 hrow3
          by_cases h0 : (toNumB s0).2 = 0
          · rw [h0] at hN
            replace HPG := Lib.hid (HPG.out.2 h0)
            clear h0 HNF
            generalize (toNumB s0).1 = n at *
            gi_wp2_with fail
            refine ⟨trivial, ?_⟩
            refine (CallsIn.inRound ll' (callsIn_wide.2 hN)).mono ?_
            rintro e w5 ⟨rfl, hb5⟩
            have q3' := (hb5.cell (p := ⟨gb, 2 + 2 * x + 1, none⟩) (by show gb < _; omega)).trans q3
            have hOb5 := HOB.out.below hb5 HOB.out.lt
            have c5 : w5.cell? ⟨w2.heap.size, 2, none⟩ = some (.slice Av pre.length cv) := hOb5.cell 2
            have f5 := hOb5.frozen 2
            have HBX5 := Lib.hid (hOb5.drew.alloc (.cells #[.int .i64 n, .string ⟨s1.toArray⟩] 64))
            have HOW5 := Lib.hid (((Chg.of_below (F := fun _ => False) hb5).drew.alloc (.cells #[.int .i64 n, .string ⟨s1.toArray⟩] 64)).owns HOW.out (fun _ _ h => h))
            have hne6 : some w2.heap.size ≠ (Value.slice Av pre.length cv).ownBlock := fun e => by have := (HOW.out.lt _ e.symm).1; omega
            have hone : ∀ u ∈ tagC (n, s1), u.oneCell' = true := by simp [tagC, Value.oneCell']
            have hml : pre.length + 1 ≤ maxLen := by show _ ≤ 9223372036854775807; omega
            have hmb : (pre.length + 1) * 24 ≤ 140737488355328 := by omega
            have hbs5 : w2.heap.size + 3 ≤ (w5.drew.alloc (.cells #[.int .i64 n, .string ⟨s1.toArray⟩] 64)).heap.size := by have := hb5.size; simp; omega
            have h1u := Tryd.underlying22
            obtain ⟨i0, hi0, hz0, hz1, hz2⟩ := info_parts tag_info
            have hbe : w.heap.size + 2 ≤ w2.heap.size := hsz2
            have hlt5 : w2.heap.size < w5.heap.size := by have := hb5.size; omega
            clear hOb5 hN q2 q3
            gi_wp2_with fail
            refine wpIn_region_any hmix ?_
            try (change wpAnyIn _ _ _ _ _ _ _ _ _ (World.drew _))
            refine anyIn_round (F := Fence.wide) (fun i o c h => ?_) _ _ _ _ ?_
            · have hm := Array.mem_of_getElem? h
              simp only [List.mem_toArray, List.mem_cons, List.not_mem_nil, or_false] at hm
              rcases hm with rfl | rfl | rfl | rfl | rfl | rfl | rfl | rfl | rfl | rfl | rfl <;> (intro hc; cases hc)
            refine wpAnyIn_take (i := 0) (oi := ⟨_, _, _, _, _, _⟩) (v := ?_) rfl rfl (by kernel_rfl) (by kernel_rfl) (by kernel_rfl) (fun _ _ _ h => h) ⟨Or.inl ⟨by rfl, ?_⟩, fun _ => rfl⟩ ?_
            rotate_left
            · intro w
              first | (go_simp; done) | (go_simp; rfl)
            simp only [Act.put, List.setIfInBounds_toArray, List.set_cons_zero, List.set_cons_succ]
            refine wpAnyIn_take (i := 2) (oi := ⟨_, _, _, _, _, _⟩) (v := ?_) rfl rfl (by kernel_rfl) (by kernel_rfl) (by kernel_rfl) (fun _ _ _ h => h) ⟨Or.inl ⟨by rfl, ?_⟩, fun _ => rfl⟩ ?_
            rotate_left
            · intro w
              first | (go_simp; done) | (go_simp; rfl)
            simp only [Act.put, List.setIfInBounds_toArray, List.set_cons_zero, List.set_cons_succ]
            refine wpAnyIn_take (i := 3) (oi := ⟨_, _, _, _, _, _⟩) (v := ?_) rfl rfl (by kernel_rfl) (by kernel_rfl) (by kernel_rfl) (fun _ _ _ h => h) ⟨Or.inl ⟨by rfl, ?_⟩, fun _ => rfl⟩ ?_
            rotate_left
            · intro w
              first | (go_simp; done) | (go_simp; rfl)
            simp only [Act.put, List.setIfInBounds_toArray, List.set_cons_zero, List.set_cons_succ]
            refine wpAnyIn_take (i := 4) (oi := ⟨_, _, _, _, _, _⟩) (v := ?_) rfl rfl (by kernel_rfl) (by kernel_rfl) (by kernel_rfl) (fun _ _ _ h => h) ⟨Or.inl ⟨by rfl, ?_⟩, fun _ => rfl⟩ ?_
            rotate_left
            · intro w
              first | (go_simp; done) | (go_simp; rfl)
            simp only [Act.put, List.setIfInBounds_toArray, List.set_cons_zero, List.set_cons_succ]
            refine wpAnyIn_ready (rs := [1, 5]) (by kernel_rfl) (by simp) ?_
            refine AllReadyIn.cons (o := ⟨_, _, _, _, _, _⟩) rfl (fun K hK => ?_) (AllReadyIn.cons (o := ⟨_, _, _, _, _, _⟩) rfl (fun K hK => ?_) (AllReadyIn.nil))
            · go_simp
              refine hK _ _ ?_
              clear hK K
              try simp only [Act.put, List.setIfInBounds_toArray, List.set_cons_zero, List.set_cons_succ]
              refine wpAnyIn_ready (rs := [5]) (by kernel_rfl) (by simp) ?_
              refine AllReadyIn.cons (o := ⟨_, _, _, _, _, _⟩) rfl (fun K hK => ?_) (AllReadyIn.nil)
              · go_simp
                refine hK _ _ ?_
                clear hK K
                try simp only [Act.put, List.setIfInBounds_toArray, List.set_cons_zero, List.set_cons_succ]
                refine wpAnyIn_take (i := 6) (oi := ⟨_, _, _, _, _, _⟩) (v := ?_) rfl rfl (by kernel_rfl) (by kernel_rfl) (by kernel_rfl) (fun _ _ _ h => h) ⟨Or.inl ⟨by rfl, ?_⟩, fun _ => rfl⟩ ?_
                rotate_left
                · intro w
                  first | (go_simp; done) | (go_simp; rfl)
                simp only [Act.put, List.setIfInBounds_toArray, List.set_cons_zero, List.set_cons_succ]
                refine wpAnyIn_ready (rs := [7]) (by kernel_rfl) (by simp) ?_
                refine AllReadyIn.cons (o := ⟨_, _, _, _, _, _⟩) rfl (fun K hK => ?_) (AllReadyIn.nil)
                · go_simp
                  refine hK _ _ ?_
                  clear hK K
                  try simp only [Act.put, List.setIfInBounds_toArray, List.set_cons_zero, List.set_cons_succ]
                  refine wpAnyIn_ready (rs := [8]) (by kernel_rfl) (by simp) ?_
                  refine AllReadyIn.cons (o := ⟨_, _, _, _, _, _⟩) rfl (fun K hK => ?_) (AllReadyIn.nil)
                  · refine stepIn_append_own rfl _ _ 22 rfl (w2.heap.size + 3) 64 i0 _ 2 24 h1u hi0 hz0 hz1 hz2 rfl (by omega) (.slice Av pre.length cv) pre.length _ rfl HOW5.out ⟨w5.heap.size, 0, none⟩ 1 1 (tagC (n, s1)) rfl rfl (World.news_of_block (Blk.new w5.drew 64 #[.int .i64 n, .string ⟨s1.toArray⟩])) hone hml hmb hbs5 ?_
                    intro v6 w6 hown6 hg6
                    obtain ⟨A6, c6, rfl⟩ := own_shape hown6
                    refine hK _ _ ?_
                    clear hK K
                    have hb6 := HBX5.out.grown hg6 hne6
                    have c6' : w6.cell? ⟨w2.heap.size, 2, none⟩ = some (.slice Av pre.length cv) := hb6.cell 2
                    have f6' := hb6.frozen 2
                    try simp only [Act.put, List.setIfInBounds_toArray, List.set_cons_zero, List.set_cons_succ]
                    refine wpAnyIn_take (i := 9) (oi := ⟨_, _, _, _, _, _⟩) (v := ?_) rfl rfl (by kernel_rfl) (by kernel_rfl) (by kernel_rfl) (fun _ _ _ h => h) ⟨Or.inl ⟨by rfl, ?_⟩, fun _ => rfl⟩ ?_
                    rotate_left
                    · intro w
                      first | (go_simp; done) | (go_simp; rfl)
                    simp only [Act.put, List.setIfInBounds_toArray, List.set_cons_zero, List.set_cons_succ]
                    refine wpAnyIn_ready (rs := [10]) (by kernel_rfl) (by simp) ?_
                    refine AllReadyIn.cons (o := ⟨_, _, _, _, _, _⟩) rfl (fun K hK => ?_) (AllReadyIn.nil)
                    · go_simp
                      refine hK _ _ ?_
                      clear hK K
                      try simp only [Act.put, List.setIfInBounds_toArray, List.set_cons_zero, List.set_cons_succ]
                      refine wpAnyIn_done (by kernel_rfl) ?_ _
                      exact HM.out.push hbe HOB.out HOW.out hb5 hg6 hown6 HPT.out HPG.out x
            · go_simp
              refine hK _ _ ?_
              clear hK K
              try simp only [Act.put, List.setIfInBounds_toArray, List.set_cons_zero, List.set_cons_succ]
              refine wpAnyIn_take (i := 6) (oi := ⟨_, _, _, _, _, _⟩) (v := ?_) rfl rfl (by kernel_rfl) (by kernel_rfl) (by kernel_rfl) (fun _ _ _ h => h) ⟨Or.inl ⟨by rfl, ?_⟩, fun _ => rfl⟩ ?_
              rotate_left
              · intro w
                first | (go_simp; done) | (go_simp; rfl)
              simp only [Act.put, List.setIfInBounds_toArray, List.set_cons_zero, List.set_cons_succ]
              refine wpAnyIn_ready (rs := [1, 7]) (by kernel_rfl) (by simp) ?_
              refine AllReadyIn.cons (o := ⟨_, _, _, _, _, _⟩) rfl (fun K hK => ?_) (AllReadyIn.cons (o := ⟨_, _, _, _, _, _⟩) rfl (fun K hK => ?_) (AllReadyIn.nil))
              · go_simp
                refine hK _ _ ?_
                clear hK K
                try simp only [Act.put, List.setIfInBounds_toArray, List.set_cons_zero, List.set_cons_succ]
                refine wpAnyIn_ready (rs := [7]) (by kernel_rfl) (by simp) ?_
                refine AllReadyIn.cons (o := ⟨_, _, _, _, _, _⟩) rfl (fun K hK => ?_) (AllReadyIn.nil)
                · go_simp
                  refine hK _ _ ?_
                  clear hK K
                  try simp only [Act.put, List.setIfInBounds_toArray, List.set_cons_zero, List.set_cons_succ]
                  refine wpAnyIn_ready (rs := [8]) (by kernel_rfl) (by simp) ?_
                  refine AllReadyIn.cons (o := ⟨_, _, _, _, _, _⟩) rfl (fun K hK => ?_) (AllReadyIn.nil)
                  · refine stepIn_append_own rfl _ _ 22 rfl (w2.heap.size + 3) 64 i0 _ 2 24 h1u hi0 hz0 hz1 hz2 rfl (by omega) (.slice Av pre.length cv) pre.length _ rfl HOW5.out ⟨w5.heap.size, 0, none⟩ 1 1 (tagC (n, s1)) rfl rfl (World.news_of_block (Blk.new w5.drew 64 #[.int .i64 n, .string ⟨s1.toArray⟩])) hone hml hmb hbs5 ?_
                    intro v6 w6 hown6 hg6
                    obtain ⟨A6, c6, rfl⟩ := own_shape hown6
                    refine hK _ _ ?_
                    clear hK K
                    have hb6 := HBX5.out.grown hg6 hne6
                    have c6' : w6.cell? ⟨w2.heap.size, 2, none⟩ = some (.slice Av pre.length cv) := hb6.cell 2
                    have f6' := hb6.frozen 2
                    try simp only [Act.put, List.setIfInBounds_toArray, List.set_cons_zero, List.set_cons_succ]
                    refine wpAnyIn_take (i := 9) (oi := ⟨_, _, _, _, _, _⟩) (v := ?_) rfl rfl (by kernel_rfl) (by kernel_rfl) (by kernel_rfl) (fun _ _ _ h => h) ⟨Or.inl ⟨by rfl, ?_⟩, fun _ => rfl⟩ ?_
                    rotate_left
                    · intro w
                      first | (go_simp; done) | (go_simp; rfl)
                    simp only [Act.put, List.setIfInBounds_toArray, List.set_cons_zero, List.set_cons_succ]
                    refine wpAnyIn_ready (rs := [10]) (by kernel_rfl) (by simp) ?_
                    refine AllReadyIn.cons (o := ⟨_, _, _, _, _, _⟩) rfl (fun K hK => ?_) (AllReadyIn.nil)
                    · go_simp
                      refine hK _ _ ?_
                      clear hK K
                      try simp only [Act.put, List.setIfInBounds_toArray, List.set_cons_zero, List.set_cons_succ]
                      refine wpAnyIn_done (by kernel_rfl) ?_ _
                      exact HM.out.push hbe HOB.out HOW.out hb5 hg6 hown6 HPT.out HPG.out x
              · go_simp
                refine hK _ _ ?_
                clear hK K
                try simp only [Act.put, List.setIfInBounds_toArray, List.set_cons_zero, List.set_cons_succ]
                refine wpAnyIn_ready (rs := [1]) (by kernel_rfl) (by simp) ?_
                refine AllReadyIn.cons (o := ⟨_, _, _, _, _, _⟩) rfl (fun K hK => ?_) (AllReadyIn.nil)
                · go_simp
                  refine hK _ _ ?_
                  clear hK K
                  try simp only [Act.put, List.setIfInBounds_toArray, List.set_cons_zero, List.set_cons_succ]
                  refine wpAnyIn_ready (rs := [8]) (by kernel_rfl) (by simp) ?_
                  refine AllReadyIn.cons (o := ⟨_, _, _, _, _, _⟩) rfl (fun K hK => ?_) (AllReadyIn.nil)
                  · refine stepIn_append_own rfl _ _ 22 rfl (w2.heap.size + 3) 64 i0 _ 2 24 h1u hi0 hz0 hz1 hz2 rfl (by omega) (.slice Av pre.length cv) pre.length _ rfl HOW5.out ⟨w5.heap.size, 0, none⟩ 1 1 (tagC (n, s1)) rfl rfl (World.news_of_block (Blk.new w5.drew 64 #[.int .i64 n, .string ⟨s1.toArray⟩])) hone hml hmb hbs5 ?_
                    intro v6 w6 hown6 hg6
                    obtain ⟨A6, c6, rfl⟩ := own_shape hown6
                    refine hK _ _ ?_
                    clear hK K
                    have hb6 := HBX5.out.grown hg6 hne6
                    have c6' : w6.cell? ⟨w2.heap.size, 2, none⟩ = some (.slice Av pre.length cv) := hb6.cell 2
                    have f6' := hb6.frozen 2
                    try simp only [Act.put, List.setIfInBounds_toArray, List.set_cons_zero, List.set_cons_succ]
                    refine wpAnyIn_take (i := 9) (oi := ⟨_, _, _, _, _, _⟩) (v := ?_) rfl rfl (by kernel_rfl) (by kernel_rfl) (by kernel_rfl) (fun _ _ _ h => h) ⟨Or.inl ⟨by rfl, ?_⟩, fun _ => rfl⟩ ?_
                    rotate_left
                    · intro w
                      first | (go_simp; done) | (go_simp; rfl)
                    simp only [Act.put, List.setIfInBounds_toArray, List.set_cons_zero, List.set_cons_succ]
                    refine wpAnyIn_ready (rs := [10]) (by kernel_rfl) (by simp) ?_
                    refine AllReadyIn.cons (o := ⟨_, _, _, _, _, _⟩) rfl (fun K hK => ?_) (AllReadyIn.nil)
                    · go_simp
                      refine hK _ _ ?_
                      clear hK K
                      try simp only [Act.put, List.setIfInBounds_toArray, List.set_cons_zero, List.set_cons_succ]
                      refine wpAnyIn_done (by kernel_rfl) ?_ _
                      exact HM.out.push hbe HOB.out HOW.out hb5 hg6 hown6 HPT.out HPG.out x
          · have h4 := HNF.out h0
            have hng : ¬ prG ll pre.length := fun h => h0 (HPG.out.1 h)
            rw [h4] at hN
            have HNG := Lib.hid hng
            clear h0 h4 HNF HPG HPT hng
            generalize (toNumB s0).1 = n at *
            gi_wp2_with fail
            refine ⟨trivial, ?_⟩
            refine (CallsIn.inRound ll' (callsIn_wide.2 hN)).mono ?_
            rintro e w5 ⟨rfl, hb5⟩
            have HI5 := Lib.hid (HM.out.i.below hb5 (by omega))
            have HST := Lib.hid (HM.out.i.stop hb5 4)
            have r0 := HI5.out.z
            have r1 := HI5.out.e
            have x0 := r0.frozen 0
            have x1 := r0.frozen 1
            have x2 := r0.frozen 2
            have x3 := r1.frozen 0
            have v0 : w5.cell? ⟨w.heap.size, 0, none⟩ = some (.string ⟨#[]⟩) := r0.cell 0
            have v1 : w5.cell? ⟨w.heap.size, 1, none⟩ = some (.int .i64 0) := r0.cell 1
            have v2 : w5.cell? ⟨w.heap.size, 2, none⟩ = some (.slice none 0 0) := r0.cell 2
            have v3 : w5.cell? ⟨w.heap.size + 1, 0, none⟩ = some (.int .i64 0) := r1.cell 0
            clear r0 r1
            clear hN hb5
            gi_wp2
            exact ⟨HST.out.1, rfl, ⟨_, by rw [HPL.out]; exact hxq, HNG.out⟩, HST.out.2⟩
        case done =>
          rintro D W hD hI hKD
          obtain ⟨v, hOb, hOw⟩ := hI.out
          obtain ⟨Av, cv, rfl⟩ := own_shape hOw
          have hlr : (List.range q).length = q := List.length_range
          have HGD := Lib.hid hI.good
          rw [hlr] at hOb hOw HGD
          have HE := Lib.hid (decL_all (t := t) (g := g) (l := ll) (q := q) HN.out HQ.out HGD.out)
          have HE2 : Hid (decS b = if formS ⟨t, gn, prL ll q⟩ = 0 then (⟨t, gn, prL ll q⟩, 0) else (crt0, 4)) := by unfold Hid; rw [HD.out, HL.out, HE.out, HGN.out]
          have hrd := Rd.of_own hOw
          have hpq : (prL ll q).length = q := prL_length ll q
          have HF := form_any ⟨t, gn, prL ll q⟩ (.slice Av q cv) W W.heap.size (Nat.le_refl _) (by simp only [hpq]; exact hrd) (by simp only [hpq]; exact hq9)
          have d0 : W.cell? ⟨w2.heap.size, 0, none⟩ = some (.string ⟨t.toArray⟩) := hOb.cell 0
          have d1 : W.cell? ⟨w2.heap.size, 1, none⟩ = some (.int .i64 gn) := hOb.cell 1
          have d2 : W.cell? ⟨w2.heap.size, 2, none⟩ = some (.slice Av q cv) := hOb.cell 2
          have HOB := Lib.hid hOb
          have HOW := Lib.hid hOw
          have HM := Lib.hid hI
          have HKD := Lib.hid hKD
          have hWs := hI.size
          clear HE hOb hOw hrd hI hKD hseq b0 hrow3 HGD
          simp only at HF
          by_cases hf : formS ⟨t, gn, prL ll q⟩ = 0
          · have HE : Hid (decS b = (⟨t, gn, prL ll q⟩, 0)) := by unfold Hid; rw [HE2.out, if_pos hf]
            rw [hf] at HF
            clear hf HE2
            generalize prL ll q = ps at *
            gi_wp2_with fail
            refine ⟨trivial, ?_⟩
            refine (callsIn_wide.2 HF).mono ?_
            rintro e w5 ⟨rfl, hb5⟩
            have HI5 := Lib.hid (HM.out.i.below hb5 (by omega))
            have r0 := HI5.out.z
            have r1 := HI5.out.e
            have x0 := r0.frozen 0
            have x1 := r0.frozen 1
            have x2 := r0.frozen 2
            have x3 := r1.frozen 0
            have v0 : w5.cell? ⟨w.heap.size, 0, none⟩ = some (.string ⟨#[]⟩) := r0.cell 0
            have v1 : w5.cell? ⟨w.heap.size, 1, none⟩ = some (.int .i64 0) := r0.cell 1
            have v2 : w5.cell? ⟨w.heap.size, 2, none⟩ = some (.slice none 0 0) := r0.cell 2
            have v3 : w5.cell? ⟨w.heap.size + 1, 0, none⟩ = some (.int .i64 0) := r1.cell 0
            clear r0 r1
            have hob5 := HOB.out.below hb5 HOB.out.lt
            have d0 : w5.cell? ⟨w2.heap.size, 0, none⟩ = some (.string ⟨t.toArray⟩) := hob5.cell 0
            have d1 : w5.cell? ⟨w2.heap.size, 1, none⟩ = some (.int .i64 gn) := hob5.cell 1
            have d2 : w5.cell? ⟨w2.heap.size, 2, none⟩ = some (.slice Av q cv) := hob5.cell 2
            have HOK := Lib.hid (HI5.out.ok t gn (.slice Av q cv) ((Chg.of_below (F := fun _ => False) hb5).owns HOW.out (fun _ _ h => h)) (by omega) ((hb5.block D (Array.getElem?_eq_some_iff.1 HKD.out).1).trans HKD.out) (by omega))
            clear hob5 hb5
            gi_wp2
            obtain ⟨hK', hz, he', hown, hbel⟩ := HOK.out
            refine ⟨by simp, .inl ⟨_, _, rfl, run_takeDeferred hK', ?_⟩⟩
            have z0 := hz.cell 0
            have z1 := hz.cell 1
            have z2 := hz.cell 2
            have z3 := he'.cell 0
            refine ⟨.tuple #[.agg #[.string ⟨t.toArray⟩, .int .i64 gn, .slice Av q cv], .int .i64 0], ?_, Av, cv, by rw [HE.out]; simp only [hpq], by rw [HE.out]; simp only [hpq]; exact hown, hbel⟩
            simp [results, Tryd.results20, go_sem, z0, z1, z2, z3]
          · have HE : Hid (decS b = (crt0, 4)) := by unfold Hid; rw [HE2.out, if_neg hf]
            have hfi : (formS ⟨t, gn, prL ll q⟩ != 0) = true := by simpa using hf
            clear hf HE2
            generalize formS ⟨t, gn, prL ll q⟩ = fe at *
            gi_wp2_with fail
            refine ⟨trivial, ?_⟩
            refine (callsIn_wide.2 HF).mono ?_
            rintro e w5 ⟨rfl, hb5⟩
            have HI5 := Lib.hid (HM.out.i.below hb5 (by omega))
            have r0 := HI5.out.z
            have r1 := HI5.out.e
            have x0 := r0.frozen 0
            have x1 := r0.frozen 1
            have x2 := r0.frozen 2
            have x3 := r1.frozen 0
            have v0 : w5.cell? ⟨w.heap.size, 0, none⟩ = some (.string ⟨#[]⟩) := r0.cell 0
            have v1 : w5.cell? ⟨w.heap.size, 1, none⟩ = some (.int .i64 0) := r0.cell 1
            have v2 : w5.cell? ⟨w.heap.size, 2, none⟩ = some (.slice none 0 0) := r0.cell 2
            have v3 : w5.cell? ⟨w.heap.size + 1, 0, none⟩ = some (.int .i64 0) := r1.cell 0
            clear r0 r1
            have hKD5 := (hb5.block D (Array.getElem?_eq_some_iff.1 HKD.out).1).trans HKD.out
            have HOK := Lib.hid (HI5.out.exitD (by omega) hKD5 4)
            clear hb5 hKD5
            gi_wp2
            obtain ⟨hK', hx⟩ := HOK.out
            refine ⟨by simp, .inl ⟨_, _, rfl, run_takeDeferred hK', ?_⟩⟩
            have z0 := hx.z.cell 0
            have z1 := hx.z.cell 1
            have z2 := hx.z.cell 2
            have z3 := hx.e.cell 0
            refine ⟨.tuple #[.agg #[.string ⟨#[]⟩, .int .i64 0, .slice none 0 0], .int .i64 4], ?_, none, 0, by rw [HE.out]; rfl, by rw [HE.out]; exact World.ownsRow_nil _ _ _ _, hx.bel⟩
            simp [results, Tryd.results20, go_sem, z0, z1, z2, z3]
        case stop =>
          rintro D c' pre W hD hpre hE hKD
          obtain ⟨i, hi, hng⟩ := hE.bad
          have HE : Hid (decS b = (crt0, 4)) := by unfold Hid; rw [HD.out, HL.out, decL_bad HQ.out hi hng]
          have hx := hE.x.putD (by omega) hKD
          have z0 := hx.z.cell 0
          have z1 := hx.z.cell 1
          have z2 := hx.z.cell 2
          have z3 := hx.e.cell 0
          obtain rfl := hE.ret
          clear hE hpre hseq b0 hrow3
          gi_wp2
          refine ⟨by simp, .inl ⟨_, _, rfl, run_takeDeferred hKD, ?_⟩⟩
          refine ⟨.tuple #[.agg #[.string ⟨#[]⟩, .int .i64 0, .slice none 0 0], .int .i64 4], ?_, none, 0, by rw [HE.out]; rfl, by rw [HE.out]; exact World.ownsRow_nil _ _ _ _, hx.bel⟩
          simp [results, Tryd.results20, go_sem, z0, z1, z2, z3]
    · have HE : Hid (decS b = (crt0, 4)) := by unfold Hid; rw [HD.out, HL.out, decL_num hn]
      have h4 := toNum_fourY g hn
      clear hn
      refine (callsIn_wide (n := 6)).1 ?_
      refine callsIn_of_wp_marks Tryd.func20 rfl trivial ?_ rfl
      simp only [Tryd.ntmps20, List.size_toArray, List.length_cons, List.length_nil, Nat.reduceAdd, Nat.reduceSub, Array.replicate_succ, Array.replicate_zero, List.push_toArray, List.append_toArray, List.nil_append, List.cons_append]
      gi_wp2_with fail
      refine ⟨trivial, ?_⟩
      refine (callsIn_wide.2 hU).mono ?_
      rintro e w1 ⟨v, rfl, hv, hb1⟩
      obtain ⟨A, c, rfl⟩ := own_shape hv
      have HI1 := Lib.hid (HI0.out.below hb1 (by rw [HZ0.out]; omega))
      have hrd := Rd.of_own hv
      have hlt1 : 1 < l.length := by omega
      have hlt0 : 0 < l.length := by omega
      obtain ⟨gb, off, c', hV, hgb, q1⟩ := rd_gets hrd hlt1
      injection hV with hA _ hcc
      subst hA
      clear hcc
      rw [get1Y HL.out] at q1
      have hN := toNum_any g (by omega) w1 (hl.later HI1.out.bel)
      rw [h4] at hN
      generalize (toNumB g).1 = gn at *
      clear hU hv hb1 HI0 hrd hlt1 hlt0
      gi_wp2_with fail
      refine ⟨trivial, ?_⟩
      refine (callsIn_wide.2 hN).mono ?_
      rintro e w2 ⟨rfl, hb2⟩
      have HI2 := Lib.hid (HI1.out.below hb2 (by have := HI1.out.e.lt; omega))
      have r0 := HI2.out.z
      have r1 := HI2.out.e
      have x0 := r0.frozen 0
      have x1 := r0.frozen 1
      have x2 := r0.frozen 2
      have x3 := r1.frozen 0
      have v0 : w2.cell? ⟨w.heap.size, 0, none⟩ = some (.string ⟨#[]⟩) := r0.cell 0
      have v1 : w2.cell? ⟨w.heap.size, 1, none⟩ = some (.int .i64 0) := r0.cell 1
      have v2 : w2.cell? ⟨w.heap.size, 2, none⟩ = some (.slice none 0 0) := r0.cell 2
      have v3 : w2.cell? ⟨w.heap.size + 1, 0, none⟩ = some (.int .i64 0) := r1.cell 0
      have HX := Lib.hid (HI2.out.exit 4)
      clear r0 r1
      clear hN hb2
      gi_wp2
      have hx := HX.out
      have z0 := hx.z.cell 0
      have z1 := hx.z.cell 1
      have z2 := hx.z.cell 2
      have z3 := hx.e.cell 0
      refine ⟨.tuple #[.agg #[.string ⟨#[]⟩, .int .i64 0, .slice none 0 0], .int .i64 4], ?_, none, 0, by rw [HE.out]; rfl, by rw [HE.out]; exact World.ownsRow_nil _ _ _ _, hx.bel⟩
      simp [results, Tryd.results20, go_sem, z0, z1, z2, z3]
  · have HE : Hid (decS b = (crt0, 4)) := Lib.hid (decS_none he)
    rw [unpackB_fourY b he] at hU
    clear he
    refine (callsIn_wide (n := 6)).1 ?_
    refine callsIn_of_wp_marks Tryd.func20 rfl trivial ?_ rfl
    simp only [Tryd.ntmps20, List.size_toArray, List.length_cons, List.length_nil, Nat.reduceAdd, Nat.reduceSub, Array.replicate_succ, Array.replicate_zero, List.push_toArray, List.append_toArray, List.nil_append, List.cons_append]
    gi_wp2_with fail
    refine ⟨trivial, ?_⟩
    refine (callsIn_wide.2 hU).mono ?_
    rintro e w1 ⟨v, rfl, hv, hb1⟩
    obtain ⟨A, c, rfl⟩ := own_shape hv
    have HI1 := Lib.hid (HI0.out.below hb1 (by rw [HZ0.out]; omega))
    have r0 := HI1.out.z
    have r1 := HI1.out.e
    have x0 := r0.frozen 0
    have x1 := r0.frozen 1
    have x2 := r0.frozen 2
    have x3 := r1.frozen 0
    have v0 : w1.cell? ⟨w.heap.size, 0, none⟩ = some (.string ⟨#[]⟩) := r0.cell 0
    have v1 : w1.cell? ⟨w.heap.size, 1, none⟩ = some (.int .i64 0) := r0.cell 1
    have v2 : w1.cell? ⟨w.heap.size, 2, none⟩ = some (.slice none 0 0) := r0.cell 2
    have v3 : w1.cell? ⟨w.heap.size + 1, 0, none⟩ = some (.int .i64 0) := r1.cell 0
    have HX := Lib.hid (HI1.out.exit 4)
    clear r0 r1
    clear hU hv hb1 HI0
    gi_wp2
    have hx := HX.out
    have z0 := hx.z.cell 0
    have z1 := hx.z.cell 1
    have z2 := hx.z.cell 2
    have z3 := hx.e.cell 0
    refine ⟨.tuple #[.agg #[.string ⟨#[]⟩, .int .i64 0, .slice none 0 0], .int .i64 4], ?_, none, 0, by rw [HE.out]; rfl, by rw [HE.out]; exact World.ownsRow_nil _ _ _ _, hx.bel⟩
    simp [results, Tryd.results20, go_sem, z0, z1, z2, z3]

end Go.Proofs.YtkmhimaeakbpoaaDoor
