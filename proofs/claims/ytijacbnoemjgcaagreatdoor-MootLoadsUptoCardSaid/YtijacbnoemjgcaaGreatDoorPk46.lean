/- A moot is loaded: the document's. -/
import Derived.Test.YtijacbnoemjgcaaGreatDoorPk45
set_option linter.unusedVariables false
set_option linter.unusedSimpArgs false
set_option linter.unnecessarySimpa false
namespace Go.Proofs.YtijacbnoemjgcaaGreatDoor
open Go.RowKit Go.Shelf

theorem flat3_length (l : List Tri) : (flat3 l).length = 3 * l.length := by
  induction l with
  | nil => rfl
  | cons p l ih => rw [flat3, List.flatMap_cons, List.length_append]; unfold flat3 at ih; rw [ih]; simp; omega
theorem flat3_get (l : List Tri) (k : Nat) (hk : k < l.length) : (flat3 l)[3 * k]? = some l[k].1 ∧ (flat3 l)[3 * k + 1]? = some l[k].2.1 ∧ (flat3 l)[3 * k + 2]? = some l[k].2.2 := by
  induction l generalizing k with
  | nil => simp at hk
  | cons x l ih =>
    cases k with
    | zero => exact ⟨rfl, rfl, rfl⟩
    | succ k =>
      have := ih k (by simpa using hk)
      have e : ∀ i, (flat3 (x :: l))[3 * (k + 1) + i]? = (flat3 l)[3 * k + i]? := by
        intro i
        rw [flat3, List.flatMap_cons, List.getElem?_append_right (by simp; omega)]
        rw [show 3 * (k + 1) + i - [x.1, x.2.1, x.2.2].length = 3 * k + i by simp; omega]
        rfl
      have e0 := e 0
      simp only [Nat.add_zero] at e0
      rw [e0, e 1, e 2]
      simpa using this
theorem flat3_of : ∀ (n : Nat) (l : List Int), l.length ≤ n → l.length % 3 = 0 → flat3 (trisO l) = l
  | _, [], _, _ => rfl
  | _, [_], _, h => by simp at h
  | _, [_, _], _, h => by simp at h
  | 0, _ :: _ :: _ :: _, h, _ => by simp at h
  | n + 1, a :: b :: c :: l, h, h3 => by
    have := flat3_of n l (by simp at h; omega) (by simp at h3; omega)
    rw [trisO]
    unfold flat3 at this ⊢
    rw [List.flatMap_cons, this]
    rfl
theorem thr_flat {t : Bs} {ns : List Int} (h : thrO t = some ns) : flat3 (trisO ns) = ns := flat3_of ns.length ns (Nat.le_refl _) (thr_some h).1
theorem rd_flat {w : World} {B : Nat} {v : Value} {l : List Tri} (h : Rd w B 1 v (3 * l.length) (ints (flat3 l))) {k : Nat} (hk : k < l.length) :
    ∃ g off c, v = .slice (some ⟨g, off, none⟩) (3 * l.length) c ∧ g < B ∧ w.cell? ⟨g, off + 3 * k, none⟩ = some (.int .i64 l[k].1) ∧ w.cell? ⟨g, off + (3 * k + 1), none⟩ = some (.int .i64 l[k].2.1) ∧ w.cell? ⟨g, off + (3 * k + 2), none⟩ = some (.int .i64 l[k].2.2) := by
  obtain ⟨_, A, c, rfl, hnc, h0⟩ := h
  rcases h0 with h0 | ⟨g, off, rfl, hg, hc⟩
  · omega
  · obtain ⟨h1, h2, h3⟩ := flat3_get l k hk
    refine ⟨g, off, c, rfl, hg, hc _ _ ?_, hc _ _ ?_, hc _ _ ?_⟩
    · rw [ints, List.getElem?_map, h1]; rfl
    · rw [ints, List.getElem?_map, h2]; rfl
    · rw [ints, List.getElem?_map, h3]; rfl
theorem rcli_info : (Tryz.prog.info? 71).map (fun i => (i.zero, i.size, i.bytes)) = some (some (.agg #[.int .i64 0, .int .i64 0, .int .i64 0]), 3, 24) := by kernel_rfl
theorem blk2U {w : World} {g : Nat} {t : TypeId} {a b : Value} (h : Blk w g t #[a, b]) : w.cell? ⟨g, 0, none⟩ = some a ∧ w.cell? ⟨g, 1, none⟩ = some b ∧ w.frozen? ⟨g, 0, none⟩ = false ∧ w.frozen? ⟨g, 1, none⟩ = false := ⟨h.cell 0, h.cell 1, h.frozen 0, h.frozen 1⟩
theorem below_set2U {w w1 : World} {B g : Nat} (h : Below B w w1) (a b : Value) (hg : B ≤ g := by exact Nat.le_refl _) : Below B w ((w1.setCell ⟨g, 0, none⟩ a).setCell ⟨g, 1, none⟩ b) :=
  (h.setCell (p := ⟨g, 0, none⟩) hg a).setCell (p := ⟨g, 1, none⟩) hg b
theorem RMtP.push {base b : Nat} {w w4 : World} {lv cv cv' : Value} {L : List Cmd} {C : List Cli} {o : Obj} (h : RMtP base w b lv cv L C) (x : Cli)
    (hg : (w.alloc o).grownBy w4 cv.ownBlock) (ho : w4.ownsRow base 71 3 cv' (C.length + 1) (cellsC C ++ Cli.cells x)) :
    RMtP base (w4.setCell ⟨b, 1, none⟩ cv') b lv cv' L (C ++ [x]) ∧ Below base w (w4.setCell ⟨b, 1, none⟩ cv') ∧ w4.cell? ⟨b, 1, none⟩ = some cv ∧ w4.frozen? ⟨b, 1, none⟩ = false := by
  have hne : some b ≠ cv.ownBlock := fun e => own_blk_ne h.cli h.box (by decide) e.symm
  have hbox : Blk w4 b 30 #[lv, cv] := (h.box.alloc o).grown hg hne
  have hch : Chg (fun i => i = b ∨ cv.ownBlock = some i) w (w4.setCell ⟨b, 1, none⟩ cv') := (((Chg.refl (fun i => i = b ∨ cv.ownBlock = some i) w).alloc o).grown hg (fun k hk _ => .inr hk)).setCell (p := ⟨b, 1, none⟩) (fun _ => .inl rfl) cv'
  have hbl := h.box.lt
  have hbb := h.hb
  refine ⟨⟨hbox.set_ 1 cv', ?_, ?_, h.hb⟩, hch.to_below (fun i hi hF => ?_) (by omega), hbox.cell 1, hbox.frozen 1⟩
  · refine hch.owns h.row (fun k hk hF => ?_)
    rcases hF with rfl | hF
    · exact own_blk_ne h.row h.box (by decide) hk
    · rcases h.cli.2 with ⟨hv, _⟩ | ⟨g', cap', cur', hv', _, hb', _⟩
      · rw [hv] at hF; simp [Value.ownBlock] at hF
      · rw [hv'] at hF
        simp only [Value.ownBlock, Option.some.injEq] at hF
        subst hF
        exact own_blk_ne h.row hb' (by decide) hk
  · have := ((Chg.refl (fun i => i = b) w4).setCell (p := ⟨b, 1, none⟩) (fun _ => rfl) cv').owns ho (fun k hk e => own_blk_ne ho hbox (by decide) (by rw [hk, e]))
    rw [cellsC_append, List.length_append]
    simpa [cellsC] using this
  · rcases hF with rfl | hF
    · omega
    · have := (h.cli.lt i hF).1
      omega
theorem wp_tail {P : Program} {c : Code} {Q : Exit → Act → World → Prop} {a : Act} {w : World} (h : ∀ K : Act → World → Prop, (∀ a w, Q .normal a w → K a w) → c.wp P (Exit.then K Q) a w) : c.wp P Q a w := by
  refine wp_mono (h (fun a w => Q .normal a w) (fun _ _ h => h)) ?_
  rintro e a w hq
  cases e <;> exact hq
/-- What the document's Load answers. -/
def RLdPost (o : Option Mt) (w : World) (e : Ending) (w' : World) : Prop := match o with
  | some s => ∃ b lv cv C, e = .returned (.tuple #[.agg #[lv, cv], .int .i64 0]) ∧ w.heap.size ≤ b ∧ w'.ownsRow b 68 3 lv s.tk.length (cellsX s.tk) ∧ w'.ownsRow b 71 3 cv C.length (cellsC C) ∧ AgC s.cl C ∧ C.length ≤ 8 ∧ Below w.heap.size w w'
  | none => e = .returned (.tuple #[.agg #[.slice none 0 0, .slice none 0 0], .int .i64 4]) ∧ Below w.heap.size w w'
theorem RLdPost.no {o : Option Mt} (h : o = none) {w w' : World} (hb : Below w.heap.size w w') : RLdPost o w (.returned (.tuple #[.agg #[.slice none 0 0, .slice none 0 0], .int .i64 4])) w' := by rw [h]; exact ⟨rfl, hb⟩
theorem nums_some {t : Bs} {ns : List Int} (h : thrO t = some ns) : numsS t = (ns, true) := by unfold numsS; rw [h]
theorem nums_none {t : Bs} (h : thrO t = none) : numsS t = ([], false) := by unfold numsS; rw [h]
theorem take_40 {L : List Tri} (h : 40 < L.length) : takeAll L [cfg0] [] = none := by
  cases ht : takeAll L [cfg0] [] with
  | none => rfl
  | some p =>
    have h0 : takeAll (L.take L.length) [cfg0] [] = some (p.1, p.2) := by rw [List.take_length]; exact ht
    have := take_lens (Nat.le_refl _) h0
    omega
theorem agC_push {cl : Cls} {C : List Cli} (h : AgC cl C) (j : Nat) (n e : Int) (hlt : ∀ y ∈ C, y.c < j) : AgC (upd cl j (n, e)) (C ++ [⟨j, n, e⟩]) := by
  have h1 := agC_upd h (j : Int) n e (by omega)
  rw [List.filter_eq_self.2 (fun y hy => by have := hlt y hy; simp; omega)] at h1
  simpa using h1

set_option maxHeartbeats 4000000 in
set_option maxRecDepth 100000 in
theorem rload_any (t : Bs) (ht : t.length ≤ 1000000000) (w : World) :
    Calls Tryz.prog 7 #[.string ⟨t.toArray⟩] w (RLdPost (loadS t) w) := by
  have hal := (Below.refl w.heap.size w).alloc (Nat.le_refl _) (.cells #[.slice none 0 0, .slice none 0 0] 30)
  have HZ := Lib.hid (Blk.new w 30 #[.slice none 0 0, .slice none 0 0])
  have hU := runpack_any t (by omega) (w.alloc (.cells #[.slice none 0 0, .slice none 0 0] 30))
  have hsm := unpackB_small t
  have HAL := Lib.hid hal
  clear hal
  by_cases he : (unpackB t).2 = 0
  · by_cases h2 : (unpackB t).1.length = 2
    · obtain ⟨a, b, hab⟩ := two_ofU _ h2
      have hLS := loadS_ab he hab
      have hla := hsm.2 a (by rw [hab]; simp)
      have hlb := hsm.2 b (by rw [hab]; simp)
      rw [he, hab] at hU
      clear he hab h2 hsm
      have HNA : Hid (∀ w1 : World, Calls Tryz.prog 17 #[.string ⟨a.toArray⟩] w1 fun e w' => ∃ v, e = .returned (.tuple #[v, .bool (numsS a).2]) ∧ w'.ownsRow w1.heap.size 3 1 v (numsS a).1.length (ints (numsS a).1) ∧ Below w1.heap.size w1 w') := fun w1 => rnumbers_any a (by omega) w1
      have HNB : Hid (∀ w1 : World, Calls Tryz.prog 17 #[.string ⟨b.toArray⟩] w1 fun e w' => ∃ v, e = .returned (.tuple #[v, .bool (numsS b).2]) ∧ w'.ownsRow w1.heap.size 3 1 v (numsS b).1.length (ints (numsS b).1) ∧ Below w1.heap.size w1 w') := fun w1 => rnumbers_any b (by omega) w1
      cases hA : thrO a with
      | none =>
        have hN : Hid (loadS t = none) := by unfold Hid; rw [hLS, hA]
        rw [nums_none hA] at HNA
        clear hLS hA
        generalize numsS b = rb at *
        obtain ⟨lb, eb⟩ := rb
        simp only at HNB HNA
        go_enter Tryz.func7, Tryz.ntmps7
        go_wp2_with fail
        refine hU.mono ?_
        rintro e w1 ⟨v, rfl, hv, hb1⟩
        obtain ⟨g, off, c, rfl, hg, q0, q1⟩ := rd_twoU (Rd.of_own hv)
        have hg0 : g < w1.heap.size := hg
        have HB1 := Lib.hid (HAL.out.trans (hb1.mono HAL.out.size))
        have HZ1 := Lib.hid (HZ.out.below hb1 HZ.out.lt)
        clear hU hv hb1 HZ
        go_wp2_with fail
        refine (HNA.out w1).mono ?_
        rintro e w2 ⟨v2, rfl, hv2, hb2⟩
        have q1' : w2.cell? ⟨g, off + 1, none⟩ = some (.string ⟨b.toArray⟩) := (hb2.cell hg0).trans q1
        have HB2 := Lib.hid (HB1.out.trans (hb2.mono HB1.out.size))
        have HZ2 := Lib.hid (HZ1.out.below hb2 HZ1.out.lt)
        have HV2 := Lib.hid hv2
        clear hv2 hb2 HZ1
        go_wp2_with fail
        refine (HNB.out w2).mono ?_
        rintro e w3 ⟨v3, rfl, hv3, hb3⟩
        have HB3 := Lib.hid (HB2.out.trans (hb3.mono HB2.out.size))
        have HZ3 := Lib.hid (HZ2.out.below hb3 HZ2.out.lt)
        obtain ⟨A2, c2, rfl⟩ := own_shape HV2.out
        obtain ⟨A3, c3, rfl⟩ := own_shape hv3
        have HRA := Lib.hid ((Rd.of_own HV2.out).below hb3 |>.more hb3.size)
        have HRB := Lib.hid (Rd.of_own hv3)
        clear hv3 hb3 HV2 HNA HNB q0 q1 q1' hg0 HB1 HB2 HZ2
        obtain ⟨z0, z1, f0, f1⟩ := blk2U HZ3.out
        go_wp2
        refine bodyPost_ret (v := .tuple #[.agg #[.slice none 0 0, .slice none 0 0], .int .i64 4]) (by simp [results, Tryz.results7, go_sem, z0, z1]) rfl (RLdPost.no hN.out (below_set2U HB3.out _ _))
      | some na =>
        rw [nums_some hA] at HNA
        have hfa := thr_flat hA
        cases hB : thrO b with
        | none =>
          have hN : Hid (loadS t = none) := by unfold Hid; rw [hLS, hA, hB]
          rw [nums_none hB] at HNB
          clear hLS hA hB
          simp only at HNB HNA
          go_enter Tryz.func7, Tryz.ntmps7
          go_wp2_with fail
          refine hU.mono ?_
          rintro e w1 ⟨v, rfl, hv, hb1⟩
          obtain ⟨g, off, c, rfl, hg, q0, q1⟩ := rd_twoU (Rd.of_own hv)
          have hg0 : g < w1.heap.size := hg
          have HB1 := Lib.hid (HAL.out.trans (hb1.mono HAL.out.size))
          have HZ1 := Lib.hid (HZ.out.below hb1 HZ.out.lt)
          clear hU hv hb1 HZ
          go_wp2_with fail
          refine (HNA.out w1).mono ?_
          rintro e w2 ⟨v2, rfl, hv2, hb2⟩
          have q1' : w2.cell? ⟨g, off + 1, none⟩ = some (.string ⟨b.toArray⟩) := (hb2.cell hg0).trans q1
          have HB2 := Lib.hid (HB1.out.trans (hb2.mono HB1.out.size))
          have HZ2 := Lib.hid (HZ1.out.below hb2 HZ1.out.lt)
          have HV2 := Lib.hid hv2
          clear hv2 hb2 HZ1
          go_wp2_with fail
          refine (HNB.out w2).mono ?_
          rintro e w3 ⟨v3, rfl, hv3, hb3⟩
          have HB3 := Lib.hid (HB2.out.trans (hb3.mono HB2.out.size))
          have HZ3 := Lib.hid (HZ2.out.below hb3 HZ2.out.lt)
          obtain ⟨A2, c2, rfl⟩ := own_shape HV2.out
          obtain ⟨A3, c3, rfl⟩ := own_shape hv3
          have HRA := Lib.hid ((Rd.of_own HV2.out).below hb3 |>.more hb3.size)
          have HRB := Lib.hid (Rd.of_own hv3)
          clear hv3 hb3 HV2 HNA HNB q0 q1 q1' hg0 HB1 HB2 HZ2
          obtain ⟨z0, z1, f0, f1⟩ := blk2U HZ3.out
          go_wp2
          refine bodyPost_ret (v := .tuple #[.agg #[.slice none 0 0, .slice none 0 0], .int .i64 4]) (by simp [results, Tryz.results7, go_sem, z0, z1]) rfl (RLdPost.no hN.out (below_set2U HB3.out _ _))
        | some nb =>
          have hfb := thr_flat hB
          rw [nums_some hB] at HNB
          have hla' : (trisO na).length ≤ 1000000000 := by have := thr_len hA; omega
          have hlb' : (trisO nb).length ≤ 1000000000 := by have := thr_len hB; omega
          have HLS : Hid (loadS t = match takeAll (trisO na) [cfg0] [] with
            | some (cs, tk) => match cliAll (trisO nb) (-1) (fun _ => (0, 0)) with
              | some cl => some ⟨cs, tk, cl⟩
              | none => none
            | none => none) := by unfold Hid; rw [hLS, hA, hB]; rfl
          clear hLS hA hB hla hlb
          simp only at HNA HNB
          rw [← hfa] at HNA
          rw [← hfb] at HNB
          generalize trisO na = LA at *
          generalize trisO nb = LB at *
          rw [flat3_length] at HNA HNB
          clear hfa hfb
          by_cases h120 : 40 < LA.length
          · have hN : Hid (loadS t = none) := by unfold Hid; rw [HLS.out, take_40 h120]
            have d120 : (120 : Int) < 3 * (LA.length : Int) := by omega
            go_enter Tryz.func7, Tryz.ntmps7
            go_wp2_with fail
            refine hU.mono ?_
            rintro e w1 ⟨v, rfl, hv, hb1⟩
            obtain ⟨g, off, c, rfl, hg, q0, q1⟩ := rd_twoU (Rd.of_own hv)
            have hg0 : g < w1.heap.size := hg
            have HB1 := Lib.hid (HAL.out.trans (hb1.mono HAL.out.size))
            have HZ1 := Lib.hid (HZ.out.below hb1 HZ.out.lt)
            clear hU hv hb1 HZ
            go_wp2_with fail
            refine (HNA.out w1).mono ?_
            rintro e w2 ⟨v2, rfl, hv2, hb2⟩
            have q1' : w2.cell? ⟨g, off + 1, none⟩ = some (.string ⟨b.toArray⟩) := (hb2.cell hg0).trans q1
            have HB2 := Lib.hid (HB1.out.trans (hb2.mono HB1.out.size))
            have HZ2 := Lib.hid (HZ1.out.below hb2 HZ1.out.lt)
            have HV2 := Lib.hid hv2
            clear hv2 hb2 HZ1
            go_wp2_with fail
            refine (HNB.out w2).mono ?_
            rintro e w3 ⟨v3, rfl, hv3, hb3⟩
            have HB3 := Lib.hid (HB2.out.trans (hb3.mono HB2.out.size))
            have HZ3 := Lib.hid (HZ2.out.below hb3 HZ2.out.lt)
            obtain ⟨A2, c2, rfl⟩ := own_shape HV2.out
            obtain ⟨A3, c3, rfl⟩ := own_shape hv3
            have HRA := Lib.hid ((Rd.of_own HV2.out).below hb3 |>.more hb3.size)
            have HRB := Lib.hid (Rd.of_own hv3)
            clear hv3 hb3 HV2 HNA HNB q0 q1 q1' hg0 HB1 HB2 HZ2
            obtain ⟨z0, z1, f0, f1⟩ := blk2U HZ3.out
            go_wp2
            refine bodyPost_ret (v := .tuple #[.agg #[.slice none 0 0, .slice none 0 0], .int .i64 4]) (by simp [results, Tryz.results7, go_sem, z0, z1]) rfl (RLdPost.no hN.out (below_set2U HB3.out _ _))
          · have d120 : ¬ (120 : Int) < 3 * (LA.length : Int) := by omega
            have hA40 : LA.length ≤ 40 := by omega
            clear h120
            go_enter Tryz.func7, Tryz.ntmps7
            go_wp2_with fail
            refine hU.mono ?_
            rintro e w1 ⟨v, rfl, hv, hb1⟩
            obtain ⟨g, off, c, rfl, hg, q0, q1⟩ := rd_twoU (Rd.of_own hv)
            have hg0 : g < w1.heap.size := hg
            have HB1 := Lib.hid (HAL.out.trans (hb1.mono HAL.out.size))
            have HZ1 := Lib.hid (HZ.out.below hb1 HZ.out.lt)
            clear hU hv hb1 HZ
            go_wp2_with fail
            refine (HNA.out w1).mono ?_
            rintro e w2 ⟨v2, rfl, hv2, hb2⟩
            have q1' : w2.cell? ⟨g, off + 1, none⟩ = some (.string ⟨b.toArray⟩) := (hb2.cell hg0).trans q1
            have HB2 := Lib.hid (HB1.out.trans (hb2.mono HB1.out.size))
            have HZ2 := Lib.hid (HZ1.out.below hb2 HZ1.out.lt)
            have HV2 := Lib.hid hv2
            clear hv2 hb2 HZ1
            go_wp2_with fail
            refine (HNB.out w2).mono ?_
            rintro e w3 ⟨v3, rfl, hv3, hb3⟩
            have HB3 := Lib.hid (HB2.out.trans (hb3.mono HB2.out.size))
            have HZ3 := Lib.hid (HZ2.out.below hb3 HZ2.out.lt)
            obtain ⟨A2, c2, rfl⟩ := own_shape HV2.out
            obtain ⟨A3, c3, rfl⟩ := own_shape hv3
            have HRA := Lib.hid ((Rd.of_own HV2.out).below hb3 |>.more hb3.size)
            have HRB := Lib.hid (Rd.of_own hv3)
            clear hv3 hb3 HV2 HNA HNB q0 q1 q1' hg0 HB1 HB2 HZ2
            have hp3 : Hid (RMtP w3.heap.size (w3.alloc (.cells #[.slice none 0 0, .slice none 0 0] 30)) w3.heap.size (.slice none 0 0) (.slice none 0 0) [] []) := ⟨Blk.new w3 _ _, World.ownsRow_nil _ _ _ _, World.ownsRow_nil _ _ _ _, Nat.le_refl _⟩
            have hbp : Hid (Below w3.heap.size w3 (w3.alloc (.cells #[.slice none 0 0, .slice none 0 0] 30))) := (Below.refl _ w3).alloc (Nat.le_refl _) _
            go_wp2_with fail
            go_loopw [11] (fun i wr => ∃ (k : Nat) (cs : List Cfg) (tk : List Cmd) (lv : Value), k ≤ LA.length ∧ i = .int .i64 (3 * (k : Int)) ∧ Hid (takeAll (LA.take k) [cfg0] [] = some (cs, tk)) ∧ Hid (RMtP w3.heap.size wr w3.heap.size lv (.slice none 0 0) tk []) ∧ Hid (Below w3.heap.size w3 wr)) (fun i _ => 3 * LA.length - (intOf i).toNat)
            case atStart => exact ⟨0, [cfg0], [], _, Nat.zero_le _, rfl, rfl, hp3.out, hbp.out⟩
            case round =>
              clear hp3 hbp
              obtain ⟨k, cs, tk, lv, hk, rfl, HTK, HM, HB⟩ := hrel
              by_cases hlt : k < LA.length
              · obtain ⟨g1, off1, c1, hV, hg1, p0, p1, p2⟩ := rd_flat (HRA.out.below HB.out) hlt
                injection hV with hA1 hB1 hC1
                subst hA1
                clear hB1 hC1
                have HST := Lib.hid (take_step hlt HTK.out)
                have HSP := Lib.hid (take_stop hlt HTK.out)
                obtain ⟨l41, ltk, _⟩ := take_lens (by omega) HTK.out
                have hrun : cs = runS tk := (take_all HTK.out).2.2.2 rfl
                generalize LA[k] = x at *
                obtain ⟨xa, xb, xc⟩ := x
                simp only at p0 p1 p2 HST HSP
                have k0 : (0 : Int) ≤ 3 * (k : Int) := by omega
                have k1 : 3 * (k : Int) < 3 * (LA.length : Int) := by omega
                have k2 : 3 * (k : Int) + 1 < 3 * (LA.length : Int) := by omega
                have k3 : 3 * (k : Int) + 2 < 3 * (LA.length : Int) := by omega
                have k4 : (0 : Int) ≤ 3 * (k : Int) + 1 := by omega
                have k5 : (0 : Int) ≤ 3 * (k : Int) + 2 := by omega
                have n0 : (3 * (k : Int)).toNat = 3 * k := by omega
                have n1 : (3 * (k : Int) + 1).toNat = 3 * k + 1 := by omega
                have n2 : (3 * (k : Int) + 2).toNat = 3 * k + 2 := by omega
                have hgw : g1 < wr.heap.size := Nat.lt_of_lt_of_le hg1 HB.out.size
                go_upto_region 12 with fail
                go_region
                have HM1 := HM.out
                have HB1' := HB.out
                have htake : ∀ W, Below wr.heap.size wr W → Calls Tryz.prog 18 #[.pointer (some ⟨w3.heap.size, 0, none⟩), .agg #[.int .i64 xa, .int .i64 xb, .int .i64 xc]] W fun e w' =>
                    ∃ lv', e = .returned (.int .i64 (doS cs ⟨xa, xb, xc⟩).2) ∧ RMtP w3.heap.size w' w3.heap.size lv' (.slice none 0 0) (tkS cs tk ⟨xa, xb, xc⟩) [] ∧ Below w3.heap.size w3 w' := fun W hW =>
                  (rmtake_any w3.heap.size w3.heap.size lv (.slice none 0 0) tk [] ⟨xa, xb, xc⟩ W (HM1.below hW) (by omega)).mono (fun e w' h => by
                    obtain ⟨lv', h1, h2, h3⟩ := h
                    rw [← hrun] at h1 h2
                    exact ⟨lv', h1, h2, HB1'.trans ((hW.mono HB1'.size).trans (rm_low h3 (Nat.le_trans HB1'.size hW.size)))⟩)
                have HTKS : Hid (tkS cs tk ⟨xa, xb, xc⟩ = if (doS cs ⟨xa, xb, xc⟩).2 = 0 then tk ++ [⟨xa, xb, xc⟩] else tk) := rfl
                have HTAKE := Lib.hid htake
                clear htake HM1 HB1' hrun k0 k1 k2 k3 k4 k5 n0 n1 n2 p0 p1 p2
                generalize tkS cs tk ⟨xa, xb, xc⟩ = tk' at *
                generalize doS cs ⟨xa, xb, xc⟩ = r at *
                obtain ⟨cs', e'⟩ := r
                simp only at HTKS HST HSP HTAKE
                by_cases h0 : e' = 0
                · subst h0
                  have HT2 : Hid (tk' = tk ++ [⟨xa, xb, xc⟩]) := by unfold Hid; rw [HTKS.out, if_pos rfl]
                  have HS2 : Hid (takeAll (LA.take (k + 1)) [cfg0] [] = some (cs', tk')) := by unfold Hid; rw [HST.out, if_pos rfl, HT2.out]
                  clear HTKS HST HSP HT2
                  go_wp2_with fail
                  refine Calls.mono (HTAKE.out _ (by simp only [bl_drew, bl_alloc, bl_refl])) ?_
                  rintro e w5 ⟨lv', rfl, hm5, hb5⟩
                  have hM5 := Lib.hid hm5
                  have hB5 := Lib.hid hb5
                  clear HTAKE hm5 hb5
                  go_wp2_with fail
                  exact ⟨⟨k + 1, cs', tk', lv', by omega, by simp; omega, HS2.out, hM5.out, hB5.out⟩, by simp [intOf]; omega⟩
                · have hne : (e' != 0) = true := by simpa using h0
                  have hN : Hid (loadS t = none) := by unfold Hid; rw [HLS.out, HSP.out h0]
                  clear HTKS HST HSP
                  go_wp2_with fail
                  refine Calls.mono (HTAKE.out _ (by simp only [bl_drew, bl_alloc, bl_refl])) ?_
                  rintro e w5 ⟨lv', rfl, hm5, hb5⟩
                  obtain ⟨z0, z1, f0, f1⟩ := blk2U (HZ3.out.below hb5 HZ3.out.lt)
                  have HB5 := Lib.hid (HB3.out.trans (hb5.mono HB3.out.size))
                  clear HTAKE hm5 hb5
                  go_wp2
                  refine bodyPost_ret (v := .tuple #[.agg #[.slice none 0 0, .slice none 0 0], .int .i64 4]) (by simp [results, Tryz.results7, go_sem, z0, z1]) rfl (RLdPost.no hN.out (below_set2U HB5.out _ _))
              · obtain rfl : k = LA.length := by omega
                rw [List.take_length] at HTK
                have HLD : Hid (loadS t = match cliAll LB (-1) (fun _ => (0, 0)) with
                  | some cl => some ⟨cs, tk, cl⟩
                  | none => none) := by unfold Hid; rw [HLS.out, HTK.out]
                obtain ⟨wo, rfl⟩ : ∃ wo : World, wo = wr := ⟨_, rfl⟩
                clear HLS HTK HRA hlt
                go_wp2_with fail
                go_loopw [13, 14] (fun bv i wr => ∃ (k : Nat) (bf : Int) (cl : Cls) (C : List Cli) (cv : Value), k ≤ LB.length ∧ i = .int .i64 (3 * (k : Int)) ∧ bv = .int .i64 bf ∧ -1 ≤ bf ∧ bf < 8 ∧ (C.length : Int) ≤ bf + 1 ∧ Hid (∀ y ∈ C, y.c ≤ bf) ∧ Hid (AgC cl C) ∧ Hid (cliAll LB (-1) (fun _ => (0, 0)) = cliAll (LB.drop k) bf cl) ∧ Hid (RMtP w3.heap.size wr w3.heap.size lv cv tk C) ∧ Hid (Below w3.heap.size w3 wr)) (fun _ i _ => 3 * LB.length - (intOf i).toNat)
                case atStart => exact ⟨0, -1, _, [], _, Nat.zero_le _, rfl, rfl, by omega, by omega, by simp, fun _ h => (by cases h), agC_nil, rfl, HM.out, HB.out⟩
                case round =>
                clear HM HB
                obtain ⟨k, bf, cl, C, cv, hk, rfl, rfl, hbf0, hbf8, hCl, HCC, HAG, HCL, HM, HB⟩ := hrel
                by_cases hlt : k < LB.length
                rotate_left
                · obtain rfl : k = LB.length := by omega
                  rw [List.drop_length] at HCL
                  have hS : Hid (loadS t = some ⟨cs, tk, cl⟩) := by unfold Hid; rw [HLD.out, HCL.out]; rfl
                  clear HLD HCL
                  obtain ⟨z0, z1, f0, f1⟩ := blk2U (HZ3.out.below HB.out HZ3.out.lt)
                  obtain ⟨b0, b1, _, _⟩ := blk2U HM.out.box
                  have hrw : w.heap.size ≠ w3.heap.size := by have := HZ3.out.lt; omega
                  have hlt9 := HZ3.out.lt
                  have hlr := HM.out.row
                  have hlc := HM.out.cli
                  obtain ⟨Al, al, rfl⟩ := own_shape hlr
                  obtain ⟨Ac, ac, rfl⟩ := own_shape hlc
                  have HLR := Lib.hid hlr
                  have HLC := Lib.hid hlc
                  have hb5 := HB3.out.trans (HB.out.mono HB3.out.size)
                  have hwc : Chg (fun i => i = w.heap.size) wr ((wr.setCell ⟨w.heap.size, 0, none⟩ (.slice Al tk.length al)).setCell ⟨w.heap.size, 1, none⟩ (.slice Ac C.length ac)) := ((Chg.refl (fun i => i = w.heap.size) wr).setCell (p := ⟨w.heap.size, 0, none⟩) (fun _ => rfl) _).setCell (p := ⟨w.heap.size, 1, none⟩) (fun _ => rfl) _
                  have HFI := Lib.hid (And.intro (hwc.owns hlr (fun g h e => by have := (hlr.lt g h).1; omega)) (And.intro (hwc.owns hlc (fun g h e => by have := (hlc.lt g h).1; omega)) (below_set2U hb5 (.slice Al tk.length al) (.slice Ac C.length ac))))
                  clear hlr hlc hb5 hwc
                  go_wp2
                  refine bodyPost_ret (v := .tuple #[.agg #[.slice Al tk.length al, .slice Ac C.length ac], .int .i64 0]) (by simp [results, Tryz.results7, go_sem, z0, z1]) rfl ?_
                  rw [hS.out]
                  exact ⟨w3.heap.size, _, _, C, rfl, HB3.out.size, HFI.out.1, HFI.out.2.1, HAG.out, by omega, HFI.out.2.2⟩
                obtain ⟨g1, off1, c1, hV, hg1, p0, p1, p2⟩ := rd_flat (HRB.out.below HB.out) hlt
                injection hV with hA1 hB1 hC1
                subst hA1
                clear hB1 hC1
                have HCD := cli_drop LB k hlt bf cl
                rw [← HCL.out] at HCD
                generalize LB[k] = x at *
                obtain ⟨xa, xb, xc⟩ := x
                simp only at p0 p1 p2 HCD
                obtain ⟨z0, z1, f0, f1⟩ := blk2U (HZ3.out.below HB.out HZ3.out.lt)
                have HB5 := Lib.hid (HB3.out.trans (HB.out.mono HB3.out.size))
                have HBAD : Hid (badT bf (xa, xb, xc) = true → loadS t = none) := fun h => by rw [HLD.out, HCD, if_pos h]
                have HOK : Hid (badT bf (xa, xb, xc) = false → cliAll LB (-1) (fun _ => (0, 0)) = cliAll (LB.drop (k + 1)) xa (upd cl xa.toNat (xb, xc))) := fun h => by rw [HCD, if_neg (by rw [h]; simp)]
                have k0 : (0 : Int) ≤ 3 * (k : Int) := by omega
                have k1 : 3 * (k : Int) < 3 * (LB.length : Int) := by omega
                have k2 : 3 * (k : Int) + 1 < 3 * (LB.length : Int) := by omega
                have k3 : 3 * (k : Int) + 2 < 3 * (LB.length : Int) := by omega
                have k4 : (0 : Int) ≤ 3 * (k : Int) + 1 := by omega
                have k5 : (0 : Int) ≤ 3 * (k : Int) + 2 := by omega
                have n0 : (3 * (k : Int)).toNat = 3 * k := by omega
                have n1 : (3 * (k : Int) + 1).toNat = 3 * k + 1 := by omega
                have n2 : (3 * (k : Int) + 2).toNat = 3 * k + 2 := by omega
                have hgw : g1 < wr.heap.size := Nat.lt_of_lt_of_le hg1 HB.out.size
                clear HCL HCD
                by_cases t0 : xa ≤ bf
                · have d1 : decide (xa ≤ bf) = true := decide_eq_true t0
                  have hN := Lib.hid <| HBAD.out (by simp [badT]; omega)
                  clear HOK HBAD HM t0 HLD
                  go_wp2
                  refine bodyPost_ret (v := .tuple #[.agg #[.slice none 0 0, .slice none 0 0], .int .i64 4]) (by simp [results, Tryz.results7, go_sem, z0, z1]) rfl (RLdPost.no hN.out (below_set2U HB5.out _ _))
                have d1 : decide (xa ≤ bf) = false := decide_eq_false t0
                by_cases t1 : 7 < xa
                · have d2 : decide (7 < xa) = true := decide_eq_true t1
                  have hN := Lib.hid <| HBAD.out (by simp [badT]; omega)
                  clear HOK HBAD HM t1 HLD
                  go_wp2
                  refine bodyPost_ret (v := .tuple #[.agg #[.slice none 0 0, .slice none 0 0], .int .i64 4]) (by simp [results, Tryz.results7, go_sem, z0, z1]) rfl (RLdPost.no hN.out (below_set2U HB5.out _ _))
                have d2 : decide (7 < xa) = false := decide_eq_false t1
                by_cases t2 : xb < 1
                · have d3 : decide (xb < 1) = true := decide_eq_true t2
                  have hN := Lib.hid <| HBAD.out (by simp [badT]; omega)
                  clear HOK HBAD HM t2 HLD
                  go_wp2
                  refine bodyPost_ret (v := .tuple #[.agg #[.slice none 0 0, .slice none 0 0], .int .i64 4]) (by simp [results, Tryz.results7, go_sem, z0, z1]) rfl (RLdPost.no hN.out (below_set2U HB5.out _ _))
                have d3 : decide (xb < 1) = false := decide_eq_false t2
                by_cases t3 : 1099511627776 < xb
                · have d4 : decide (1099511627776 < xb) = true := decide_eq_true t3
                  have hN := Lib.hid <| HBAD.out (by simp [badT]; omega)
                  clear HOK HBAD HM t3 HLD
                  go_wp2
                  refine bodyPost_ret (v := .tuple #[.agg #[.slice none 0 0, .slice none 0 0], .int .i64 4]) (by simp [results, Tryz.results7, go_sem, z0, z1]) rfl (RLdPost.no hN.out (below_set2U HB5.out _ _))
                have d4 : decide (1099511627776 < xb) = false := decide_eq_false t3
                by_cases t4 : xc < 0
                · have d5 : decide (xc < 0) = true := decide_eq_true t4
                  have hN := Lib.hid <| HBAD.out (by simp [badT]; omega)
                  clear HOK HBAD HM t4 HLD
                  go_wp2
                  refine bodyPost_ret (v := .tuple #[.agg #[.slice none 0 0, .slice none 0 0], .int .i64 4]) (by simp [results, Tryz.results7, go_sem, z0, z1]) rfl (RLdPost.no hN.out (below_set2U HB5.out _ _))
                have d5 : decide (xc < 0) = false := decide_eq_false t4
                by_cases t5 : 999 < xc
                · have d6 : decide (999 < xc) = true := decide_eq_true t5
                  have hN := Lib.hid <| HBAD.out (by simp [badT]; omega)
                  clear HOK HBAD HM t5 HLD
                  go_wp2
                  refine bodyPost_ret (v := .tuple #[.agg #[.slice none 0 0, .slice none 0 0], .int .i64 4]) (by simp [results, Tryz.results7, go_sem, z0, z1]) rfl (RLdPost.no hN.out (below_set2U HB5.out _ _))
                have d6 : decide (999 < xc) = false := decide_eq_false t5
                have HNX := Lib.hid (HOK.out (by simp [badT]; omega))
                obtain ⟨j, rfl⟩ : ∃ j : Nat, xa = (j : Int) := ⟨xa.toNat, by omega⟩
                rw [show ((j : Int)).toNat = j by omega] at HNX
                have wq1 : IntKind.i64.wrap (3 * (k : Int) + 1) = 3 * (k : Int) + 1 := by rw [IntKind.wrap_i64]; omega
                have wq2 : IntKind.i64.wrap (3 * (k : Int) + 2) = 3 * (k : Int) + 2 := by rw [IntKind.wrap_i64]; omega
                have hj : j < 8 := by omega
                have hC9 : C.length ≤ j := by omega
                have HAG2 := Lib.hid (agC_push HAG.out j xb xc (fun y hy => by have := HCC.out y hy; omega))
                have HCC2 : Hid (∀ y ∈ C ++ [⟨(j : Int), xb, xc⟩], y.c ≤ (j : Int)) := fun y hy => by
                  rcases List.mem_append.1 hy with h | h
                  · have := HCC.out y h; omega
                  · rw [List.mem_singleton] at h; subst h; exact Int.le_refl _
                clear HBAD HOK t1 t2 t3 t4 t5 t0 hbf0 hbf8 HAG HCC hCl z0 z1 f0 f1
                obtain ⟨i0, hi0, hz0, hz1, hz2⟩ := info_parts rcli_info
                obtain ⟨Ac, cc, rfl⟩ := own_shape HM.out.cli
                have b1 : wr.cell? ⟨w3.heap.size, 1, none⟩ = some (.slice Ac C.length cc) := HM.out.box.cell 1
                have fb1 := HM.out.box.frozen 1
                have hblt : w3.heap.size < wr.heap.size := HM.out.box.lt
                have hone : Hid (∀ u ∈ Cli.cells ⟨(j : Int), xb, xc⟩, u.oneCell' = true) := by intro u hu; simp [Cli.cells] at hu; rcases hu with rfl | rfl | rfl <;> rfl
                have HO : Hid (∀ (o : Obj), (wr.drew.alloc o).ownsRow w3.heap.size 71 3 (.slice Ac C.length cc) C.length (cellsC C)) := fun o => World.ownsRow.alloc (w := wr.drew) HM.out.cli o
                have HAP : Hid (∀ w4 cv' o, (wr.alloc o).grownBy w4 (Value.slice Ac C.length cc).ownBlock → w4.ownsRow w3.heap.size 71 3 cv' (C.length + 1) (cellsC C ++ Cli.cells ⟨(j : Int), xb, xc⟩) → _) := fun w4 cv' o hg ho => HM.out.push ⟨(j : Int), xb, xc⟩ hg ho
                generalize hLL : cellsC C = LL at *
                have HLL := Lib.hid hLL
                clear hLL
                go_upto_region 22 with fail
                clear d1 d2 d3 d4 d5 d6
                refine wp_tail (fun KK hKK => ?_)
                go_cut [] (fun wc => ∃ cv', RMtP w3.heap.size wc w3.heap.size lv cv' tk (C ++ [⟨(j : Int), xb, xc⟩]) ∧ Below w3.heap.size wr wc)
                case first =>
                  go_region_law ((refine step_append_lies _ (by rfl) (.tmp 137) (.tmp 153) _ (by rfl) w3.heap.size 71 i0 _ 3 24 Tryz.underlying28 hi0 hz0 hz1 hz2 (by rfl) (by omega) (.slice Ac C.length cc) C.length LL (by simp [Act.eval]) (HO.out _) ⟨wr.heap.size, 0, none⟩ 1 1 (Cli.cells ⟨(j : Int), xb, xc⟩) (by simp [Act.eval]) (by rfl) (World.news_of_block (heap_alloc_new _ _)) hone.out (by omega) (by unfold maxLen; omega) (by omega) (by simp; omega) (wr.heap.size + 1) (by simp) ?_; intro g2 cap2 w4 hown4 hg4 hat4 hlt4; have hap := HAP.out w4 _ (.cells #[.int .i64 (j : Int), .int .i64 xb, .int .i64 xc] 71) ⟨hg4.os, hg4.tape, hg4.output, hg4.size, hg4.block⟩ hown4; have hc4 := hap.2.2.1; have hf4 := hap.2.2.2))
                  all_goals
                    go_wp2_with fail
                    go_meet
                    case rel => exact ⟨_, hap.1, hap.2.1⟩
                case rest =>
                  obtain ⟨cv', hM9, hB9⟩ := hcut
                  have HM9 := Lib.hid hM9
                  have HB9 := Lib.hid hB9
                  clear hM9 hB9 HAP HO HM b1 fb1
                  refine hKK _ _ ?_
                  go_wp2_with fail
                  exact ⟨⟨k + 1, (j : Int), upd cl j (xb, xc), C ++ [(⟨(j : Int), xb, xc⟩ : Cli)], cv', by omega, by simp; omega, rfl, by omega, by omega, by simp; omega, HCC2, HAG2, HNX, HM9, HB.out.trans HB9.out⟩, by simp [intOf]; omega⟩
    · have hN : Hid (loadS t = none) := loadS_not2 h2
      have hne : (((unpackB t).1.length : Int) != 2) = true := by simp only [bne_iff_ne, ne_eq]; omega
      rw [he] at hU
      clear hsm
      go_enter Tryz.func7, Tryz.ntmps7
      go_wp2_with fail
      refine hU.mono ?_
      rintro e w1 ⟨v, rfl, hv, hb1⟩
      obtain ⟨A, c, rfl⟩ := own_shape hv
      have HB1 := Lib.hid (HAL.out.trans (hb1.mono HAL.out.size))
      obtain ⟨z0, z1, f0, f1⟩ := blk2U (HZ.out.below hb1 HZ.out.lt)
      clear hU hv hb1 HZ
      go_wp2
      refine bodyPost_ret (v := .tuple #[.agg #[.slice none 0 0, .slice none 0 0], .int .i64 4]) (by simp [results, Tryz.results7, go_sem, z0, z1]) rfl (RLdPost.no hN.out (below_set2U HB1.out _ _))
  · have hu := unpackB_fourU t he
    have hN : Hid (loadS t = none) := loadS_bad he
    rw [hu] at hU
    go_enter Tryz.func7, Tryz.ntmps7
    go_wp2_with fail
    refine hU.mono ?_
    rintro e w1 ⟨v, rfl, hv, hb1⟩
    obtain ⟨A, c, rfl⟩ := own_shape hv
    have HB1 := Lib.hid (HAL.out.trans (hb1.mono HAL.out.size))
    obtain ⟨z0, z1, f0, f1⟩ := blk2U (HZ.out.below hb1 HZ.out.lt)
    clear hU hv hb1 HZ
    go_wp2
    refine bodyPost_ret (v := .tuple #[.agg #[.slice none 0 0, .slice none 0 0], .int .i64 4]) (by simp [results, Tryz.results7, go_sem, z0, z1]) rfl (RLdPost.no hN.out (below_set2U HB1.out _ _))

end Go.Proofs.YtijacbnoemjgcaaGreatDoor
