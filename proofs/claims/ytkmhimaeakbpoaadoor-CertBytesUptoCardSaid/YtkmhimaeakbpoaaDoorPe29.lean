/- cert: Add. -/
import Derived.Test.YtkmhimaeakbpoaaDoorPe24
import Derived.Test.YtkmhimaeakbpoaaDoorPe26
import Derived.Test.YtkmhimaeakbpoaaDoorPe28
set_option linter.unusedVariables false
set_option linter.unusedSimpArgs false
set_option linter.unnecessarySimpa false
namespace Go.Proofs.YtkmhimaeakbpoaaDoor
open Go.RowKit Go.Shelf

/-- A certificate and an error come back. -/
def CrtOut (w : World) (r : Crt × Int) (e : Ending) (w' : World) : Prop :=
  ∃ A cc, e = .returned (.tuple #[.agg #[.string ⟨r.1.t.toArray⟩, .int .i64 r.1.g, .slice A r.1.tags.length cc], .int .i64 r.2]) ∧ w'.ownsRow w.heap.size 64 2 (.slice A r.1.tags.length cc) r.1.tags.length (cellsT r.1.tags) ∧ Below w.heap.size w w'
theorem below_set3Y {B b : Nat} {W w1 : World} (h : Below B W w1) (v0 v1 v2 : Value) (hb : B ≤ b) : Below B W (((w1.setCell ⟨b, 0, none⟩ v0).setCell ⟨b, 1, none⟩ v1).setCell ⟨b, 2, none⟩ v2) := ((h.setCell hb _).setCell hb _).setCell hb _
theorem addS_form {c : Crt} {g n : Int} {text tag : Bs} (h : formS c ≠ 0) : addS c g n text tag = (crt0, formS c) := by unfold addS; rw [if_pos h]
theorem own_set3Y {w1 : World} {b base : Nat} {cs : Array Value} {v : Value} {n : Nat} {xs : List Value} (h : Blk w1 b 24 cs) (ho : w1.ownsRow base 64 2 v n xs) (v0 v1 v2 : Value) :
    (((w1.setCell ⟨b, 0, none⟩ v0).setCell ⟨b, 1, none⟩ v1).setCell ⟨b, 2, none⟩ v2).ownsRow base 64 2 v n xs :=
  ((((Chg.refl (fun i => i = b) w1).setCell (p := ⟨b, 0, none⟩) (fun _ => rfl) v0).setCell (p := ⟨b, 1, none⟩) (fun _ => rfl) v1).setCell (p := ⟨b, 2, none⟩) (fun _ => rfl) v2).owns ho (fun g hg e => own_blk_ne ho h (by decide) (by rw [hg, e]))
theorem own_set1Y {w1 : World} {b base : Nat} {cs : Array Value} {v : Value} {n : Nat} {xs : List Value} (h : Blk w1 b 24 cs) (ho : w1.ownsRow base 64 2 v n xs) (i : Nat) (v0 : Value) :
    (w1.setCell ⟨b, i, none⟩ v0).ownsRow base 64 2 v n xs :=
  ((Chg.refl (fun i => i = b) w1).setCell (p := ⟨b, i, none⟩) (fun _ => rfl) v0).owns ho (fun g hg e => own_blk_ne ho h (by decide) (by rw [hg, e]))
/-- Behind slices.Insert. -/
structure InsOK (W : World) (l : List TagV) (v' : Value) (w2 : World) : Prop where
  own : w2.ownsRow W.heap.size 64 2 v' l.length (cellsT l)
  bel : Below W.heap.size W w2
theorem insA {W w1 : World} {v1 : Value} {l : List TagV} {no : Int} {s : Bs} {i : Nat} (hi : i ≤ l.length) (hm : l.length ≤ 1048576) (hbl : Below W.heap.size W w1) (ho : w1.ownsRow W.heap.size 64 2 v1 l.length (cellsT l)) :
    Calls Tryd.prog 29 #[v1, .int .i64 i, .slice (some ⟨w1.heap.size, 0, none⟩) 1 1] (w1.alloc (.cells #[.int .i64 no, .string ⟨s.toArray⟩] 64)) fun e w2 => ∃ v', e = .returned v' ∧ InsOK W (l.take i ++ (no, s) :: l.drop i) v' w2 := by
  have hba := below_al hbl (.cells #[.int .i64 no, .string ⟨s.toArray⟩] 64)
  refine (insert_any v1 l i hi (no, s) w1.heap.size W.heap.size _ (ho.alloc _) (Blk.new w1 _ _) (fun e => by have := (ho.lt _ e).2; omega) hba.size hm).mono ?_
  rintro e w2 ⟨v', rfl, hown, hch⟩
  exact ⟨v', rfl, by simpa [List.length_append, Nat.min_eq_left hi, Nat.add_sub_cancel' hi, show i + (l.length - i + 1) = l.length + 1 by omega] using hown, hba.trans (hch.to_below (fun k hk e => by have := ((ho.alloc (.cells #[.int .i64 no, .string ⟨s.toArray⟩] 64)).lt _ e).1; omega) hba.size)⟩
theorem insB {W wb w1 : World} {vb : Nat} {v1 : Value} {l : List TagV} {no : Int} {s : Bs} {i : Nat} (hi : i ≤ l.length) (hm : l.length ≤ 1048576) (hbl : Below W.heap.size W wb) (hb1 : Below wb.heap.size wb w1) (hx : Blk wb vb 64 #[.int .i64 no, .string ⟨s.toArray⟩]) (ho : w1.ownsRow wb.heap.size 64 2 v1 l.length (cellsT l)) :
    Calls Tryd.prog 29 #[v1, .int .i64 i, .slice (some ⟨vb, 0, none⟩) 1 1] w1 fun e w2 => ∃ v', e = .returned v' ∧ InsOK W (l.take i ++ (no, s) :: l.drop i) v' w2 := by
  have hba := below_then hbl hb1
  refine (insert_any v1 l i hi (no, s) vb W.heap.size _ (own_weaken ho hbl.size) (hx.below hb1 hx.lt) (fun e => by have := (ho.lt _ e).1; have := hx.lt; omega) hba.size hm).mono ?_
  rintro e w2 ⟨v', rfl, hown, hch⟩
  exact ⟨v', rfl, by simpa [List.length_append, Nat.min_eq_left hi, Nat.add_sub_cancel' hi, show i + (l.length - i + 1) = l.length + 1 by omega] using hown, hba.trans (hch.to_below (fun k hk e => by have := (ho.lt _ e).1; have := hbl.size; omega) hba.size)⟩

theorem keepA {W w' : World} {bs : Nat} {ts : TypeId} {c0 c1 c2 c3 : Value} (hs : Blk W bs ts #[c0, c1, c2, c3]) (h : Below W.heap.size W w') :
    w'.cell? ⟨bs, 1, none⟩ = some c1 ∧ w'.cell? ⟨bs, 3, none⟩ = some c3 := ⟨(hs.below h hs.lt).cell 1, (hs.below h hs.lt).cell 3⟩
theorem keepA0 {w' : World} {bs : Nat} {ts : TypeId} {c0 c1 c2 c3 : Value} (hs : Blk w' bs ts #[c0, c1, c2, c3]) :
    w'.cell? ⟨bs, 1, none⟩ = some c1 ∧ w'.cell? ⟨bs, 3, none⟩ = some c3 := ⟨hs.cell 1, hs.cell 3⟩

set_option maxHeartbeats 8000000 in
set_option maxRecDepth 100000 in
theorem add_no (c : Crt) (v : Value) (g n : Int) (text tag : Bs) (w : World) (hl : LayN w) (B : Nat) (hB : B ≤ w.heap.size) (hr : Rd w B 2 v c.tags.length (cellsT c.tags)) (hm : c.tags.length ≤ 1048576) (hno : ¬ (formS c = 0 ∧ isPB g n = true ∧ g = c.g ∧ text = c.t ∧ tag.length = 16 ∧ c.tags.any (fun y => decide (y.1 = n)) = false)) :
    Calls Tryd.prog 10 #[.agg #[.string ⟨c.t.toArray⟩, .int .i64 c.g, v], .agg #[.int .i64 g, .int .i64 n, .string ⟨text.toArray⟩, .string ⟨tag.toArray⟩]] w (CrtOut w (addS c g n text tag)) := by
  obtain ⟨A, cc, rfl⟩ : ∃ A cc, v = .slice A c.tags.length cc := by obtain ⟨_, A, cc, rfl, _⟩ := hr; exact ⟨_, _, rfl⟩
  have HR := Lib.hid (hr.more hB)
  clear hr
  -- the three blocks
  generalize hW0 : ((w.alloc (.cells #[.string ⟨c.t.toArray⟩, .int .i64 c.g, .slice A c.tags.length cc] 24)).alloc (.cells #[.int .i64 g, .int .i64 n, .string ⟨text.toArray⟩, .string ⟨tag.toArray⟩] 28)).alloc (.cells #[.string ⟨#[]⟩, .int .i64 0, .slice none 0 0] 24) = W0
  have hb0 : Below w.heap.size w W0 := by rw [← hW0]; exact (((Below.refl _ w).alloc (Nat.le_refl _) _).alloc (by simp) _).alloc (by simp; omega) _
  have hs1 : (w.alloc (.cells #[.string ⟨c.t.toArray⟩, .int .i64 c.g, .slice A c.tags.length cc] 24)).heap.size = w.heap.size + 1 := by simp
  have hs2 : ((w.alloc (.cells #[.string ⟨c.t.toArray⟩, .int .i64 c.g, .slice A c.tags.length cc] 24)).alloc (.cells #[.int .i64 g, .int .i64 n, .string ⟨text.toArray⟩, .string ⟨tag.toArray⟩] 28)).heap.size = w.heap.size + 1 + 1 := by simp
  have hX0 : Blk W0 w.heap.size 24 #[.string ⟨c.t.toArray⟩, .int .i64 c.g, .slice A c.tags.length cc] := by rw [← hW0]; exact ((Blk.new w _ _).alloc _).alloc _
  have hS0 : Blk W0 (w.heap.size + 1) 28 #[.int .i64 g, .int .i64 n, .string ⟨text.toArray⟩, .string ⟨tag.toArray⟩] := by rw [← hW0, ← hs1]; exact (Blk.new _ _ _).alloc _
  have hZ0 : Blk W0 (w.heap.size + 1 + 1) 24 #[.string ⟨#[]⟩, .int .i64 0, .slice none 0 0] := by rw [← hW0, ← hs2]; exact Blk.new _ _ _
  have hF := form_any c (.slice A c.tags.length cc) W0 w.heap.size hb0.size (HR.out.below hb0) hm
  have x0 : W0.cell? ⟨w.heap.size, 0, none⟩ = some (.string ⟨c.t.toArray⟩) := hX0.cell 0
  have x1 : W0.cell? ⟨w.heap.size, 1, none⟩ = some (.int .i64 c.g) := hX0.cell 1
  have x2 : W0.cell? ⟨w.heap.size, 2, none⟩ = some (.slice A c.tags.length cc) := hX0.cell 2
  have HX := Lib.hid hX0
  have HS := Lib.hid hS0
  have HZ := Lib.hid hZ0
  have HB0 := Lib.hid hb0
  clear hb0 hs1 hs2 hX0 hS0 hZ0
  have HW0 := Lib.hid hW0
  by_cases hf : formS c = 0
  · obtain ⟨f1, f2, f3⟩ := form_in hf
    have HPW := Lib.hid (tagsE_pair f3)
    have HDS := Lib.hid (show addS c g n text tag = if isPB g n = false then (crt0, 1) else if g ≠ c.g then (crt0, 41) else if text ≠ c.t ∨ tag.length ≠ 16 then (crt0, 4) else if c.tags.any (fun y => decide (y.1 = n)) then (crt0, 42) else (⟨c.t, c.g, insT c.tags (n, tag)⟩, 0) by unfold addS; rw [if_neg (by simpa using hf)])
    have HNO : Hid (isPB g n = true → g = c.g → text = c.t → tag.length = 16 → c.tags.any (fun y => decide (y.1 = n)) = true) := fun h1 h2 h3 h4 => by
      cases h5 : c.tags.any (fun y => decide (y.1 = n)) with
      | true => rfl
      | false => exact absurd ⟨hf, h1, h2, h3, h4, h5⟩ hno
    have HFM := Lib.hid f3
    rw [hf] at hF
    clear hf f1 f2 f3 hno
    go_enter Tryd.func10, Tryd.ntmps10
    go_upto_region 1 with fail
    clear hW0
    go_wp2_with fail
    refine hF.mono ?_
    rintro e W ⟨rfl, hb1⟩
    have hs := HS.out.below hb1 HS.out.lt
    have s0 : W.cell? ⟨w.heap.size + 1, 0, none⟩ = some (.int .i64 g) := hs.cell 0
    have s1 : W.cell? ⟨w.heap.size + 1, 1, none⟩ = some (.int .i64 n) := hs.cell 1
    have HBW := Lib.hid (HB0.out.trans (hb1.mono HB0.out.size))
    have HX1 := Lib.hid (HX.out.below hb1 HX.out.lt)
    have HS1 := Lib.hid hs
    have HZ1 := Lib.hid (HZ.out.below hb1 HZ.out.lt)
    clear hb1 hs hF x0 x1 x2 HX HS HZ HB0 HW0
    have HNM := Lib.hid (name_any g n W (hl.later HBW.out))
    cases hp : isPB g n with
    | false =>
      have HN : Hid (nameS g n = ([], 1)) := by unfold Hid nameS; rw [hp]; rfl
      have HE : Hid (addS c g n text tag = (crt0, 1)) := by unfold Hid; rw [HDS.out, if_pos hp]
      have hnm := HNM.out
      rw [HN.out] at hnm
      have HNM2 := Lib.hid hnm
      clear hnm HNM HN HDS hp HFM
      go_wp2_with fail
      refine HNM2.out.mono ?_
      rintro e W2 ⟨rfl, hb2⟩
      have hx := HX1.out.below hb2 HX1.out.lt
      have hs := HS1.out.below hb2 HS1.out.lt
      have x2 : W2.cell? ⟨w.heap.size, 2, none⟩ = some (.slice A c.tags.length cc) := hx.cell 2
      have s1 : W2.cell? ⟨w.heap.size + 1, 1, none⟩ = some (.int .i64 n) := hs.cell 1
      have HB2 := Lib.hid (HBW.out.trans (hb2.mono HBW.out.size))
      have HZ2 := Lib.hid (HZ1.out.below hb2 HZ1.out.lt)
      clear hb2 hx hs s0 HBW HNM2 HX1 HS1 HZ1
      go_wp2_with fail
      refine (search_any (.slice A c.tags.length cc) c.tags n W2 w.heap.size HB2.out.size (HR.out.below HB2.out) HPW.out hm).mono ?_
      rintro e W3 ⟨rfl, hb3⟩
      have hz := HZ2.out.below hb3 HZ2.out.lt
      have z0 : W3.cell? ⟨w.heap.size + 1 + 1, 0, none⟩ = some (.string ⟨#[]⟩) := hz.cell 0
      have z1 : W3.cell? ⟨w.heap.size + 1 + 1, 1, none⟩ = some (.int .i64 0) := hz.cell 1
      have z2 : W3.cell? ⟨w.heap.size + 1 + 1, 2, none⟩ = some (.slice none 0 0) := hz.cell 2
      have f0 := hz.frozen 0
      have f1 := hz.frozen 1
      have f2 := hz.frozen 2
      have HB3 := Lib.hid (HB2.out.trans (hb3.mono HB2.out.size))
      generalize c.tags.any (fun y => decide (y.1 = n)) = there at *
      generalize c.tags.countP (fun y => decide (y.1 < n)) = i at *
      clear hb3 hz x2 s1 HZ2
      go_wp2_with fail
      refine bodyPost_ret (v := .tuple #[.agg #[.string ⟨#[]⟩, .int .i64 0, .slice none 0 0], .int .i64 1]) (by simp [results, Tryd.results10, go_sem, z0, z1, z2]) rfl ?_
      rw [HE.out]
      exact ⟨none, 0, rfl, World.ownsRow_nil _ _ _ _, below_set3Y HB3.out _ _ _ (by omega)⟩
    | true =>
      have HN : Hid (nameS g n = (nameB g n, 0)) := by unfold Hid nameS; rw [hp]; rfl
      have HD2 : Hid (addS c g n text tag = if g ≠ c.g then (crt0, 41) else if text ≠ c.t ∨ tag.length ≠ 16 then (crt0, 4) else if c.tags.any (fun y => decide (y.1 = n)) then (crt0, 42) else (⟨c.t, c.g, insT c.tags (n, tag)⟩, 0)) := by unfold Hid; rw [HDS.out, if_neg (by rw [hp]; simp)]
      have hnm := HNM.out
      rw [HN.out] at hnm
      have HNM2 := Lib.hid hnm
      have HNO2 := Lib.hid (HNO.out hp)
      clear hnm HNM HN HDS hp HNO
      generalize nameB g n = nm at *
      go_wp2_with fail
      refine HNM2.out.mono ?_
      rintro e W2 ⟨rfl, hb2⟩
      have hx := HX1.out.below hb2 HX1.out.lt
      have hs := HS1.out.below hb2 HS1.out.lt
      have x2 : W2.cell? ⟨w.heap.size, 2, none⟩ = some (.slice A c.tags.length cc) := hx.cell 2
      have s1 : W2.cell? ⟨w.heap.size + 1, 1, none⟩ = some (.int .i64 n) := hs.cell 1
      have HB2 := Lib.hid (HBW.out.trans (hb2.mono HBW.out.size))
      have HX2 := Lib.hid hx
      have HS2 := Lib.hid hs
      have HZ2 := Lib.hid (HZ1.out.below hb2 HZ1.out.lt)
      clear hb2 hx hs s0 HBW HNM2 HX1 HS1 HZ1
      go_wp2_with fail
      refine (search_any (.slice A c.tags.length cc) c.tags n W2 w.heap.size HB2.out.size (HR.out.below HB2.out) HPW.out hm).mono ?_
      rintro e W3 ⟨rfl, hb3⟩
      have hx := HX2.out.below hb3 HX2.out.lt
      have hs := HS2.out.below hb3 HS2.out.lt
      have hz := HZ2.out.below hb3 HZ2.out.lt
      have x0 : W3.cell? ⟨w.heap.size, 0, none⟩ = some (.string ⟨c.t.toArray⟩) := hx.cell 0
      have x1 : W3.cell? ⟨w.heap.size, 1, none⟩ = some (.int .i64 c.g) := hx.cell 1
      have s0 : W3.cell? ⟨w.heap.size + 1, 0, none⟩ = some (.int .i64 g) := hs.cell 0
      have s2 : W3.cell? ⟨w.heap.size + 1, 2, none⟩ = some (.string ⟨text.toArray⟩) := hs.cell 2
      have s3 : W3.cell? ⟨w.heap.size + 1, 3, none⟩ = some (.string ⟨tag.toArray⟩) := hs.cell 3
      have z0 : W3.cell? ⟨w.heap.size + 1 + 1, 0, none⟩ = some (.string ⟨#[]⟩) := hz.cell 0
      have z1 : W3.cell? ⟨w.heap.size + 1 + 1, 1, none⟩ = some (.int .i64 0) := hz.cell 1
      have z2 : W3.cell? ⟨w.heap.size + 1 + 1, 2, none⟩ = some (.slice none 0 0) := hz.cell 2
      have f0 := hz.frozen 0
      have f1 := hz.frozen 1
      have f2 := hz.frozen 2
      have HX3 := Lib.hid hx
      have HS3 := Lib.hid hs
      have HZ3 := Lib.hid hz
      have HB3 := Lib.hid (HB2.out.trans (hb3.mono HB2.out.size))
      have hile : c.tags.countP (fun y => decide (y.1 < n)) ≤ c.tags.length := List.countP_le_length
      have HINS : Hid (insT c.tags (n, tag) = c.tags.take (c.tags.countP (fun y => decide (y.1 < n))) ++ (n, tag) :: c.tags.drop (c.tags.countP (fun y => decide (y.1 < n)))) := rfl
      generalize c.tags.any (fun y => decide (y.1 = n)) = there at *
      generalize c.tags.countP (fun y => decide (y.1 < n)) = i at *
      clear hb3 hz hx hs x2 s1 HZ2 HX2 HS2 HB2
      by_cases hg : g = c.g
      · have dg : (g != c.g) = false := by simp [hg]
        by_cases ht : text = c.t
        · subst ht
          by_cases hl16 : tag.length = 16
          · have d16 : ((tag.length : Int) != 16) = false := by simp [hl16]
            have HTH : Hid (there = true) := HNO2.out hg rfl hl16
            cases there with
            | true =>
              have HE : Hid (addS c g n c.t tag = (crt0, 42)) := by unfold Hid; rw [HD2.out, if_neg (by simpa using hg), if_neg (by simp [hl16]), if_pos rfl]
              clear hg hl16 HD2
              go_wp2_with fail
              refine bodyPost_ret (v := .tuple #[.agg #[.string ⟨#[]⟩, .int .i64 0, .slice none 0 0], .int .i64 42]) (by simp [results, Tryd.results10, go_sem, z0, z1, z2]) rfl ?_
              rw [HE.out]
              exact ⟨none, 0, rfl, World.ownsRow_nil _ _ _ _, below_set3Y HB3.out _ _ _ (by omega)⟩
            | false => exact absurd HTH.out (by simp)
          · have d16 : ((tag.length : Int) != 16) = true := by simp only [bne_iff_ne, ne_eq]; omega
            have HE : Hid (addS c g n c.t tag = (crt0, 4)) := by unfold Hid; rw [HD2.out, if_neg (by simpa using hg), if_pos (.inr hl16)]
            clear hg hl16 HD2
            go_wp2_with fail
            refine bodyPost_ret (v := .tuple #[.agg #[.string ⟨#[]⟩, .int .i64 0, .slice none 0 0], .int .i64 4]) (by simp [results, Tryd.results10, go_sem, z0, z1, z2]) rfl ?_
            rw [HE.out]
            exact ⟨none, 0, rfl, World.ownsRow_nil _ _ _ _, below_set3Y HB3.out _ _ _ (by omega)⟩
        · have HE : Hid (addS c g n text tag = (crt0, 4)) := by unfold Hid; rw [HD2.out, if_neg (by simpa using hg), if_pos (.inl ht)]
          clear hg HD2
          go_wp2_with fail
          refine bodyPost_ret (v := .tuple #[.agg #[.string ⟨#[]⟩, .int .i64 0, .slice none 0 0], .int .i64 4]) (by simp [results, Tryd.results10, go_sem, z0, z1, z2]) rfl ?_
          rw [HE.out]
          exact ⟨none, 0, rfl, World.ownsRow_nil _ _ _ _, below_set3Y HB3.out _ _ _ (by omega)⟩
      · have dg : (g != c.g) = true := by simpa using hg
        have HE : Hid (addS c g n text tag = (crt0, 41)) := by unfold Hid; rw [HD2.out, if_pos hg]
        clear hg HD2
        go_wp2_with fail
        refine bodyPost_ret (v := .tuple #[.agg #[.string ⟨#[]⟩, .int .i64 0, .slice none 0 0], .int .i64 41]) (by simp [results, Tryd.results10, go_sem, z0, z1, z2]) rfl ?_
        rw [HE.out]
        exact ⟨none, 0, rfl, World.ownsRow_nil _ _ _ _, below_set3Y HB3.out _ _ _ (by omega)⟩
  · have HE := Lib.hid (addS_form (c := c) (g := g) (n := n) (text := text) (tag := tag) hf)
    have hne : (formS c != 0) = true := by simpa using hf
    clear hno
    generalize formS c = f at *
    clear hf
    go_enter Tryd.func10, Tryd.ntmps10
    go_upto_region 1 with fail
    clear hW0
    go_wp2_with fail
    refine hF.mono ?_
    rintro e W ⟨rfl, hb1⟩
    have hz := HZ.out.below hb1 HZ.out.lt
    have z0 : W.cell? ⟨w.heap.size + 1 + 1, 0, none⟩ = some (.string ⟨#[]⟩) := hz.cell 0
    have z1 : W.cell? ⟨w.heap.size + 1 + 1, 1, none⟩ = some (.int .i64 0) := hz.cell 1
    have z2 : W.cell? ⟨w.heap.size + 1 + 1, 2, none⟩ = some (.slice none 0 0) := hz.cell 2
    have f0 := hz.frozen 0
    have f1 := hz.frozen 1
    have f2 := hz.frozen 2
    have HBW := Lib.hid (HB0.out.trans (hb1.mono HB0.out.size))
    clear hb1 hz x0 x1 x2
    go_wp2_with fail
    refine bodyPost_ret (v := .tuple #[.agg #[.string ⟨#[]⟩, .int .i64 0, .slice none 0 0], .int .i64 f]) (by simp [results, Tryd.results10, go_sem, z0, z1, z2]) rfl ?_
    rw [HE.out]
    exact ⟨none, 0, rfl, World.ownsRow_nil _ _ _ _, below_set3Y HBW.out _ _ _ (by omega)⟩

end Go.Proofs.YtkmhimaeakbpoaaDoor
