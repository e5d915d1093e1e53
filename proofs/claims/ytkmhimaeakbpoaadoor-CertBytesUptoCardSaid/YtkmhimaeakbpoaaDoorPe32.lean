/- cert: Add, where a tag is put in. -/
import Derived.Test.YtkmhimaeakbpoaaDoorPe29
set_option linter.unusedVariables false
set_option linter.unusedSimpArgs false
set_option linter.unnecessarySimpa false
namespace Go.Proofs.YtkmhimaeakbpoaaDoor
open Go.RowKit Go.Shelf

theorem blkT1 {w1 w2 : World} {no : Int} {s : Bs} (h : Below (w1.drew.alloc (.cells #[.int .i64 no, .string ⟨s.toArray⟩] 64)).heap.size (w1.drew.alloc (.cells #[.int .i64 no, .string ⟨s.toArray⟩] 64)) w2) : Blk w2 w1.heap.size 64 #[.int .i64 no, .string ⟨s.toArray⟩] := Blk.below (Blk.new w1.drew _ _) h (by simp)
theorem blkT2 {w1 w2 : World} {no : Int} {s : Bs} (h : Below (w1.alloc (.cells #[.int .i64 no, .string ⟨s.toArray⟩] 64)).drew.heap.size (w1.alloc (.cells #[.int .i64 no, .string ⟨s.toArray⟩] 64)).drew w2) : Blk w2 w1.heap.size 64 #[.int .i64 no, .string ⟨s.toArray⟩] := Blk.below ((Blk.new w1 _ _).drew) h (by simp)
theorem ne_own {w1 : World} {v : Value} {n b base : Nat} {xs : List Value} (h : w1.ownsRow base 64 2 v n xs) (hb : b < base) : v.ownBlock ≠ some b := fun e => by have := (h.lt _ e).1; omega
theorem insC {W w1 : World} {vb : Nat} {v1 : Value} {l : List TagV} {no : Int} {s : Bs} {i : Nat} (hi : i ≤ l.length) (hm : l.length ≤ 1048576) (hbl : Below W.heap.size W w1) (hx : Blk w1 vb 64 #[.int .i64 no, .string ⟨s.toArray⟩]) (ho : w1.ownsRow W.heap.size 64 2 v1 l.length (cellsT l)) (hne : v1.ownBlock ≠ some vb) :
    Calls Tryd.prog 29 #[v1, .int .i64 i, .slice (some ⟨vb, 0, none⟩) 1 1] w1 fun e w2 => ∃ v', e = .returned v' ∧ InsOK W (l.take i ++ (no, s) :: l.drop i) v' w2 := by
  refine (insert_any v1 l i hi (no, s) vb W.heap.size _ ho hx hne hbl.size hm).mono ?_
  rintro e w2 ⟨v', rfl, hown, hch⟩
  exact ⟨v', rfl, by simpa [List.length_append, Nat.min_eq_left hi, Nat.add_sub_cancel' hi, show i + (l.length - i + 1) = l.length + 1 by omega] using hown, hbl.trans (hch.to_below (fun k hk e => by have := (ho.lt _ e).1; omega) hbl.size)⟩

/-- Behind the tag's place. -/
structure AddMid (W : World) (cb zb : Nat) (t : Bs) (g : Int) (L : List TagV) (A5 : Option Addr) (cc5 : Nat) (wc : World) : Prop where
  kb : Blk wc cb 24 #[.string ⟨t.toArray⟩, .int .i64 g, .slice A5 L.length cc5]
  kz : Blk wc zb 24 #[.string ⟨#[]⟩, .int .i64 0, .slice none 0 0]
  own : wc.ownsRow W.heap.size 64 2 (.slice A5 L.length cc5) L.length (cellsT L)
  bel : ∀ {B : Nat}, B ≤ cb → Below B W wc
theorem addMid {W w5 : World} {cb zb : Nat} {t : Bs} {g : Int} {L : List TagV} {v2 : Value} {A5 : Option Addr} {cc5 : Nat} (h : InsOK W L (.slice A5 L.length cc5) w5) (hc : Blk W cb 24 #[.string ⟨t.toArray⟩, .int .i64 g, v2])
    (hz : Blk W zb 24 #[.string ⟨#[]⟩, .int .i64 0, .slice none 0 0]) (hne : zb ≠ cb) : AddMid W cb zb t g L A5 cc5 (w5.setCell ⟨cb, 2, none⟩ (.slice A5 L.length cc5)) := by
  have hc5 := hc.below h.bel hc.lt
  have hz5 := hz.below h.bel hz.lt
  exact ⟨hc5.set_ 2 _, hz5.far (p := ⟨cb, 2, none⟩) hne _, own_set1Y hc5 h.own 2 _, fun {B} hB => (h.bel.mono (by have := hc.lt; omega)).setCell hB _⟩

set_option maxHeartbeats 8000000 in
set_option maxRecDepth 100000 in
theorem add_ok (c : Crt) (A : Option Addr) (cc : Nat) (n : Int) (tag : Bs) (w : World) (hl : LayN w) (HR : Hid (Rd w w.heap.size 2 (.slice A c.tags.length cc) c.tags.length (cellsT c.tags))) (hm : c.tags.length ≤ 1048576)
    (hf : formS c = 0) (hp : isPB c.g n = true) (hl16 : tag.length = 16) (hth : c.tags.any (fun y => decide (y.1 = n)) = false) :
    Calls Tryd.prog 10 #[.agg #[.string ⟨c.t.toArray⟩, .int .i64 c.g, .slice A c.tags.length cc], .agg #[.int .i64 c.g, .int .i64 n, .string ⟨c.t.toArray⟩, .string ⟨tag.toArray⟩]] w (CrtOut w (⟨c.t, c.g, insT c.tags (n, tag)⟩, 0)) := by
  generalize hW0 : ((w.alloc (.cells #[.string ⟨c.t.toArray⟩, .int .i64 c.g, .slice A c.tags.length cc] 24)).alloc (.cells #[.int .i64 c.g, .int .i64 n, .string ⟨c.t.toArray⟩, .string ⟨tag.toArray⟩] 28)).alloc (.cells #[.string ⟨#[]⟩, .int .i64 0, .slice none 0 0] 24) = W0
  have hb0 : Below w.heap.size w W0 := by rw [← hW0]; exact (((Below.refl _ w).alloc (Nat.le_refl _) _).alloc (by simp) _).alloc (by simp; omega) _
  have hs1 : (w.alloc (.cells #[.string ⟨c.t.toArray⟩, .int .i64 c.g, .slice A c.tags.length cc] 24)).heap.size = w.heap.size + 1 := by simp
  have hs2 : ((w.alloc (.cells #[.string ⟨c.t.toArray⟩, .int .i64 c.g, .slice A c.tags.length cc] 24)).alloc (.cells #[.int .i64 c.g, .int .i64 n, .string ⟨c.t.toArray⟩, .string ⟨tag.toArray⟩] 28)).heap.size = w.heap.size + 1 + 1 := by simp
  have hX0 : Blk W0 w.heap.size 24 #[.string ⟨c.t.toArray⟩, .int .i64 c.g, .slice A c.tags.length cc] := by rw [← hW0]; exact ((Blk.new w _ _).alloc _).alloc _
  have hS0 : Blk W0 (w.heap.size + 1) 28 #[.int .i64 c.g, .int .i64 n, .string ⟨c.t.toArray⟩, .string ⟨tag.toArray⟩] := by rw [← hW0, ← hs1]; exact (Blk.new _ _ _).alloc _
  have hZ0 : Blk W0 (w.heap.size + 1 + 1) 24 #[.string ⟨#[]⟩, .int .i64 0, .slice none 0 0] := by rw [← hW0, ← hs2]; exact Blk.new _ _ _
  have hF := form_any c (.slice A c.tags.length cc) W0 w.heap.size hb0.size (HR.out.below hb0) hm
  have x0 : W0.cell? ⟨w.heap.size, 0, none⟩ = some (.string ⟨c.t.toArray⟩) := hX0.cell 0
  have x1 : W0.cell? ⟨w.heap.size, 1, none⟩ = some (.int .i64 c.g) := hX0.cell 1
  have x2 : W0.cell? ⟨w.heap.size, 2, none⟩ = some (.slice A c.tags.length cc) := hX0.cell 2
  have HX := Lib.hid hX0
  have HS := Lib.hid hS0
  have HZ := Lib.hid hZ0
  have HB0 := Lib.hid hb0
  clear hb0 hs1 hs2 hX0 hS0 hZ0
  obtain ⟨f1, f2, f3⟩ := form_in hf
  have HPW := Lib.hid (tagsE_pair f3)
  rw [hf] at hF
  clear hf f1 f2 f3
  go_enter Tryd.func10, Tryd.ntmps10
  go_upto_region 1 with fail
  clear hW0
  go_wp2_with fail
  refine hF.mono ?_
  rintro e W ⟨rfl, hb1⟩
  have hs := HS.out.below hb1 HS.out.lt
  have s0 : W.cell? ⟨w.heap.size + 1, 0, none⟩ = some (.int .i64 c.g) := hs.cell 0
  have s1 : W.cell? ⟨w.heap.size + 1, 1, none⟩ = some (.int .i64 n) := hs.cell 1
  have HBW := Lib.hid (HB0.out.trans (hb1.mono HB0.out.size))
  have HX1 := Lib.hid (HX.out.below hb1 HX.out.lt)
  have HS1 := Lib.hid hs
  have HZ1 := Lib.hid (HZ.out.below hb1 HZ.out.lt)
  clear hb1 hs hF x0 x1 x2 HX HS HZ HB0
  have hnm := name_any c.g n W (hl.later HBW.out)
  have HN : nameS c.g n = (nameB c.g n, 0) := by unfold nameS; rw [hp]; rfl
  rw [HN] at hnm
  have HNM2 := Lib.hid hnm
  clear hnm HN hp
  generalize nameB c.g n = nm at *
  go_wp2_with fail
  refine HNM2.out.mono ?_
  rintro e W2 ⟨rfl, hb2⟩
  have hx := HX1.out.below hb2 HX1.out.lt
  have hs := HS1.out.below hb2 HS1.out.lt
  have x2 : W2.cell? ⟨w.heap.size, 2, none⟩ = some (.slice A c.tags.length cc) := hx.cell 2
  have s1 : W2.cell? ⟨w.heap.size + 1, 1, none⟩ = some (.int .i64 n) := hs.cell 1
  have HB2 := Lib.hid (HBW.out.trans (hb2.mono HBW.out.size))
  have HX2 := Lib.hid hx
  have HS2 := Lib.hid hs
  have HZ2 := Lib.hid (HZ1.out.below hb2 HZ1.out.lt)
  clear hb2 hx hs s0 HBW HNM2 HX1 HS1 HZ1
  go_wp2_with fail
  refine (search_any (.slice A c.tags.length cc) c.tags n W2 w.heap.size HB2.out.size (HR.out.below HB2.out) HPW.out hm).mono ?_
  rintro e W3 ⟨rfl, hb3⟩
  have hx := HX2.out.below hb3 HX2.out.lt
  have hs := HS2.out.below hb3 HS2.out.lt
  have hz := HZ2.out.below hb3 HZ2.out.lt
  have x0 : W3.cell? ⟨w.heap.size, 0, none⟩ = some (.string ⟨c.t.toArray⟩) := hx.cell 0
  have x1 : W3.cell? ⟨w.heap.size, 1, none⟩ = some (.int .i64 c.g) := hx.cell 1
  have s0 : W3.cell? ⟨w.heap.size + 1, 0, none⟩ = some (.int .i64 c.g) := hs.cell 0
  have s2 : W3.cell? ⟨w.heap.size + 1, 2, none⟩ = some (.string ⟨c.t.toArray⟩) := hs.cell 2
  have s3 : W3.cell? ⟨w.heap.size + 1, 3, none⟩ = some (.string ⟨tag.toArray⟩) := hs.cell 3
  have HX3 := Lib.hid hx
  have HS3 := Lib.hid hs
  have HZ3 := Lib.hid hz
  have HB3 := Lib.hid (HB2.out.trans (hb3.mono HB2.out.size))
  have hile : c.tags.countP (fun y => decide (y.1 < n)) ≤ c.tags.length := List.countP_le_length
  have HINS : Hid (insT c.tags (n, tag) = c.tags.take (c.tags.countP (fun y => decide (y.1 < n))) ++ (n, tag) :: c.tags.drop (c.tags.countP (fun y => decide (y.1 < n)))) := rfl
  rw [hth]
  generalize c.tags.countP (fun y => decide (y.1 < n)) = i at *
  have dg : (c.g != c.g) = false := by simp
  have d16 : ((tag.length : Int) != 16) = false := by simp [hl16]
  clear hb3 hz hx hs x2 s1 HZ2 HX2 HS2 HB2 hth hl16
  go_upto_region 14 with fail
  clear x0 x1 s0 s2 s3
  have x2 : W3.cell? ⟨w.heap.size, 2, none⟩ = some (.slice A c.tags.length cc) := HX3.out.cell 2
  have s1 : W3.cell? ⟨w.heap.size + 1, 1, none⟩ = some (.int .i64 n) := HS3.out.cell 1
  have s3 : W3.cell? ⟨w.heap.size + 1, 3, none⟩ = some (.string ⟨tag.toArray⟩) := HS3.out.cell 3
  have hlt3 : w.heap.size < W3.heap.size := HX3.out.lt
  have hlt4 : w.heap.size + 1 < W3.heap.size := HS3.out.lt
  have hne5 : w.heap.size + 1 ≠ w.heap.size := by omega
  have HRW : Hid (∀ w', Below W3.heap.size W3 w' → Rd w' W3.heap.size 2 (.slice A c.tags.length cc) c.tags.length (cellsT c.tags)) := fun w' h => ((HR.out.below HB3.out).more HB3.out.size).below h
  go_cut [72] (fun v wc => ∃ A5 cc5, v = .slice A5 (c.tags.take i ++ (n, tag) :: c.tags.drop i).length cc5 ∧ AddMid W3 w.heap.size (w.heap.size + 1 + 1) c.t c.g (c.tags.take i ++ (n, tag) :: c.tags.drop i) A5 cc5 wc)
  case first =>
    refine wp_region_held_drew (S := fun w' => w'.cell? ⟨w.heap.size + 1, 1, none⟩ = some (.int .i64 n) ∧ w'.cell? ⟨w.heap.size + 1, 3, none⟩ = some (.string ⟨tag.toArray⟩)) (by kernel_rfl) ?_ (fun hHeld => ?_)
    · (try dsimp only); (first | (refine keepA HS3.out ?_; simp only [bl_drew, bl_alloc, bl_refl, *]; done) | (with_reducible exact keepA0 hs5.out) | (with_reducible exact keepA0 (hs5.out.far (p := ⟨w.heap.size, 2, none⟩) hne5 _)))
    refine wpAnyH_take (i := 0) (oi := ⟨_, _, _, _, _, _⟩) (v := ?_) rfl (by kernel_rfl) (by kernel_rfl) (by kernel_rfl) (fun _ _ _ h => h) (Or.inl ⟨by rfl, ?_⟩) (by assumption) ?_
    rotate_left
    · intro w hSw; try dsimp only at hSw
      first | (go_simp; done) | (go_simp; rfl)
    simp only [Act.put, List.setIfInBounds_toArray, List.set_cons_zero, List.set_cons_succ]
    refine wpAnyH_take (i := 3) (oi := ⟨_, _, _, _, _, _⟩) (v := ?_) rfl (by kernel_rfl) (by kernel_rfl) (by kernel_rfl) (fun _ _ _ h => h) (Or.inl ⟨by rfl, ?_⟩) (by assumption) ?_
    rotate_left
    · intro w hSw; try dsimp only at hSw
      first | (go_simp; done) | (go_simp; rfl)
    simp only [Act.put, List.setIfInBounds_toArray, List.set_cons_zero, List.set_cons_succ]
    refine wpAnyH_take (i := 4) (oi := ⟨_, _, _, _, _, _⟩) (v := ?_) rfl (by kernel_rfl) (by kernel_rfl) (by kernel_rfl) (fun _ _ _ h => h) (Or.inl ⟨by rfl, ?_⟩) (by assumption) ?_
    rotate_left
    · intro w hSw; try dsimp only at hSw
      first | (go_simp; done) | (go_simp; rfl)
    simp only [Act.put, List.setIfInBounds_toArray, List.set_cons_zero, List.set_cons_succ]
    refine wpAnyH_take (i := 5) (oi := ⟨_, _, _, _, _, _⟩) (v := ?_) rfl (by kernel_rfl) (by kernel_rfl) (by kernel_rfl) (fun _ _ _ h => h) (Or.inl ⟨by rfl, ?_⟩) (by assumption) ?_
    rotate_left
    · intro w hSw; try dsimp only at hSw
      first | (go_simp; done) | (go_simp; rfl)
    simp only [Act.put, List.setIfInBounds_toArray, List.set_cons_zero, List.set_cons_succ]
    refine wpAnyH_take (i := 6) (oi := ⟨_, _, _, _, _, _⟩) (v := ?_) rfl (by kernel_rfl) (by kernel_rfl) (by kernel_rfl) (fun _ _ _ h => h) (Or.inl ⟨by rfl, ?_⟩) (by assumption) ?_
    rotate_left
    · intro w hSw; try dsimp only at hSw
      first | (go_simp; done) | (go_simp; rfl)
    simp only [Act.put, List.setIfInBounds_toArray, List.set_cons_zero, List.set_cons_succ]
    refine wpAnyH_take (i := 7) (oi := ⟨_, _, _, _, _, _⟩) (v := ?_) rfl (by kernel_rfl) (by kernel_rfl) (by kernel_rfl) (fun _ _ _ h => h) (Or.inl ⟨by rfl, ?_⟩) (by assumption) ?_
    rotate_left
    · intro w hSw; try dsimp only at hSw
      first | (go_simp; done) | (go_simp; rfl)
    simp only [Act.put, List.setIfInBounds_toArray, List.set_cons_zero, List.set_cons_succ]
    refine wpAnyH_take (i := 8) (oi := ⟨_, _, _, _, _, _⟩) (v := ?_) rfl (by kernel_rfl) (by kernel_rfl) (by kernel_rfl) (fun _ _ _ h => h) (Or.inl ⟨by rfl, ?_⟩) (by assumption) ?_
    rotate_left
    · intro w hSw; try dsimp only at hSw
      first | (go_simp; done) | (go_simp; rfl)
    simp only [Act.put, List.setIfInBounds_toArray, List.set_cons_zero, List.set_cons_succ]
    refine wpAnyH_take (i := 9) (oi := ⟨_, _, _, _, _, _⟩) (v := ?_) rfl (by kernel_rfl) (by kernel_rfl) (by kernel_rfl) (fun _ _ _ h => h) (Or.inl ⟨by rfl, ?_⟩) (by assumption) ?_
    rotate_left
    · intro w hSw; try dsimp only at hSw
      first | (go_simp; done) | (go_simp; rfl)
    simp only [Act.put, List.setIfInBounds_toArray, List.set_cons_zero, List.set_cons_succ]
    refine wpAnyH_ready (rs := [1, 10]) (by kernel_rfl) (by simp) ?_
    refine AllReadyH.cons (o := ⟨_, _, _, _, _, _⟩) rfl (fun K hK => ?_) (AllReadyH.cons (o := ⟨_, _, _, _, _, _⟩) rfl (fun K hK => ?_) (AllReadyH.nil))
    · go_simp
      refine hK.out _ _ ?_ (fun hHeld => ?_)
      · (try dsimp only); (first | (refine keepA HS3.out ?_; simp only [bl_drew, bl_alloc, bl_refl, *]; done) | (with_reducible exact keepA0 hs5.out) | (with_reducible exact keepA0 (hs5.out.far (p := ⟨w.heap.size, 2, none⟩) hne5 _)))
      clear hK K
      try simp only [Act.put, List.setIfInBounds_toArray, List.set_cons_zero, List.set_cons_succ]
      refine wpAnyH_ready (rs := [2, 10]) (by kernel_rfl) (by simp) ?_
      refine AllReadyH.cons (o := ⟨_, _, _, _, _, _⟩) rfl (fun K hK => ?_) (AllReadyH.cons (o := ⟨_, _, _, _, _, _⟩) rfl (fun K hK => ?_) (AllReadyH.nil))
      · go_simp
        go_at_call 30; refine Calls.mono (cloneT_any (.slice A c.tags.length cc) c.tags _ W3.heap.size (by simp) (HRW.out _ (by simp only [bl_drew, bl_alloc, bl_refl])) hm) ?_; rintro e w4 ⟨v4, rfl, hownd, hbc⟩; have hblc : Below W3.heap.size W3 w4 := below_then (by simp only [bl_drew, bl_alloc, bl_refl]) hbc; have hownc := own_weaken (base' := W3.heap.size) hownd (by simp); (try (with_reducible have hxt := blkT1 hbc; have hnet := ne_own (b := W3.heap.size) hownd (by simp))); (try (with_reducible have hxt := blkT2 hbc; have hnet := ne_own (b := W3.heap.size) hownd (by simp))); clear hownd hbc; go_wp2_with fail
        refine hK.out _ _ ?_ (fun hHeld => ?_)
        · (try dsimp only); (first | (refine keepA HS3.out ?_; simp only [bl_drew, bl_alloc, bl_refl, *]; done) | (with_reducible exact keepA0 hs5.out) | (with_reducible exact keepA0 (hs5.out.far (p := ⟨w.heap.size, 2, none⟩) hne5 _)))
        clear hK K
        try simp only [Act.put, List.setIfInBounds_toArray, List.set_cons_zero, List.set_cons_succ]
        refine wpAnyH_ready (rs := [10]) (by kernel_rfl) (by simp) ?_
        refine AllReadyH.cons (o := ⟨_, _, _, _, _, _⟩) rfl (fun K hK => ?_) (AllReadyH.nil)
        · go_simp
          refine hK.out _ _ ?_ (fun hHeld => ?_)
          · (try dsimp only); (first | (refine keepA HS3.out ?_; simp only [bl_drew, bl_alloc, bl_refl, *]; done) | (with_reducible exact keepA0 hs5.out) | (with_reducible exact keepA0 (hs5.out.far (p := ⟨w.heap.size, 2, none⟩) hne5 _)))
          clear hK K
          try simp only [Act.put, List.setIfInBounds_toArray, List.set_cons_zero, List.set_cons_succ]
          refine wpAnyH_ready (rs := [11]) (by kernel_rfl) (by simp) ?_
          refine AllReadyH.cons (o := ⟨_, _, _, _, _, _⟩) rfl (fun K hK => ?_) (AllReadyH.nil)
          · go_simp
            go_at_call 29; have hq := hblc; (first | (have hq2 := hxt; refine Calls.mono (insC (W := W3) hile hm hblc hxt hownc hnet) ?_) | (with_reducible refine Calls.mono (insA (W := W3) hile hm hblc hownc) ?_)); rintro e w5 ⟨v5, rfl, hin5⟩; obtain ⟨A5, cc5, rfl⟩ := own_shape hin5.own; have hs5 := Lib.hid (HS3.out.below hin5.bel HS3.out.lt); have hx5 := HX3.out.below hin5.bel HX3.out.lt; have c5 := hx5.cell 2; have f5 := hx5.frozen 2; have hbl5 : Below W3.heap.size W3 w5 := hin5.bel; go_wp2_with fail
            refine hK.out _ _ ?_ (fun hHeld => ?_)
            · (try dsimp only); (first | (refine keepA HS3.out ?_; simp only [bl_drew, bl_alloc, bl_refl, *]; done) | (with_reducible exact keepA0 hs5.out) | (with_reducible exact keepA0 (hs5.out.far (p := ⟨w.heap.size, 2, none⟩) hne5 _)))
            clear hK K
            try simp only [Act.put, List.setIfInBounds_toArray, List.set_cons_zero, List.set_cons_succ]
            refine wpAnyH_take (i := 12) (oi := ⟨_, _, _, _, _, _⟩) (v := ?_) rfl (by kernel_rfl) (by kernel_rfl) (by kernel_rfl) (fun _ _ _ h => h) (Or.inl ⟨by rfl, ?_⟩) (by assumption) ?_
            rotate_left
            · intro w hSw; try dsimp only at hSw
              first | (go_simp; done) | (go_simp; rfl)
            simp only [Act.put, List.setIfInBounds_toArray, List.set_cons_zero, List.set_cons_succ]
            refine wpAnyH_ready (rs := [13]) (by kernel_rfl) (by simp) ?_
            refine AllReadyH.cons (o := ⟨_, _, _, _, _, _⟩) rfl (fun K hK => ?_) (AllReadyH.nil)
            · go_simp
              refine hK.out _ _ ?_ (fun hHeld => ?_)
              · (try dsimp only); (first | (refine keepA HS3.out ?_; simp only [bl_drew, bl_alloc, bl_refl, *]; done) | (with_reducible exact keepA0 hs5.out) | (with_reducible exact keepA0 (hs5.out.far (p := ⟨w.heap.size, 2, none⟩) hne5 _)))
              clear hK K
              try simp only [Act.put, List.setIfInBounds_toArray, List.set_cons_zero, List.set_cons_succ]
              refine wpAnyH_done (by kernel_rfl) ?_ _
              have hmid := addMid hin5 HX3.out HZ3.out (by omega)
              clear hin5
              go_wp2_with fail
              go_meet
              case rel => exact ⟨A5, cc5, by simp [List.length_append, Nat.min_eq_left hile], by simpa [List.length_append, Nat.min_eq_left hile] using hmid⟩
      · go_simp
        refine hK.out _ _ ?_ (fun hHeld => ?_)
        · (try dsimp only); (first | (refine keepA HS3.out ?_; simp only [bl_drew, bl_alloc, bl_refl, *]; done) | (with_reducible exact keepA0 hs5.out) | (with_reducible exact keepA0 (hs5.out.far (p := ⟨w.heap.size, 2, none⟩) hne5 _)))
        clear hK K
        try simp only [Act.put, List.setIfInBounds_toArray, List.set_cons_zero, List.set_cons_succ]
        refine wpAnyH_ready (rs := [2]) (by kernel_rfl) (by simp) ?_
        refine AllReadyH.cons (o := ⟨_, _, _, _, _, _⟩) rfl (fun K hK => ?_) (AllReadyH.nil)
        · go_simp
          go_at_call 30; refine Calls.mono (cloneT_any (.slice A c.tags.length cc) c.tags _ W3.heap.size (by simp) (HRW.out _ (by simp only [bl_drew, bl_alloc, bl_refl])) hm) ?_; rintro e w4 ⟨v4, rfl, hownd, hbc⟩; have hblc : Below W3.heap.size W3 w4 := below_then (by simp only [bl_drew, bl_alloc, bl_refl]) hbc; have hownc := own_weaken (base' := W3.heap.size) hownd (by simp); (try (with_reducible have hxt := blkT1 hbc; have hnet := ne_own (b := W3.heap.size) hownd (by simp))); (try (with_reducible have hxt := blkT2 hbc; have hnet := ne_own (b := W3.heap.size) hownd (by simp))); clear hownd hbc; go_wp2_with fail
          refine hK.out _ _ ?_ (fun hHeld => ?_)
          · (try dsimp only); (first | (refine keepA HS3.out ?_; simp only [bl_drew, bl_alloc, bl_refl, *]; done) | (with_reducible exact keepA0 hs5.out) | (with_reducible exact keepA0 (hs5.out.far (p := ⟨w.heap.size, 2, none⟩) hne5 _)))
          clear hK K
          try simp only [Act.put, List.setIfInBounds_toArray, List.set_cons_zero, List.set_cons_succ]
          refine wpAnyH_ready (rs := [11]) (by kernel_rfl) (by simp) ?_
          refine AllReadyH.cons (o := ⟨_, _, _, _, _, _⟩) rfl (fun K hK => ?_) (AllReadyH.nil)
          · go_simp
            go_at_call 29; have hq := hblc; (first | (have hq2 := hxt; refine Calls.mono (insC (W := W3) hile hm hblc hxt hownc hnet) ?_) | (with_reducible refine Calls.mono (insA (W := W3) hile hm hblc hownc) ?_)); rintro e w5 ⟨v5, rfl, hin5⟩; obtain ⟨A5, cc5, rfl⟩ := own_shape hin5.own; have hs5 := Lib.hid (HS3.out.below hin5.bel HS3.out.lt); have hx5 := HX3.out.below hin5.bel HX3.out.lt; have c5 := hx5.cell 2; have f5 := hx5.frozen 2; have hbl5 : Below W3.heap.size W3 w5 := hin5.bel; go_wp2_with fail
            refine hK.out _ _ ?_ (fun hHeld => ?_)
            · (try dsimp only); (first | (refine keepA HS3.out ?_; simp only [bl_drew, bl_alloc, bl_refl, *]; done) | (with_reducible exact keepA0 hs5.out) | (with_reducible exact keepA0 (hs5.out.far (p := ⟨w.heap.size, 2, none⟩) hne5 _)))
            clear hK K
            try simp only [Act.put, List.setIfInBounds_toArray, List.set_cons_zero, List.set_cons_succ]
            refine wpAnyH_take (i := 12) (oi := ⟨_, _, _, _, _, _⟩) (v := ?_) rfl (by kernel_rfl) (by kernel_rfl) (by kernel_rfl) (fun _ _ _ h => h) (Or.inl ⟨by rfl, ?_⟩) (by assumption) ?_
            rotate_left
            · intro w hSw; try dsimp only at hSw
              first | (go_simp; done) | (go_simp; rfl)
            simp only [Act.put, List.setIfInBounds_toArray, List.set_cons_zero, List.set_cons_succ]
            refine wpAnyH_ready (rs := [13]) (by kernel_rfl) (by simp) ?_
            refine AllReadyH.cons (o := ⟨_, _, _, _, _, _⟩) rfl (fun K hK => ?_) (AllReadyH.nil)
            · go_simp
              refine hK.out _ _ ?_ (fun hHeld => ?_)
              · (try dsimp only); (first | (refine keepA HS3.out ?_; simp only [bl_drew, bl_alloc, bl_refl, *]; done) | (with_reducible exact keepA0 hs5.out) | (with_reducible exact keepA0 (hs5.out.far (p := ⟨w.heap.size, 2, none⟩) hne5 _)))
              clear hK K
              try simp only [Act.put, List.setIfInBounds_toArray, List.set_cons_zero, List.set_cons_succ]
              refine wpAnyH_done (by kernel_rfl) ?_ _
              have hmid := addMid hin5 HX3.out HZ3.out (by omega)
              clear hin5
              go_wp2_with fail
              go_meet
              case rel => exact ⟨A5, cc5, by simp [List.length_append, Nat.min_eq_left hile], by simpa [List.length_append, Nat.min_eq_left hile] using hmid⟩
    · go_simp
      refine hK.out _ _ ?_ (fun hHeld => ?_)
      · (try dsimp only); (first | (refine keepA HS3.out ?_; simp only [bl_drew, bl_alloc, bl_refl, *]; done) | (with_reducible exact keepA0 hs5.out) | (with_reducible exact keepA0 (hs5.out.far (p := ⟨w.heap.size, 2, none⟩) hne5 _)))
      clear hK K
      try simp only [Act.put, List.setIfInBounds_toArray, List.set_cons_zero, List.set_cons_succ]
      refine wpAnyH_ready (rs := [1]) (by kernel_rfl) (by simp) ?_
      refine AllReadyH.cons (o := ⟨_, _, _, _, _, _⟩) rfl (fun K hK => ?_) (AllReadyH.nil)
      · go_simp
        refine hK.out _ _ ?_ (fun hHeld => ?_)
        · (try dsimp only); (first | (refine keepA HS3.out ?_; simp only [bl_drew, bl_alloc, bl_refl, *]; done) | (with_reducible exact keepA0 hs5.out) | (with_reducible exact keepA0 (hs5.out.far (p := ⟨w.heap.size, 2, none⟩) hne5 _)))
        clear hK K
        try simp only [Act.put, List.setIfInBounds_toArray, List.set_cons_zero, List.set_cons_succ]
        refine wpAnyH_ready (rs := [2]) (by kernel_rfl) (by simp) ?_
        refine AllReadyH.cons (o := ⟨_, _, _, _, _, _⟩) rfl (fun K hK => ?_) (AllReadyH.nil)
        · go_simp
          go_at_call 30; refine Calls.mono (cloneT_any (.slice A c.tags.length cc) c.tags _ W3.heap.size (by simp) (HRW.out _ (by simp only [bl_drew, bl_alloc, bl_refl])) hm) ?_; rintro e w4 ⟨v4, rfl, hownd, hbc⟩; have hblc : Below W3.heap.size W3 w4 := below_then (by simp only [bl_drew, bl_alloc, bl_refl]) hbc; have hownc := own_weaken (base' := W3.heap.size) hownd (by simp); (try (with_reducible have hxt := blkT1 hbc; have hnet := ne_own (b := W3.heap.size) hownd (by simp))); (try (with_reducible have hxt := blkT2 hbc; have hnet := ne_own (b := W3.heap.size) hownd (by simp))); clear hownd hbc; go_wp2_with fail
          refine hK.out _ _ ?_ (fun hHeld => ?_)
          · (try dsimp only); (first | (refine keepA HS3.out ?_; simp only [bl_drew, bl_alloc, bl_refl, *]; done) | (with_reducible exact keepA0 hs5.out) | (with_reducible exact keepA0 (hs5.out.far (p := ⟨w.heap.size, 2, none⟩) hne5 _)))
          clear hK K
          try simp only [Act.put, List.setIfInBounds_toArray, List.set_cons_zero, List.set_cons_succ]
          refine wpAnyH_ready (rs := [11]) (by kernel_rfl) (by simp) ?_
          refine AllReadyH.cons (o := ⟨_, _, _, _, _, _⟩) rfl (fun K hK => ?_) (AllReadyH.nil)
          · go_simp
            go_at_call 29; have hq := hblc; (first | (have hq2 := hxt; refine Calls.mono (insC (W := W3) hile hm hblc hxt hownc hnet) ?_) | (with_reducible refine Calls.mono (insA (W := W3) hile hm hblc hownc) ?_)); rintro e w5 ⟨v5, rfl, hin5⟩; obtain ⟨A5, cc5, rfl⟩ := own_shape hin5.own; have hs5 := Lib.hid (HS3.out.below hin5.bel HS3.out.lt); have hx5 := HX3.out.below hin5.bel HX3.out.lt; have c5 := hx5.cell 2; have f5 := hx5.frozen 2; have hbl5 : Below W3.heap.size W3 w5 := hin5.bel; go_wp2_with fail
            refine hK.out _ _ ?_ (fun hHeld => ?_)
            · (try dsimp only); (first | (refine keepA HS3.out ?_; simp only [bl_drew, bl_alloc, bl_refl, *]; done) | (with_reducible exact keepA0 hs5.out) | (with_reducible exact keepA0 (hs5.out.far (p := ⟨w.heap.size, 2, none⟩) hne5 _)))
            clear hK K
            try simp only [Act.put, List.setIfInBounds_toArray, List.set_cons_zero, List.set_cons_succ]
            refine wpAnyH_take (i := 12) (oi := ⟨_, _, _, _, _, _⟩) (v := ?_) rfl (by kernel_rfl) (by kernel_rfl) (by kernel_rfl) (fun _ _ _ h => h) (Or.inl ⟨by rfl, ?_⟩) (by assumption) ?_
            rotate_left
            · intro w hSw; try dsimp only at hSw
              first | (go_simp; done) | (go_simp; rfl)
            simp only [Act.put, List.setIfInBounds_toArray, List.set_cons_zero, List.set_cons_succ]
            refine wpAnyH_ready (rs := [13]) (by kernel_rfl) (by simp) ?_
            refine AllReadyH.cons (o := ⟨_, _, _, _, _, _⟩) rfl (fun K hK => ?_) (AllReadyH.nil)
            · go_simp
              refine hK.out _ _ ?_ (fun hHeld => ?_)
              · (try dsimp only); (first | (refine keepA HS3.out ?_; simp only [bl_drew, bl_alloc, bl_refl, *]; done) | (with_reducible exact keepA0 hs5.out) | (with_reducible exact keepA0 (hs5.out.far (p := ⟨w.heap.size, 2, none⟩) hne5 _)))
              clear hK K
              try simp only [Act.put, List.setIfInBounds_toArray, List.set_cons_zero, List.set_cons_succ]
              refine wpAnyH_done (by kernel_rfl) ?_ _
              have hmid := addMid hin5 HX3.out HZ3.out (by omega)
              clear hin5
              go_wp2_with fail
              go_meet
              case rel => exact ⟨A5, cc5, by simp [List.length_append, Nat.min_eq_left hile], by simpa [List.length_append, Nat.min_eq_left hile] using hmid⟩
  case rest =>
    obtain ⟨A5, cc5, rfl, hM⟩ := hcut
    generalize c.tags.take i ++ (n, tag) :: c.tags.drop i = L at *
    have c0 : wc.cell? ⟨w.heap.size, 0, none⟩ = some (.string ⟨c.t.toArray⟩) := hM.kb.cell 0
    have c1 : wc.cell? ⟨w.heap.size, 1, none⟩ = some (.int .i64 c.g) := hM.kb.cell 1
    have c2 : wc.cell? ⟨w.heap.size, 2, none⟩ = some (.slice A5 L.length cc5) := hM.kb.cell 2
    have z0 : wc.cell? ⟨w.heap.size + 1 + 1, 0, none⟩ = some (.string ⟨#[]⟩) := hM.kz.cell 0
    have z1 : wc.cell? ⟨w.heap.size + 1 + 1, 1, none⟩ = some (.int .i64 0) := hM.kz.cell 1
    have z2 : wc.cell? ⟨w.heap.size + 1 + 1, 2, none⟩ = some (.slice none 0 0) := hM.kz.cell 2
    have f0 := hM.kz.frozen 0
    have f1 := hM.kz.frozen 1
    have f2 := hM.kz.frozen 2
    have HM := Lib.hid hM
    have hsz := HB3.out.size
    clear hM HRW x2 s1 s3 hlt3 hlt4
    go_wp2_with fail
    refine bodyPost_ret (v := .tuple #[.agg #[.string ⟨c.t.toArray⟩, .int .i64 c.g, .slice A5 L.length cc5], .int .i64 0]) (by simp [results, Tryd.results10, go_sem, z0, z1, z2]) rfl ?_
    rw [HINS.out]
    exact ⟨A5, cc5, rfl, own_weaken (own_set3Y HM.out.kz HM.out.own _ _ _) hsz, below_set3Y (HB3.out.trans (HM.out.bel (Nat.le_refl _))) _ _ _ (by omega)⟩

theorem add_any (c : Crt) (v : Value) (g n : Int) (text tag : Bs) (w : World) (hl : LayN w) (B : Nat) (hB : B ≤ w.heap.size) (hr : Rd w B 2 v c.tags.length (cellsT c.tags)) (hm : c.tags.length ≤ 1048576) :
    Calls Tryd.prog 10 #[.agg #[.string ⟨c.t.toArray⟩, .int .i64 c.g, v], .agg #[.int .i64 g, .int .i64 n, .string ⟨text.toArray⟩, .string ⟨tag.toArray⟩]] w (CrtOut w (addS c g n text tag)) := by
  by_cases h : formS c = 0 ∧ isPB g n = true ∧ g = c.g ∧ text = c.t ∧ tag.length = 16 ∧ c.tags.any (fun y => decide (y.1 = n)) = false
  · obtain ⟨hf, hp, rfl, rfl, hl16, hth⟩ := h
    obtain ⟨A, cc, rfl⟩ : ∃ A cc, v = .slice A c.tags.length cc := by obtain ⟨_, A, cc, rfl, _⟩ := hr; exact ⟨_, _, rfl⟩
    have he : addS c c.g n c.t tag = (⟨c.t, c.g, insT c.tags (n, tag)⟩, 0) := by
      unfold addS
      rw [if_neg (by simpa using hf), if_neg (by rw [hp]; simp), if_neg (by simp), if_neg (by simp [hl16]), if_neg (by rw [hth]; simp)]
    rw [he]
    exact add_ok c A cc n tag w hl (hr.more hB) hm hf hp hl16 hth
  · exact add_no c v g n text tag w hl B hB hr hm h

end Go.Proofs.YtkmhimaeakbpoaaDoor
