/- The small case: one. -/
import Derived.Test.YtkmhimaeakbpoaaDoorPe32
import Derived.Test.YtkmhimaeakbpoaaDoorPe33
set_option linter.unusedVariables false
set_option linter.unusedSimpArgs false
set_option linter.unnecessarySimpa false
namespace Go.Proofs.YtkmhimaeakbpoaaDoor
open Go.RowKit Go.Shelf

theorem itoa_1Y (n : Nat) (h : n < 10) : Lib.itoa (n : Int) = [UInt8.ofNat (48 + n)] := by
  unfold Lib.itoa
  rw [if_neg (by omega), Int.toNat_natCast, Lib.decDigits, dif_pos h]
theorem itoa_16Y : Lib.itoa ((16 : Nat) : Int) = [49, 54] := by
  unfold Lib.itoa
  rw [if_neg (by omega), Int.toNat_natCast, Lib.decDigits, dif_neg (by omega), Lib.decDigits, dif_pos (by omega)]
  rfl
def tg : Bs := [48, 49, 50, 51, 52, 53, 54, 55, 56, 57, 97, 98, 99, 100, 101, 102]
def c1 : Crt := ⟨[97], 2, [(1, tg)]⟩
def c2 : Crt := ⟨[97], 2, [(0, tg), (1, tg)]⟩
def b1 : Bs := [49, 58, 97, 44, 49, 58, 50, 44, 49, 58, 49, 44, 49, 54, 58] ++ tg ++ [44]
theorem add1 : addS c1 2 1 [97] tg = (crt0, 42) := by rfl
theorem add2 : addS c1 2 0 [97] tg = (c2, 0) := by rfl
theorem enc1 : encS c1 = (b1, 0) := by
  have h0 : formS c1 = 0 := by rfl
  have h6 : packB [] = [] := rfl
  unfold encS
  rw [if_pos h0]
  show (packB [[97], Lib.itoa ((2 : Nat) : Int), Lib.itoa ((1 : Nat) : Int), tg], (0 : Int)) = _
  rw [itoa_1Y 2 (by omega), itoa_1Y 1 (by omega), packB_cons, packB_cons, packB_cons, packB_cons, h6, show (([97] : Bs).length : Int) = ((1 : Nat) : Int) from rfl, show (([UInt8.ofNat (48 + 2)] : Bs).length : Int) = ((1 : Nat) : Int) from rfl, show (([UInt8.ofNat (48 + 1)] : Bs).length : Int) = ((1 : Nat) : Int) from rfl, show (tg.length : Int) = ((16 : Nat) : Int) from rfl, itoa_1Y 1 (by omega), itoa_16Y]
  rfl

set_option maxHeartbeats 400000 in
theorem tag_any (w : World) : Calls Tryd.prog 23 #[] w fun e w' => e = .returned (.string ⟨tg.toArray⟩) ∧ w = w' := by
  go_enter Tryd.func23, Tryd.ntmps23
  go_wp2
  go_ret
  exact ⟨rfl, rfl⟩

/-- Behind a drawn call of Add whose answer is kept. -/
def OneMid (W : World) (r : Crt × Int) (vp ve : Value) (wc : World) : Prop :=
  ∃ b A cc, vp = .pointer (some ⟨b, 0, none⟩) ∧ ve = .int .i64 r.2 ∧ Below W.heap.size W wc ∧ W.heap.size ≤ b ∧ Blk wc b 24 #[.string ⟨r.1.t.toArray⟩, .int .i64 r.1.g, .slice A r.1.tags.length cc] ∧ wc.ownsRow W.heap.size 64 2 (.slice A r.1.tags.length cc) r.1.tags.length (cellsT r.1.tags)
theorem bl_set3 (W w1 : World) (b : Nat) (v0 v1 v2 : Value) (h : Below W.heap.size W w1) (hb : W.heap.size ≤ b) : Below W.heap.size W (((w1.setCell ⟨b, 0, none⟩ v0).setCell ⟨b, 1, none⟩ v1).setCell ⟨b, 2, none⟩ v2) = True := eq_true (below_set3Y h _ _ _ hb)
theorem blk3Y {w : World} {b : Nat} {t : TypeId} {a0 a1 a2 : Value} (h : Blk w b t #[a0, a1, a2]) (v0 v1 v2 : Value) : Blk (((w.setCell ⟨b, 0, none⟩ v0).setCell ⟨b, 1, none⟩ v1).setCell ⟨b, 2, none⟩ v2) b t #[v0, v1, v2] := ((h.set_ 0 v0).set_ 1 v1).set_ 2 v2
theorem blkZ1 {w1 w2 : World} (h : Below (w1.alloc (.cells #[.string ⟨#[]⟩, .int .i64 0, .slice none 0 0] 24)).heap.size (w1.alloc (.cells #[.string ⟨#[]⟩, .int .i64 0, .slice none 0 0] 24)) w2) : Blk w2 w1.heap.size 24 #[.string ⟨#[]⟩, .int .i64 0, .slice none 0 0] := Blk.below (Blk.new w1 _ _) h (by simp)
theorem blkZ2 {w1 w2 : World} (h : Below (w1.alloc (.cells #[.string ⟨#[]⟩, .int .i64 0, .slice none 0 0] 24)).drew.heap.size (w1.alloc (.cells #[.string ⟨#[]⟩, .int .i64 0, .slice none 0 0] 24)).drew w2) : Blk w2 w1.heap.size 24 #[.string ⟨#[]⟩, .int .i64 0, .slice none 0 0] := Blk.below ((Blk.new w1 _ _).drew) h (by simp)

set_option maxHeartbeats 8000000 in
set_option maxRecDepth 100000 in
theorem one_any (w : World) (hl : LayN w) : Calls Tryd.prog 9 #[] w fun e w' => e = .returned (.bool true) ∧ Below w.heap.size w w' := by


  go_enter Tryd.func9, Tryd.ntmps9
  go_wp2_with fail
  refine (tag_any _).mono ?_
  rintro e w' ⟨rfl, rfl⟩
  generalize htg : tg = T at *
  go_upto_region 2 with fail
  generalize hW : (w.alloc (.cells #[.int .i64 1, .string ⟨T.toArray⟩] 64)).alloc (.cells #[.string ⟨#[97]⟩, .int .i64 2, .slice (some ⟨w.heap.size, 0, none⟩) 1 1] 24) = W
  have hs1 : (w.alloc (.cells #[.int .i64 1, .string ⟨T.toArray⟩] 64)).heap.size = w.heap.size + 1 := by simp
  have hbW : Below w.heap.size w W := by rw [← hW]; exact ((Below.refl _ w).alloc (Nat.le_refl _) _).alloc (by simp) _
  have hC : Blk W (w.heap.size + 1) 24 #[.string ⟨#[97]⟩, .int .i64 2, .slice (some ⟨w.heap.size, 0, none⟩) 1 1] := by rw [← hW, ← hs1]; exact Blk.new _ _ _
  have hT : Blk W w.heap.size 64 #[.int .i64 1, .string ⟨T.toArray⟩] := by rw [← hW]; exact (Blk.new w _ _).alloc _
  have HRD : Hid (∀ w', Below W.heap.size W w' → Rd w' W.heap.size 2 (.slice (some ⟨w.heap.size, 0, none⟩) c1.tags.length 1) c1.tags.length (cellsT c1.tags)) := fun w' h => by
    refine ⟨rfl, _, _, rfl, Nat.le_refl _, .inr ⟨w.heap.size, 0, rfl, hT.lt, fun j u hu => ?_⟩⟩
    rw [Nat.zero_add, (hT.below h hT.lt).cell j]
    subst htg
    match j, hu with
    | 0, hu => exact hu
    | 1, hu => exact hu
    | j + 2, hu => simp [cellsT, tagC, c1] at hu
  have HLW : Hid (∀ w', Below W.heap.size W w' → LayN w') := fun w' h => (hl.later hbW).later h
  have HE : Hid (Calls Tryd.prog 18 #[.agg #[.string ⟨#[97]⟩, .int .i64 2, .slice (some ⟨w.heap.size, 0, none⟩) 1 1]] W fun e w' => e = .returned (.tuple #[.string ⟨b1.toArray⟩, .int .i64 0]) ∧ Below W.heap.size W w') := by
    have := enc_any c1 (.slice (some ⟨w.heap.size, 0, none⟩) 1 1) W (HLW.out W (Below.refl _ _)) W.heap.size (Nat.le_refl _) (HRD.out W (Below.refl _ _)) (by decide) (by decide)
    rw [enc1] at this
    exact this
  have HA1 : Hid (∀ w', Below W.heap.size W w' → Calls Tryd.prog 10 #[.agg #[.string ⟨#[97]⟩, .int .i64 2, .slice (some ⟨w.heap.size, 0, none⟩) 1 1], .agg #[.int .i64 2, .int .i64 1, .string ⟨#[97]⟩, .string ⟨T.toArray⟩]] w' (CrtOut w' (crt0, 42))) := fun w' h => by
    have := add_any c1 (.slice (some ⟨w.heap.size, 0, none⟩) 1 1) 2 1 [97] T w' (HLW.out w' h) W.heap.size h.size (HRD.out w' h) (by decide)
    subst htg
    rw [add1] at this
    exact this
  have HA2 : Hid (∀ w', Below W.heap.size W w' → Calls Tryd.prog 10 #[.agg #[.string ⟨#[97]⟩, .int .i64 2, .slice (some ⟨w.heap.size, 0, none⟩) 1 1], .agg #[.int .i64 2, .int .i64 0, .string ⟨#[97]⟩, .string ⟨T.toArray⟩]] w' (CrtOut w' (c2, 0))) := fun w' h => by
    have := add_any c1 (.slice (some ⟨w.heap.size, 0, none⟩) 1 1) 2 0 [97] T w' (HLW.out w' h) W.heap.size h.size (HRD.out w' h) (by decide)
    subst htg
    rw [add2] at this
    exact this
  have HC := Lib.hid hC
  have HBW := Lib.hid hbW
  have HTL : Hid (T.length = 16) := by subst htg; rfl
  have hCb : Hid (b1 = [49, 58, 97, 44, 49, 58, 50, 44, 49, 58, 49, 44, 49, 54, 58] ++ T ++ [44]) := by subst htg; rfl
  have HTAG : Hid (∀ w', Calls Tryd.prog 23 #[] w' fun e w'' => e = .returned (.string ⟨T.toArray⟩) ∧ w' = w'') := fun w' => by subst htg; exact tag_any w'
  have c0 : W.cell? ⟨w.heap.size + 1, 0, none⟩ = some (.string ⟨#[97]⟩) := hC.cell 0
  have cc1 : W.cell? ⟨w.heap.size + 1, 1, none⟩ = some (.int .i64 2) := hC.cell 1
  have cc2 : W.cell? ⟨w.heap.size + 1, 2, none⟩ = some (.slice (some ⟨w.heap.size, 0, none⟩) 1 1) := hC.cell 2
  clear hW hs1 hbW hC hT HRD HLW htg
  go_wp2_with fail
  refine HE.out.mono ?_
  rintro e W2 ⟨rfl, hb2⟩
  have HB2 := Lib.hid hb2
  have HC2 := Lib.hid (HC.out.below hb2 HC.out.lt)
  have hsz2 := hb2.size
  clear hb2 c0 cc1 cc2 HE
  go_upto_region 3 with fail
  go_cut [4, 5] (fun vp ve wc => OneMid W2 (crt0, 42) vp ve wc)
  case first =>
    go_region_held3 (fun w' => w'.cell? ⟨w.heap.size + 1, 0, none⟩ = some (.string ⟨#[97]⟩) ∧ w'.cell? ⟨w.heap.size + 1, 1, none⟩ = some (.int .i64 2) ∧ w'.cell? ⟨w.heap.size + 1, 2, none⟩ = some (.slice (some ⟨w.heap.size, 0, none⟩) 1 1))
      ((refine keep3Y HC2.out ?_; simp only [bl_drew, bl_alloc, bl_refl, bl_set3, *, Nat.le_refl]))
      ((first
        | (go_at_call 10; refine Calls.mono (HA1.out _ (HB2.out.trans (Below.mono (by simp only [bl_drew, bl_alloc, bl_refl]) hsz2))) ?_; rintro e w5 ⟨A5, cc5, rfl, ho5, hb5⟩; have hbl5 : Below W2.heap.size W2 w5 := below_then (by simp only [bl_drew, bl_alloc, bl_refl]) hb5; have hls5 := hbl5.size; have hown5 := own_weaken (base' := W2.heap.size) ho5 (by simp); (try (with_reducible have hzB := blkZ1 hb5)); (try (with_reducible have hzB := blkZ2 hb5)); (try (obtain ⟨z0, z1, z2⟩ := keep3Y hzB (Below.refl _ _); have f0 := hzB.frozen 0; have f1 := hzB.frozen 1; have f2 := hzB.frozen 2)); (try (have HZB := Lib.hid hzB; clear hzB)); have HOWN := Lib.hid hown5; clear ho5 hown5)
        | (go_at_call 23; refine Calls.mono (HTAG.out _) ?_; rintro e w4 ⟨rfl, rfl⟩)))
    all_goals
      go_wp2_with fail
      go_meet
      case rel => first | exact ⟨_, _, _, rfl, rfl, below_al hbl5 _, hls5, Blk.new w5 _ _, HOWN.out.alloc _⟩ | exact ⟨_, _, _, rfl, rfl, below_set3Y hbl5 _ _ _ (Nat.le_refl _), Nat.le_refl _, blk3Y HZB.out _ _ _, own_set3Y HZB.out HOWN.out _ _ _⟩
  case rest =>
    obtain ⟨b5, A5, cc5, rfl, rfl, hbl5, hle5, hk5, ho5⟩ := hcut
    have HB5 := Lib.hid hbl5
    have HC5 := Lib.hid (HC2.out.below hbl5 HC2.out.lt)
    have HB25 := Lib.hid (HB2.out.trans (hbl5.mono hsz2))
    have hsz5 := HB25.out.size
    clear hbl5 hk5 ho5 HC2 HB2
    go_upto_region 4 with fail
    go_cut [6, 7] (fun vp ve wd => OneMid wc (c2, 0) vp ve wd)
    case first =>
      go_region_held3 (fun w' => w'.cell? ⟨w.heap.size + 1, 0, none⟩ = some (.string ⟨#[97]⟩) ∧ w'.cell? ⟨w.heap.size + 1, 1, none⟩ = some (.int .i64 2) ∧ w'.cell? ⟨w.heap.size + 1, 2, none⟩ = some (.slice (some ⟨w.heap.size, 0, none⟩) 1 1))
        ((refine keep3Y HC5.out ?_; simp only [bl_drew, bl_alloc, bl_refl, bl_set3, *, Nat.le_refl]))
        ((first
          | (go_at_call 10; refine Calls.mono (HA2.out _ (HB25.out.trans (Below.mono (by simp only [bl_drew, bl_alloc, bl_refl]) hsz5))) ?_; rintro e w5 ⟨A6, cc6, rfl, ho6, hb6⟩; have hbl6 : Below wc.heap.size wc w5 := below_then (by simp only [bl_drew, bl_alloc, bl_refl]) hb6; have hls6 := hbl6.size; have hown6 := own_weaken (base' := wc.heap.size) ho6 (by simp); (try (with_reducible have hzB := blkZ1 hb6)); (try (with_reducible have hzB := blkZ2 hb6)); (try (obtain ⟨z0, z1, z2⟩ := keep3Y hzB (Below.refl _ _); have f0 := hzB.frozen 0; have f1 := hzB.frozen 1; have f2 := hzB.frozen 2)); (try (have HZB := Lib.hid hzB; clear hzB)); have HOWN := Lib.hid hown6; clear ho6 hown6)
          | (go_at_call 23; refine Calls.mono (HTAG.out _) ?_; rintro e w4 ⟨rfl, rfl⟩)))
      all_goals
        go_wp2_with fail
        go_meet
        case rel => first | exact ⟨_, _, _, rfl, rfl, below_al hbl6 _, hls6, Blk.new w5 _ _, HOWN.out.alloc _⟩ | exact ⟨_, _, _, rfl, rfl, below_set3Y hbl6 _ _ _ (Nat.le_refl _), Nat.le_refl _, blk3Y HZB.out _ _ _, own_set3Y HZB.out HOWN.out _ _ _⟩
    case rest =>
      obtain ⟨b6, A6, cc6, rfl, rfl, hbl6, hle6, hk6, ho6⟩ := hcut
      have hstr : ((⟨#[49, 58, 97, 44, 49, 58, 50, 44, 49, 58, 49, 44, 49, 54, 58]⟩ : ByteArray) ++ ⟨T.toArray⟩) ++ ⟨#[44]⟩ = ⟨b1.toArray⟩ := by
        rw [hCb.out]
        apply ByteArray.ext
        simp [ByteArray.data_append]
      replace hk6 : Blk wc b6 24 #[.string ⟨#[97]⟩, .int .i64 2, .slice A6 2 cc6] := hk6
      replace ho6 : wc.ownsRow _ 64 2 (.slice A6 2 cc6) 2 (cellsT c2.tags) := ho6
      obtain ⟨g6, cap6, hv6, _, hg6⟩ := ho6.form (by omega)
      injection hv6 with hA6 hl6 hcap6
      subst hA6 hcap6
      clear hl6
      have e0 : wc.cell? ⟨g6, 0, none⟩ = some (.int .i64 0) := by
        have := ho6.cells (g := g6) rfl 0 (.int .i64 0) rfl
        rwa [add_lit2] at this
      have d0 : wc.cell? ⟨b6, 0, none⟩ = some (.string ⟨#[97]⟩) := hk6.cell 0
      have d1 : wc.cell? ⟨b6, 1, none⟩ = some (.int .i64 2) := hk6.cell 1
      have d2 : wc.cell? ⟨b6, 2, none⟩ = some (.slice (some ⟨g6, 0, none⟩) 2 cc6) := hk6.cell 2
      have hCN : Hid (Calls Tryd.prog 22 #[.agg #[.string ⟨#[97]⟩, .int .i64 2, .slice (some ⟨g6, 0, none⟩) 2 cc6]] wc fun e w' => e = .returned (.int .i64 2) ∧ Below wc.heap.size wc w') := count_any c2 (some ⟨g6, 0, none⟩) cc6 wc
      have HK6 := Lib.hid hk6
      have HO6 := Lib.hid ho6
      have HBF := Lib.hid (HBW.out.trans ((HB25.out.mono HBW.out.size).trans (hbl6.mono (Nat.le_trans HBW.out.size HB25.out.size))))
      have HG6 := Lib.hid hg6
      clear hk6 ho6 hbl6 hle6 hle5 hsz2 hsz5 HC5 HB25 HB5 HA1 HA2 HC hg6
      simp only
      have hTl := HTL.out
      go_wp2_with (first
        | (go_at_call 23; refine Calls.mono (HTAG.out _) ?_; rintro e w4 ⟨rfl, rfl⟩)
        | (go_at_call 22; refine Calls.mono hCN.out ?_; rintro e w7 ⟨rfl, hb7⟩; have e0 := (hb7.cell (p := ⟨g6, 0, none⟩) HG6.out).trans e0; have hk7 := HK6.out.below hb7 HK6.out.lt; have d2 : w7.cell? ⟨b6, 2, none⟩ = some (.slice (some ⟨g6, 0, none⟩) 2 cc6) := hk7.cell 2; have HB7 := Lib.hid (HBF.out.trans (hb7.mono HBF.out.size)); clear hb7 hk7))
      go_ret
      exact ⟨rfl, HB7.out⟩

end Go.Proofs.YtkmhimaeakbpoaaDoor
