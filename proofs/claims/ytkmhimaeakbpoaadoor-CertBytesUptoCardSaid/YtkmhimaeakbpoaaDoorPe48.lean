/- CertBytes: the law's walk (printed by tools/gen_yz.py). -/
import Derived.Test.YtkmhimaeakbpoaaDoorPe35
import Derived.Test.YtkmhimaeakbpoaaDoorPe45
import Derived.Test.YtkmhimaeakbpoaaDoorPe46
import Derived.Test.YtkmhimaeakbpoaaDoorPe47
set_option linter.unusedVariables false
set_option linter.unusedSimpArgs false
set_option linter.unnecessarySimpa false
namespace Go.Proofs.YtkmhimaeakbpoaaDoor
open Go.RowKit Go.Shelf

theorem decS_small (b : Bs) : (decS b).1.tags.length ≤ b.length ∧ (decS b).1.t.length ≤ b.length := by
  unfold decS
  split
  · rename_i h0
    have hs := unpackB_small b
    cases hc : crtO (unpackB b).1 with
    | none => simp [crt0]
    | some c =>
      simp only
      split
      · have hf := crt_flat hc
        have h1 := congrArg List.length hf
        unfold crtL at h1
        simp only [List.length_cons, flat_tagB] at h1
        have h2 := hs.2 c.t (by rw [← hf]; simp [crtL])
        exact ⟨by have := hs.1; simp only; omega, h2⟩
      · simp [crt0]
  · simp [crt0]
theorem tagB_le16 (l : List TagV) (h : ∀ x ∈ l, (-9223372036854775808 ≤ x.1 ∧ x.1 ≤ 9223372036854775807) ∧ x.2.length = 16) : (packB (l.flatMap tagB)).length ≤ l.length * 200 := by
  induction l with
  | nil => simp [packB]
  | cons x l ih =>
    have h1 := h x (by simp)
    have h2 := ih (fun y hy => h y (by simp [hy]))
    have h3 := itoa_small h1.1.1 h1.1.2
    have h4 := itoa_small (n := (x.2.length : Int)) (by omega) (by omega)
    have h5 := itoa_small (n := ((Lib.itoa x.1).length : Int)) (by omega) (by omega)
    rw [List.flatMap_cons, packB_append]
    show (packB [Lib.itoa x.1, x.2] ++ _).length ≤ _
    have h6 : packB [] = [] := rfl
    rw [packB_cons, packB_cons, h6]
    simp only [List.length_append, List.length_cons, List.length_nil]
    omega
theorem encS_ok {c : Crt} {X : Bs} {E : Int} (h : encS c = (X, E)) (he : E = 0) : formS c = 0 ∧ (c.t.length ≤ 999999999 → decS X = (c, 0)) ∧ (c.tags.length ≤ 40 → c.t.length ≤ 20000 → X.length ≤ 1048576) := by
  unfold encS at h
  split at h
  · rename_i hf
    injection h with h1 h2
    refine ⟨hf, fun ht => by rw [← h1]; exact dec_enc hf ht, fun h3 h4 => ?_⟩
    obtain ⟨f1, f2, f3⟩ := form_in hf
    have ht := tagB_le16 c.tags (fun x hx => by obtain ⟨a, b, d, _⟩ := tagsE_in f3 x hx; exact ⟨by omega, d⟩)
    have g1 := itoa_small (n := c.g) (by omega) (by omega)
    have g2 := itoa_small (n := (c.t.length : Int)) (by omega) (by omega)
    have g3 := itoa_small (n := ((Lib.itoa c.g).length : Int)) (by omega) (by omega)
    rw [← h1]
    unfold crtL
    rw [packB_cons, packB_cons]
    simp only [List.length_append, List.length_cons, List.length_nil]
    omega
  · rename_i hf
    injection h with h1 h2
    omega
theorem keep6 {W w' : World} {b1 b2 : Nat} {t1 t2 : TypeId} {a0 a1 a2 c0 c1 c2 : Value} (h1 : Blk W b1 t1 #[a0, a1, a2]) (h2 : Blk W b2 t2 #[c0, c1, c2]) (h : Below W.heap.size W w') :
    w'.cell? ⟨b1, 0, none⟩ = some a0 ∧ w'.cell? ⟨b1, 1, none⟩ = some a1 ∧ w'.cell? ⟨b1, 2, none⟩ = some a2 ∧ w'.cell? ⟨b2, 0, none⟩ = some c0 ∧ w'.cell? ⟨b2, 1, none⟩ = some c1 ∧ w'.cell? ⟨b2, 2, none⟩ = some c2 :=
  ⟨(h1.below h h1.lt).cell 0, (h1.below h h1.lt).cell 1, (h1.below h h1.lt).cell 2, (h2.below h h2.lt).cell 0, (h2.below h h2.lt).cell 1, (h2.below h h2.lt).cell 2⟩
theorem keep9 {W w' : World} {b1 b2 b3 : Nat} {t1 t2 t3 : TypeId} {a0 a1 a2 c0 c1 c2 e0 e1 e2 : Value} (h1 : Blk W b1 t1 #[a0, a1, a2]) (h2 : Blk W b2 t2 #[c0, c1, c2]) (h3 : Blk W b3 t3 #[e0, e1, e2]) (h : Below W.heap.size W w') :
    w'.cell? ⟨b1, 0, none⟩ = some a0 ∧ w'.cell? ⟨b1, 1, none⟩ = some a1 ∧ w'.cell? ⟨b1, 2, none⟩ = some a2 ∧ w'.cell? ⟨b2, 0, none⟩ = some c0 ∧ w'.cell? ⟨b2, 1, none⟩ = some c1 ∧ w'.cell? ⟨b2, 2, none⟩ = some c2 ∧ w'.cell? ⟨b3, 0, none⟩ = some e0 ∧ w'.cell? ⟨b3, 1, none⟩ = some e1 ∧ w'.cell? ⟨b3, 2, none⟩ = some e2 :=
  ⟨(h1.below h h1.lt).cell 0, (h1.below h h1.lt).cell 1, (h1.below h h1.lt).cell 2, keep6 h2 h3 h⟩

set_option maxHeartbeats 8000000 in
set_option maxRecDepth 100000 in
theorem cbytes_law (c : Crt) (A : Option Addr) (cc : Nat) (s : Bs) (hs : s.length ≤ 1048576) (w : World) (hl : Lay w) (hr : Rd w w.heap.size 2 (.slice A c.tags.length cc) c.tags.length (cellsT c.tags)) :
    Calls Tryd.prog 7 #[.agg #[.string ⟨c.t.toArray⟩, .int .i64 c.g, .slice A c.tags.length cc], .string ⟨s.toArray⟩] w fun e w' => e = .returned (.bool true) ∧ Below w.heap.size w w' := by
  have HO := Lib.hid (fun w1 (h : Below w.heap.size w w1) => one_any w1 (hl.later h).n)
  have HR := Lib.hid hr
  generalize hW0 : w.alloc (.cells #[.string ⟨c.t.toArray⟩, .int .i64 c.g, .slice A c.tags.length cc] 24) = W0
  have hb0 : Below w.heap.size w W0 := by rw [← hW0]; exact (Below.refl _ w).alloc (Nat.le_refl _) _
  have hX0 : Blk W0 w.heap.size 24 #[.string ⟨c.t.toArray⟩, .int .i64 c.g, .slice A c.tags.length cc] := by rw [← hW0]; exact Blk.new w _ _
  have HX := Lib.hid hX0
  have HB0 := Lib.hid hb0
  have x0 : W0.cell? ⟨w.heap.size, 0, none⟩ = some (.string ⟨c.t.toArray⟩) := hX0.cell 0
  have x1 : W0.cell? ⟨w.heap.size, 1, none⟩ = some (.int .i64 c.g) := hX0.cell 1
  have x2 : W0.cell? ⟨w.heap.size, 2, none⟩ = some (.slice A c.tags.length cc) := hX0.cell 2
  have hLG := large_any c A cc W0
  clear hb0 hX0
  cases hlg : largeS c with
  | true =>
    rw [hlg] at hLG
    clear hlg
    go_enter Tryd.func7, Tryd.ntmps7
    go_upto_region 1 with fail
    clear hW0
    go_wp2_with fail
    refine hLG.mono ?_
    rintro e w1 ⟨rfl, hb1⟩
    have HB1 := Lib.hid (HB0.out.trans (hb1.mono HB0.out.size))
    clear hb1 x0 x1 x2
    go_wp2_with fail
    refine (HO.out _ HB1.out).mono ?_
    rintro e w2 ⟨rfl, hb2⟩
    go_wp2
    go_ret
    exact ⟨rfl, HB1.out.trans (hb2.mono HB1.out.size)⟩
  | false =>
    rw [hlg] at hLG
    by_cases hlb : 20000 < s.length
    · have hi : (20000 : Int) < (s.length : Int) := by omega
      clear hlg hlb
      go_enter Tryd.func7, Tryd.ntmps7
      go_upto_region 1 with fail
      clear hW0
      go_wp2_with fail
      refine hLG.mono ?_
      rintro e w1 ⟨rfl, hb1⟩
      have HB1 := Lib.hid (HB0.out.trans (hb1.mono HB0.out.size))
      clear hb1 x0 x1 x2
      go_wp2_with fail
      refine (HO.out _ HB1.out).mono ?_
      rintro e w2 ⟨rfl, hb2⟩
      go_wp2
      go_ret
      exact ⟨rfl, HB1.out.trans (hb2.mono HB1.out.size)⟩
    have hi : decide ((20000 : Int) < (s.length : Int)) = false := by rw [decide_eq_false_iff_not]; omega
    have hm : c.tags.length ≤ 40 ∧ c.t.length ≤ 20000 := by
      unfold largeS at hlg
      simp only [Bool.or_eq_false_iff, decide_eq_false_iff_not] at hlg
      omega
    obtain ⟨hm, htl⟩ := hm
    have hsm := decS_small s
    obtain ⟨⟨⟨rt, rg, rl⟩, re⟩, hD⟩ : ∃ r, decS s = r := ⟨_, rfl⟩
    rw [hD] at hsm
    simp only at hsm
    obtain ⟨hrl, hrt⟩ := hsm
    obtain ⟨⟨X, E⟩, hE⟩ : ∃ r, encS c = r := ⟨_, rfl⟩
    clear hlg
    go_enter Tryd.func7, Tryd.ntmps7
    go_upto_region 1 with fail
    clear hW0
    go_wp2_with fail
    refine hLG.mono ?_
    rintro e w1 ⟨rfl, hb1⟩
    have HB1 := Lib.hid (HB0.out.trans (hb1.mono HB0.out.size))
    have HX1 := Lib.hid (HX.out.below hb1 HX.out.lt)
    obtain ⟨x0, x1, x2⟩ := keep3Y HX1.out (Below.refl _ _)
    have hEN := enc_any c (.slice A c.tags.length cc) w1 (hl.later HB1.out).n w.heap.size HB1.out.size (HR.out.below HB1.out) (by omega) (by omega)
    rw [hE] at hEN
    simp only at hEN
    clear hb1 HX HB0 hLG
    go_wp2_with fail
    refine hEN.mono ?_
    rintro e w2 ⟨rfl, hb2⟩
    have HB2 := Lib.hid (HB1.out.trans (hb2.mono HB1.out.size))
    have HX2 := Lib.hid (HX1.out.below hb2 HX1.out.lt)
    obtain ⟨x0, x1, x2⟩ := keep3Y HX2.out (Below.refl _ _)
    clear hb2 HX1 HB1 hEN
    have hRF := ref_any c (.slice A c.tags.length cc) w2 w.heap.size HB2.out.size (HR.out.below HB2.out) (by omega)
    unfold RefOut at hRF
    go_wp2_with fail
    refine hRF.mono ?_
    rintro e w3 ⟨A3, k3, rfl, ho3, hb3⟩
    have HB3 := Lib.hid (HB2.out.trans (hb3.mono HB2.out.size))
    have HX3 := Lib.hid (HX2.out.below hb3 HX2.out.lt)
    have hRE := renc_any c (.slice A3 c.tags.length k3) w3 w3.heap.size (Nat.le_refl _) (Rd.of_own ho3) (by omega) (by omega)
    rw [hE] at hRE
    simp only at hRE
    clear hb3 ho3 HX2 HB2 hRF x0 x1 x2
    go_wp2_with fail
    refine hRE.mono ?_
    rintro e w4 ⟨rfl, hb4⟩
    have HB4 := Lib.hid (HB3.out.trans (hb4.mono HB3.out.size))
    have HX4 := Lib.hid (HX3.out.below hb4 HX3.out.lt)
    have hDE := decode_any s (by omega) w4 (hl.later HB4.out)
    unfold CrtOut at hDE
    rw [hD] at hDE
    simp only at hDE
    clear hb4 HX3 HB3 hRE
    go_wp2_with fail
    refine hDE.mono ?_
    rintro e w5 ⟨Ap, kp, rfl, hop, hb5⟩
    have HB5 := Lib.hid (HB4.out.trans (hb5.mono HB4.out.size))
    have HX5 := Lib.hid (HX4.out.below hb5 HX4.out.lt)
    have HRP := Lib.hid (Rd.of_own hop)
    clear hb5 HX4 HB4 hDE hop
    have hRD := fun w0 => rdecode_any s (by omega) w0
    unfold RCrtOut at hRD
    rw [hD] at hRD
    simp only at hRD
    go_wp2_with fail
    refine (hRD _).mono ?_
    rintro e w6 ⟨Aq, kq, rfl, hoq, hb6⟩
    have HP6 := Lib.hid ((Blk.new w5 24 #[.string ⟨rt.toArray⟩, .int .i64 rg, .slice Ap rl.length kp]).below hb6 (by simp))
    have hb56 : Below w5.heap.size w5 w6 := ((Below.refl _ w5).alloc (Nat.le_refl _) _).trans (hb6.mono (by simp))
    have HB6 := Lib.hid (HB5.out.trans (hb56.mono HB5.out.size))
    have HX6 := Lib.hid (HX5.out.below hb56 HX5.out.lt)
    have HRP6 := Lib.hid (HRP.out.below hb56)
    have HRQ6 := Lib.hid (Rd.of_own hoq)
    have hs65 := hb56.size
    have hs6 : w5.heap.size < w6.heap.size := by have := hb6.size; simp at this; omega
    clear hb6 hb56 HX5 HB5 hRD hoq HRP
    go_upto_region 7 with fail
    generalize hW : w6.alloc (.cells #[.string ⟨rt.toArray⟩, .int .i64 rg, .slice Aq rl.length kq] 36) = W at *
    have hbW : Below w6.heap.size w6 W := by rw [← hW]; exact (Below.refl _ _).alloc (Nat.le_refl _) _
    have HQ : Hid (Blk W w6.heap.size 36 #[.string ⟨rt.toArray⟩, .int .i64 rg, .slice Aq rl.length kq]) := by unfold Hid; rw [← hW]; exact Blk.new _ _ _
    have HBW := Lib.hid (HB6.out.trans (hbW.mono HB6.out.size))
    have HX := Lib.hid (HX6.out.below hbW HX6.out.lt)
    have HP := Lib.hid (HP6.out.below hbW HP6.out.lt)
    have HRP := Lib.hid ((HRP6.out.more hs65).below hbW |>.more hbW.size)
    have HRQ := Lib.hid (HRQ6.out.below hbW |>.more hbW.size)
    have hwsz := HBW.out.size
    clear hW hbW HX6 HP6 HB6 HRP6 HRQ6 hs65
    have HSM := Lib.hid (fun (w1 : World) (h : Below W.heap.size W w1) => same_true ⟨rt, rg, rl⟩ Ap Aq kp kq w1 W.heap.size h.size (HRP.out.below h) (HRQ.out.below h) (by simp only; omega))
    have HRF := Lib.hid (fun (w1 : World) (h : Below W.heap.size W w1) => ref_any c (.slice A c.tags.length cc) w1 w.heap.size (Nat.le_trans hwsz h.size) (HR.out.below (HBW.out.trans (h.mono hwsz))) (by omega))
    have HCR := Lib.hid (fun (w1 : World) (h : Below W.heap.size W w1) => HR.out.below (HBW.out.trans (h.mono hwsz)))
    have HEN : Hid (re = 0 → ∀ (w1 : World), Below W.heap.size W w1 → Calls Tryd.prog 18 #[.agg #[.string ⟨rt.toArray⟩, .int .i64 rg, .slice Ap rl.length kp]] w1 fun e w' => e = .returned (.tuple #[.string ⟨s.toArray⟩, .int .i64 0]) ∧ Below w1.heap.size w1 w') := fun hre w1 h => by
      have h1 := enc_any ⟨rt, rg, rl⟩ (.slice Ap rl.length kp) w1 (hl.later (HBW.out.trans (h.mono hwsz))).n W.heap.size h.size (HRP.out.below h) (by simp only; omega) (by simp only; omega)
      have h2 := enc_dec (b := s) (by rw [hD]; exact hre)
      rw [hD] at h2
      simp only at h2
      rw [h2] at h1
      exact h1
    have HDE : Hid (E = 0 → ∀ (w1 : World), Below W.heap.size W w1 → Calls Tryd.prog 20 #[.string ⟨X.toArray⟩] w1 (CrtOut w1 (c, 0))) := fun he w1 h => by
      obtain ⟨h1, h2, h3⟩ := encS_ok hE he
      have h4 := decode_any X (h3 (by omega) (by omega)) w1 (hl.later (HBW.out.trans (h.mono hwsz)))
      rw [h2 (by omega)] at h4
      exact h4
    have HXL := Lib.hid HX.out.lt
    clear hD hE hl hr HR
    go_cut [72] (fun v wc => v = .bool false ∧ Below W.heap.size W wc)
    case first =>
      go_region_held3 (fun w' => w'.cell? ⟨w.heap.size, 0, none⟩ = some (.string ⟨c.t.toArray⟩) ∧ w'.cell? ⟨w.heap.size, 1, none⟩ = some (.int .i64 c.g) ∧ w'.cell? ⟨w.heap.size, 2, none⟩ = some (.slice A c.tags.length cc) ∧ w'.cell? ⟨w5.heap.size, 0, none⟩ = some (.string ⟨rt.toArray⟩) ∧ w'.cell? ⟨w5.heap.size, 1, none⟩ = some (.int .i64 rg) ∧ w'.cell? ⟨w5.heap.size, 2, none⟩ = some (.slice Ap rl.length kp) ∧ w'.cell? ⟨w6.heap.size, 0, none⟩ = some (.string ⟨rt.toArray⟩) ∧ w'.cell? ⟨w6.heap.size, 1, none⟩ = some (.int .i64 rg) ∧ w'.cell? ⟨w6.heap.size, 2, none⟩ = some (.slice Aq rl.length kq))
        ((refine keep9 HX.out HP.out HQ.out ?_; simp only [bl_drew, bl_alloc, bl_refl, *, Nat.le_refl]))
        ((first
          | (go_at_call 13; refine Calls.mono (HSM.out _ (by simp only [bl_drew, bl_refl])) ?_; rintro e w7 ⟨rfl, hb7⟩; have hbl7 : Below W.heap.size W w7 := below_then (by simp only [bl_drew, bl_refl]) hb7; clear hb7)
          | (go_at_call 22; refine Calls.mono (count_any c A cc _) ?_; rintro e w8 ⟨rfl, hb8⟩; have hbl8 : Below W.heap.size W w8 := below_then (by simp only [bl_drew, hbl7]) hb8; clear hb8)))
      all_goals
        go_wp2_with fail
        go_meet
        case rel => exact ⟨rfl, hbl8⟩
    case rest =>
      obtain ⟨rfl, hbl⟩ := hcut
      clear HSM
      by_cases he : E = 0
      · subst he
        have hx := HX.out.below hbl HX.out.lt
        have hDE := HDE.out rfl _ hbl
        unfold CrtOut at hDE
        have HBL := Lib.hid hbl
        clear hx HDE hbl
        go_wp2_with fail
        refine hDE.mono ?_
        rintro e w9 ⟨A9, k9, rfl, ho9, hb9⟩
        have HB9 := Lib.hid (HBL.out.trans (hb9.mono HBL.out.size))
        have HO9 := Lib.hid ho9
        clear hb9 ho9 hDE HBL
        go_upto_region 11 with fail
        generalize hV : w9.alloc (.cells #[.string ⟨c.t.toArray⟩, .int .i64 c.g, .slice A9 c.tags.length k9] 24) = V at *
        have hbV : Below w9.heap.size w9 V := by rw [← hV]; exact (Below.refl _ _).alloc (Nat.le_refl _) _
        have HK : Hid (Blk V w9.heap.size 24 #[.string ⟨c.t.toArray⟩, .int .i64 c.g, .slice A9 c.tags.length k9]) := by unfold Hid; rw [← hV]; exact Blk.new _ _ _
        have HBV := Lib.hid (HB9.out.trans (hbV.mono HB9.out.size))
        have HXV := Lib.hid (HX.out.below HBV.out HX.out.lt)
        have HRK := Lib.hid (Rd.of_own (own_below HO9.out hbV))
        have hvsz := HBV.out.size
        have HRFV := Lib.hid (fun (w1 : World) (h : Below V.heap.size V w1) => HRF.out w1 (HBV.out.trans (h.mono hvsz)))
        have HSC := Lib.hid (fun (w1 : World) (A2 : Option Addr) (k2 : Nat) (h : Below V.heap.size V w1) (h2 : Rd w1 w1.heap.size 2 (.slice A2 c.tags.length k2) c.tags.length (cellsT c.tags)) => same_true c A9 A2 k9 k2 w1 w1.heap.size (Nat.le_refl _) ((HRK.out.below h).more h.size) h2 (by omega))
        unfold RefOut at HRFV
        clear hV hbV HO9 HB9 HRF
        go_cut [88] (fun v wc => v = .bool false ∧ Below V.heap.size V wc)
        case first =>
          go_region_held3 (fun w' => w'.cell? ⟨w.heap.size, 0, none⟩ = some (.string ⟨c.t.toArray⟩) ∧ w'.cell? ⟨w.heap.size, 1, none⟩ = some (.int .i64 c.g) ∧ w'.cell? ⟨w.heap.size, 2, none⟩ = some (.slice A c.tags.length cc) ∧ w'.cell? ⟨w9.heap.size, 0, none⟩ = some (.string ⟨c.t.toArray⟩) ∧ w'.cell? ⟨w9.heap.size, 1, none⟩ = some (.int .i64 c.g) ∧ w'.cell? ⟨w9.heap.size, 2, none⟩ = some (.slice A9 c.tags.length k9))
            ((refine keep6 HXV.out HK.out ?_; simp only [bl_drew, bl_alloc, bl_refl, *, Nat.le_refl]))
            ((first
              | (go_at_call 13; refine Calls.mono (HSC.out _ _ _ (by simp only [bl_drew, hbla]) (Rd.of_own HORA.out)) ?_; rintro e wb ⟨rfl, hbb⟩; have hblb : Below V.heap.size V wb := below_then (by simp only [bl_drew, hbla]) hbb; clear hbb)
              | (go_at_call 12; refine Calls.mono (HRFV.out _ (by simp only [bl_drew, bl_refl])) ?_; rintro e wa ⟨Aa, ka, rfl, hoa, hba⟩; have hbla : Below V.heap.size V wa := below_then (by simp only [bl_drew, bl_refl]) hba; have HORA := Lib.hid hoa; clear hoa hba)))
          all_goals
            go_wp2_with fail
            go_meet
            case rel => exact ⟨rfl, hblb⟩
        case rest =>
          obtain ⟨rfl, hblV⟩ := hcut
          have hblW : Below W.heap.size W _ := HBV.out.trans (hblV.mono hvsz)
          clear hblV HSC HRFV HRK HXV HK HBV
          by_cases hg : re = 0
          · subst hg
            have hd := HP.out.below hblW HP.out.lt
            obtain ⟨d0, d1, d2⟩ := keep3Y hd (Below.refl _ _)
            have hen := HEN.out rfl _ hblW
            have HBK := Lib.hid hblW
            clear hd
            go_wp2_with fail
            refine hen.mono ?_
            rintro e wy ⟨rfl, hby⟩
            have hbyW : Below W.heap.size W wy := HBK.out.trans (hby.mono HBK.out.size)
            clear hby hen d0 d1 d2
            have HBE := Lib.hid (HBW.out.trans (hbyW.mono hwsz))
            go_wp2_with fail
            refine (HO.out _ HBE.out).mono ?_
            rintro e wz ⟨rfl, hbz⟩
            go_wp2
            go_ret
            exact ⟨rfl, HBE.out.trans (hbz.mono HBE.out.size)⟩
          · have hg' : (re == 0) = false := by rw [beq_eq_false_iff_ne]; exact hg
            clear hg
            have HBE := Lib.hid (HBW.out.trans (hblW.mono hwsz))
            go_wp2_with fail
            refine (HO.out _ HBE.out).mono ?_
            rintro e wz ⟨rfl, hbz⟩
            go_wp2
            go_ret
            exact ⟨rfl, HBE.out.trans (hbz.mono HBE.out.size)⟩
      · have he' : (E == 0) = false := by rw [beq_eq_false_iff_ne]; exact he
        clear he HDE HRF
        by_cases hg : re = 0
        · subst hg
          have hd := HP.out.below hbl HP.out.lt
          obtain ⟨d0, d1, d2⟩ := keep3Y hd (Below.refl _ _)
          have hen := HEN.out rfl _ hbl
          have HBK := Lib.hid hbl
          clear hd
          go_wp2_with fail
          refine hen.mono ?_
          rintro e wy ⟨rfl, hby⟩
          have hbyW : Below W.heap.size W wy := HBK.out.trans (hby.mono HBK.out.size)
          clear hby hen d0 d1 d2
          have HBE := Lib.hid (HBW.out.trans (hbyW.mono hwsz))
          go_wp2_with fail
          refine (HO.out _ HBE.out).mono ?_
          rintro e wz ⟨rfl, hbz⟩
          go_wp2
          go_ret
          exact ⟨rfl, HBE.out.trans (hbz.mono HBE.out.size)⟩
        · have hg' : (re == 0) = false := by rw [beq_eq_false_iff_ne]; exact hg
          clear hg
          have HBE := Lib.hid (HBW.out.trans (hbl.mono hwsz))
          go_wp2_with fail
          refine (HO.out _ HBE.out).mono ?_
          rintro e wz ⟨rfl, hbz⟩
          go_wp2
          go_ret
          exact ⟨rfl, HBE.out.trans (hbz.mono HBE.out.size)⟩

end Go.Proofs.YtkmhimaeakbpoaaDoor
