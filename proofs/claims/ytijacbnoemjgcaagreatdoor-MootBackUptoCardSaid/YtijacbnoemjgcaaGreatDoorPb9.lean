/- Configurations: shards are given to groups. -/
import Derived.Test.YtijacbnoemjgcaaGreatDoorPb8
set_option linter.unusedVariables false
set_option linter.unusedSimpArgs false
set_option linter.unnecessarySimpa false
namespace Go.Proofs.YtijacbnoemjgcaaGreatDoor
open Go.RowKit Go.Shelf

def endsG (gs : List Int) (o : Own) : Int × Int := endsS o.list gs (gs.headD 0) (gs.headD 0)
theorem endsOf_G (c : Cfg) : endsOf c = endsG c.gs c.o := rfl
def stepA (gs : List Int) (o : Own) (k : Nat) : Own := if inS (o.get k) gs = true then o else o.put k 0
def cleanK (gs : List Int) (o : Own) : Nat → Own
  | 0 => o
  | k + 1 => stepA gs (cleanK gs o k) k
def stepB (gs : List Int) (o : Own) (k : Nat) : Own := if o.get k = 0 then o.put k (endsG gs o).2 else o
def fillK (gs : List Int) (o : Own) : Nat → Own
  | 0 => o
  | k + 1 => stepB gs (fillK gs o k) k
/-- The last loop, with so many rounds at most. -/
def evenK (gs : List Int) (o : Own) : Nat → Option Own
  | 0 => none
  | n + 1 => if cnt o.list (endsG gs o).1 - cnt o.list (endsG gs o).2 < 2 then some o else evenK gs (o.put (idxS (endsG gs o).1 o.list).toNat (endsG gs o).2) n
def giveS (gs : List Int) (o : Own) : Option Own := evenK gs (fillK gs (cleanK gs o 4) 4) 5

def cfgCells (num : Int) (s : Value) (o : Own) : Array Value := #[.int .i64 num, s, .int .i64 o.a, .int .i64 o.b, .int .i64 o.c, .int .i64 o.d]
theorem cfgCells_get (num : Int) (s : Value) (o : Own) (k : Nat) (hk : k < 4) : (cfgCells num s o)[2 + k]? = some (.int .i64 (o.get k)) := by
  have h : k = 0 ∨ k = 1 ∨ k = 2 ∨ k = 3 := by omega
  rcases h with rfl | rfl | rfl | rfl <;> rfl
theorem cfgCells_set (num : Int) (s : Value) (o : Own) (k : Nat) (hk : k < 4) (v : Int) : (cfgCells num s o).setIfInBounds (2 + k) (.int .i64 v) = cfgCells num s (o.put k v) := by
  have h : k = 0 ∨ k = 1 ∨ k = 2 ∨ k = 3 := by omega
  rcases h with rfl | rfl | rfl | rfl <;> rfl
def Five (o : Own) : Prop := ∀ k, k < 4 → 0 ≤ o.get k ∧ o.get k < 5
theorem five_put {o : Own} (h : Five o) (k : Nat) (v : Int) (h0 : 0 ≤ v) (h5 : v < 5) : Five (o.put k v) := by
  intro j hj
  have e : j = 0 ∨ j = 1 ∨ j = 2 ∨ j = 3 := by omega
  have a0 := h 0 (by omega)
  have a1 := h 1 (by omega)
  have a2 := h 2 (by omega)
  have a3 := h 3 (by omega)
  simp only [Own.get] at a0 a1 a2 a3
  unfold Own.put
  split <;> rcases e with rfl | rfl | rfl | rfl <;> simp only [Own.get] <;> omega
theorem endsS_mem (l : List Int) (p : Int → Prop) : ∀ (gs : List Int) (m f : Int), (∀ g ∈ gs, p g) → p m → p f → p (endsS l gs m f).1 ∧ p (endsS l gs m f).2
  | [], _, _, _, hm, hf => ⟨hm, hf⟩
  | g :: gs, m, f, hg, hm, hf => by
    rw [endsS]
    have h1 := hg g (by simp)
    refine endsS_mem l p gs _ _ (fun x hx => hg x (by simp [hx])) ?_ ?_
    · split <;> assumption
    · split <;> assumption
theorem endsG_mem (gs : List Int) (o : Own) (p : Int → Prop) (h0 : 0 < gs.length) (hg : ∀ g ∈ gs, p g) : p (endsG gs o).1 ∧ p (endsG gs o).2 := by
  have h : p (gs.headD 0) := by rw [headD_get gs h0]; exact hg _ (List.getElem_mem _)
  exact endsS_mem _ p gs _ _ hg h h
theorem idxS_mem (x : Int) (l : List Int) (h : x ∈ l) : 0 ≤ idxS x l ∧ idxS x l < l.length := by
  induction l with
  | nil => simp at h
  | cons a l ih =>
    rw [idxS]
    by_cases e : x = a
    · rw [if_pos e]; simp
    · have := ih (by simpa [e] using h)
      rw [if_neg e, if_neg (by omega)]
      simp; omega
theorem cnt_mem (x : Int) (l : List Int) (h : 0 < cnt l x) : x ∈ l := by
  unfold cnt at h
  have h2 : 0 < l.countP (· == x) := by omega
  rw [List.countP_pos_iff] at h2
  obtain ⟨a, ha, e⟩ := h2
  have : a = x := by simpa using e
  exact this ▸ ha

section
variable {w W : World} {b : Nat} {num : Int} {s : Value} {o : Own}
theorem blk_own (h : Blk w b 46 (cfgCells num s o)) (k : Nat) (hk : k < 4) : w.cell? ⟨b, 2 + k, none⟩ = some (.int .i64 (o.get k)) := by
  rw [h.cell]; exact cfgCells_get num s o k hk
theorem blk_put (h : Blk w b 46 (cfgCells num s o)) (k : Nat) (hk : k < 4) (v : Int) : Blk (w.setCell ⟨b, 2 + k, none⟩ (.int .i64 v)) b 46 (cfgCells num s (o.put k v)) := by
  rw [← cfgCells_set num s o k hk v]; exact h.set_ _ _
end

set_option maxHeartbeats 1000000 in
set_option maxRecDepth 100000 in
theorem give_any (b : Nat) (num : Int) (gs : List Int) (o of : Own) (s : Value) (w : World) (B : Nat) (hBw : B ≤ w.heap.size) (hk : Blk w b 46 (cfgCells num s o)) (hrr : ∀ w', Chg (fun i => i = b) w w' → Rd w' B 1 s gs.length (ints gs)) (hm : gs.length ≤ 9223372036854775807)
    (ho : Five o) (hg : ∀ g ∈ gs, 0 ≤ g ∧ g < 5) (h0 : 0 < gs.length) (hres : giveS gs o = some of) :
    Calls Tryz.prog 57 #[.pointer (some ⟨b, 0, none⟩)] w fun e w' => e = .returned (.tuple #[]) ∧ Blk w' b 46 (cfgCells num s of) ∧ Chg (fun i => i = b) w w' := by
  have HO := Lib.hid ho
  have HG := Lib.hid hg
  have hr := hrr w (Chg.refl _ w)
  have HR := Lib.hid hrr
  clear hrr
  have HK := Lib.hid hk
  have HRES := Lib.hid hres
  have hblt := hk.lt
  obtain ⟨_, A, cc, rfl, _, _⟩ := hr
  clear ho hg hres hk
  go_enter Tryz.func57, Tryz.ntmps57
  go_wp2
  go_loopw [7] (fun i wr => ∃ k : Nat, k ≤ 4 ∧ i = .int .i64 k ∧ Hid (Blk wr b 46 (cfgCells num (.slice A gs.length cc) (cleanK gs o k)) ∧ Five (cleanK gs o k) ∧ Chg (fun i => i = b) w wr)) (fun i _ => 4 - (intOf i).toNat)
  case atStart => exact ⟨0, by omega, rfl, HK.out, HO.out, Chg.refl _ _⟩
  case round =>
    obtain ⟨k, hk, rfl, hI⟩ := hrel
    obtain ⟨hkb, h5, hch⟩ := hI.out
    by_cases hlt : k < 4
    · have hstep : Hid (cleanK gs o (k + 1) = stepA gs (cleanK gs o k) k) := rfl
      generalize hok : cleanK gs o k = ok at *
      clear hok
      have c1 : wr.cell? ⟨b, 1, none⟩ = some (.slice A gs.length cc) := hkb.cell 1
      have ck := blk_own hkb k hlt
      have fk := hkb.frozen (2 + k)
      have HRw : Hid (Rd wr B 1 (.slice A gs.length cc) gs.length (ints gs)) := HR.out _ hch
      have HB := Lib.hid hI.out
      have hk1 : (0 : Int) ≤ (k : Int) := by omega
      have hk2 : (k : Int) < 4 := by omega
      clear hkb h5 hch hI
      cases hq : inS (ok.get k) gs with
      | true =>
        have hst : Hid (stepA gs ok k = ok) := by unfold Hid stepA; rw [if_pos hq]
        go_wp2_with fail
        go_region_held3 (fun w' => w'.cell? ⟨b, 1, none⟩ = some (.slice A gs.length cc) ∧ w'.cell? ⟨b, 2 + k, none⟩ = some (.int .i64 (ok.get k)))
          (first | exact ⟨c1, ck⟩)
          ((go_at_call 72; refine (contains_any _ gs _ wr.drew B HRw.out hm).mono ?_; rintro e w' ⟨rfl, rfl⟩; rw [hq]))
        go_wp2_with fail
        go_roundw
        case rel => exact ⟨k + 1, by omega, by go_num, by unfold Hid; rw [hstep.out, hst.out]; exact ⟨HB.out.1, HB.out.2.1, HB.out.2.2.drew⟩⟩
        case measure => simp [intOf]; omega
      | false =>
        have hst : Hid (stepA gs ok k = ok.put k 0) := by unfold Hid stepA; rw [if_neg (by rw [hq]; simp)]
        go_wp2_with fail
        go_region_held3 (fun w' => w'.cell? ⟨b, 1, none⟩ = some (.slice A gs.length cc) ∧ w'.cell? ⟨b, 2 + k, none⟩ = some (.int .i64 (ok.get k)))
          (first | exact ⟨c1, ck⟩)
          ((go_at_call 72; refine (contains_any _ gs _ wr.drew B HRw.out hm).mono ?_; rintro e w' ⟨rfl, rfl⟩; rw [hq]))
        go_wp2_with fail
        go_roundw
        case rel => exact ⟨k + 1, by omega, by go_num, by unfold Hid; rw [hstep.out, hst.out]; exact ⟨blk_put (w := wr.drew) HB.out.1 k hlt 0, five_put HB.out.2.1 k 0 (by omega) (by omega), HB.out.2.2.drew.setCell (fun _ => rfl) _⟩⟩
        case measure => simp [intOf]; omega
    · obtain rfl : k = 4 := by omega
      clear hkb h5 hch hlt
      have hres2 : Hid (evenK gs (fillK gs (cleanK gs o 4) 4) 5 = some of) := HRES.out
      generalize cleanK gs o 4 = o1 at *
      clear HRES HK HO
      go_wp2_with fail
      go_loopw [28] (fun i wx => ∃ k : Nat, k ≤ 4 ∧ i = .int .i64 k ∧ Hid (Blk wx b 46 (cfgCells num (.slice A gs.length cc) (fillK gs o1 k)) ∧ Five (fillK gs o1 k) ∧ Chg (fun i => i = b) w wx)) (fun i _ => 4 - (intOf i).toNat)
      case atStart => exact ⟨0, by omega, rfl, hI.out⟩
      case round =>
        obtain ⟨k, hk, rfl, hI⟩ := hrel
        obtain ⟨hkb, h5, hch⟩ := hI.out
        by_cases hlt : k < 4
        · have hstep : Hid (fillK gs o1 (k + 1) = stepB gs (fillK gs o1 k) k) := rfl
          generalize hok : fillK gs o1 k = ok at *
          clear hok
          have ck := blk_own hkb k hlt
          have fk := hkb.frozen (2 + k)
          have HRw : Hid (Rd wr B 1 (.slice A gs.length cc) gs.length (ints gs)) := HR.out _ hch
          have HB := Lib.hid hI.out
          have hk1 : (0 : Int) ≤ (k : Int) := by omega
          have hk2 : (k : Int) < 4 := by omega
          clear hkb h5 hch hI
          cases hq : (ok.get k == 0) with
          | false =>
            have hst : Hid (stepB gs ok k = ok) := by unfold Hid stepB; rw [if_neg (by simpa using hq)]
            go_wp2_with fail
            go_roundw
            case rel => exact ⟨k + 1, by omega, by go_num, by unfold Hid; rw [hstep.out, hst.out]; exact HB.out⟩
            case measure => simp [intOf]; omega
          | true =>
            have hst : Hid (stepB gs ok k = ok.put k (endsG gs ok).2) := by unfold Hid stepB; rw [if_pos (by simpa using hq)]
            have hmem := endsG_mem gs ok (fun x => 0 ≤ x ∧ x < 5) h0 HG.out
            have hends : Hid (Calls Tryz.prog 75 #[.agg #[.int .i64 num, .slice A gs.length cc, .int .i64 ok.a, .int .i64 ok.b, .int .i64 ok.c, .int .i64 ok.d]] wr.drew fun e w' => e = .returned (.tuple #[.int .i64 (endsG gs ok).1, .int .i64 (endsG gs ok).2]) ∧ Below wr.heap.size wr.drew w') :=
              ends_any ⟨num, gs, ok⟩ (.slice A gs.length cc) wr.drew B (by have := HB.out.2.2.size; show B ≤ wr.heap.size; omega) HRw.out hm HB.out.2.1 HG.out h0
            have e0 : wr.cell? ⟨b, 0, none⟩ = some (.int .i64 num) := HB.out.1.cell 0
            have e1 : wr.cell? ⟨b, 1, none⟩ = some (.slice A gs.length cc) := HB.out.1.cell 1
            have e2 : wr.cell? ⟨b, 2, none⟩ = some (.int .i64 ok.a) := HB.out.1.cell 2
            have e3 : wr.cell? ⟨b, 3, none⟩ = some (.int .i64 ok.b) := HB.out.1.cell 3
            have e4 : wr.cell? ⟨b, 4, none⟩ = some (.int .i64 ok.c) := HB.out.1.cell 4
            have e5 : wr.cell? ⟨b, 5, none⟩ = some (.int .i64 ok.d) := HB.out.1.cell 5
            have hbl : b < wr.heap.size := HB.out.1.lt
            generalize endsG gs ok = mf at *
            go_wp2_with fail
            go_region_with ((go_at_call 75; refine hends.out.mono ?_; rintro e w2 ⟨rfl, hb2⟩; have ck2 := (hb2.cell (p := ⟨b, 2 + k, none⟩) hbl).trans ck; have fk2 := (hb2.frozen (p := ⟨b, 2 + k, none⟩) hbl).trans fk))
            go_wp2_with fail
            have hfin : Hid (Blk (w2.setCell ⟨b, 2 + k, none⟩ (.int .i64 mf.2)) b 46 (cfgCells num (.slice A gs.length cc) (fillK gs o1 (k + 1))) ∧ Five (fillK gs o1 (k + 1)) ∧ Chg (fun i => i = b) w (w2.setCell ⟨b, 2 + k, none⟩ (.int .i64 mf.2))) := by
              unfold Hid; rw [hstep.out, hst.out]; exact ⟨blk_put (Blk.below (w := wr.drew) HB.out.1 hb2 hbl) k hlt _, five_put HB.out.2.1 k _ hmem.2.1 hmem.2.2, (Chg.below (w' := wr.drew) HB.out.2.2.drew hb2).setCell (fun _ => rfl) _⟩
            refine ⟨⟨_, _, _, _, _, _, _, _, _, _, _, _, _, _, _, _, _, _, _, _, _, _, _, _, ⟨k + 1, by omega, by go_num, hfin⟩, rfl⟩, ?_⟩
            simp [intOf]; omega
        · obtain rfl : k = 4 := by omega
          clear hkb h5 hch hlt
          generalize fillK gs o1 4 = o2 at *
          go_wp2_with fail
          go_loopg [4] 5 (fun j _ wx => ∃ o' : Own, Hid (evenK gs o' j = some of ∧ Blk wx b 46 (cfgCells num (.slice A gs.length cc) o') ∧ Five o' ∧ Chg (fun i => i = b) w wx))
          case atStart => exact ⟨o2, hres2.out, hI.out⟩
          case round =>
            obtain ⟨o', hJ⟩ := hrel
            clear hI hres2
            cases gk with
            | zero => have := hJ.out.1; simp [evenK] at this
            | succ n =>
              obtain ⟨hev, hkb, h5, hch⟩ := hJ.out
              rw [evenK] at hev
              have HRw : Hid (Rd wr B 1 (.slice A gs.length cc) gs.length (ints gs)) := HR.out _ hch
              have hmem := endsG_mem gs o' (fun x => 0 ≤ x ∧ x < 5) h0 HG.out
              have hends : Hid (Calls Tryz.prog 75 #[.agg #[.int .i64 num, .slice A gs.length cc, .int .i64 o'.a, .int .i64 o'.b, .int .i64 o'.c, .int .i64 o'.d]] wr fun e w' => e = .returned (.tuple #[.int .i64 (endsG gs o').1, .int .i64 (endsG gs o').2]) ∧ Below wr.heap.size wr w') :=
                ends_any ⟨num, gs, o'⟩ (.slice A gs.length cc) wr B (by have := hch.size; omega) HRw.out hm h5 HG.out h0
              have e0 : wr.cell? ⟨b, 0, none⟩ = some (.int .i64 num) := hkb.cell 0
              have e1 : wr.cell? ⟨b, 1, none⟩ = some (.slice A gs.length cc) := hkb.cell 1
              have e2 : wr.cell? ⟨b, 2, none⟩ = some (.int .i64 o'.a) := hkb.cell 2
              have e3 : wr.cell? ⟨b, 3, none⟩ = some (.int .i64 o'.b) := hkb.cell 3
              have e4 : wr.cell? ⟨b, 4, none⟩ = some (.int .i64 o'.c) := hkb.cell 4
              have e5 : wr.cell? ⟨b, 5, none⟩ = some (.int .i64 o'.d) := hkb.cell 5
              have hbl : b < wr.heap.size := hkb.lt
              have HEV := Lib.hid hev
              have HKB := Lib.hid hkb
              have HCH := Lib.hid hch
              have H5 := Lib.hid h5
              clear hev hkb h5 hch hJ
              generalize endsG gs o' = mf at *
              obtain ⟨m, f⟩ := mf
              simp only at HEV hmem hends
              obtain ⟨⟨m0, m5⟩, f0, f5⟩ := hmem
              go_wp2_with fail
              refine hends.out.mono ?_
              rintro e w2 ⟨rfl, hb2⟩
              have HKB2 := Lib.hid (HKB.out.below hb2 hbl)
              have HCH2 := Lib.hid (HCH.out.below hb2)
              clear hends e0 e1 e2 e3 e4 e5 HKB HCH HRw
              have e0 : w2.cell? ⟨b, 0, none⟩ = some (.int .i64 num) := HKB2.out.cell 0
              have e1 : w2.cell? ⟨b, 1, none⟩ = some (.slice A gs.length cc) := HKB2.out.cell 1
              have e2 : w2.cell? ⟨b, 2, none⟩ = some (.int .i64 o'.a) := HKB2.out.cell 2
              have e3 : w2.cell? ⟨b, 3, none⟩ = some (.int .i64 o'.b) := HKB2.out.cell 3
              have e4 : w2.cell? ⟨b, 4, none⟩ = some (.int .i64 o'.c) := HKB2.out.cell 4
              have e5 : w2.cell? ⟨b, 5, none⟩ = some (.int .i64 o'.d) := HKB2.out.cell 5
              have hbl2 : b < w2.heap.size := HKB2.out.lt
              clear hb2
              go_wp2_with fail
              refine (count_any ⟨num, gs, o'⟩ (.slice A gs.length cc) w2 H5.out).mono ?_
              rintro e w3 ⟨rfl, hb3⟩
              have HKB3 := Lib.hid (HKB2.out.below hb3 hbl2)
              have HCH3 := Lib.hid (HCH2.out.below hb3)
              have hbl3 : b < w3.heap.size := HKB3.out.lt
              clear hb3 e0 e1 e2 e3 e4 e5 HKB2 HCH2
              unfold cntCells
              go_wp2_with fail
              change Code.wp _ _ _ _ (boxed5 w3 o'.list)
              have hb5 := boxed5_below w3 o'.list
              have hk5 := boxed5_blk w3 o'.list
              have r1 : (boxed5 w3 o'.list).cell? ⟨w3.heap.size, m.toNat, none⟩ = some (.int .i64 (cnt o'.list m)) := by rw [hk5.cell]; exact cntCells_get _ m m0 m5
              have r2 : (boxed5 w3 o'.list).cell? ⟨w3.heap.size, f.toNat, none⟩ = some (.int .i64 (cnt o'.list f)) := by rw [hk5.cell]; exact cntCells_get _ f f0 f5
              have HKB4 := Lib.hid (HKB3.out.below hb5 hbl3)
              have HCH4 := Lib.hid (HCH3.out.below hb5)
              have c1 := cnt_le o'.list m
              have c2 := cnt_le o'.list f
              have hl4 : o'.list.length = 4 := rfl
              rw [hl4] at c1 c2
              clear hb5 hk5 HKB3 HCH3 hl4
              generalize boxed5 w3 o'.list = W at *
              obtain ⟨c1a, c1b⟩ := c1
              obtain ⟨c2a, c2b⟩ := c2
              cases ht : decide (cnt o'.list m - cnt o'.list f < 2) with
              | true =>
                have hof : Hid (o' = of) := by
                  have := HEV.out
                  rw [if_pos (of_decide_eq_true ht)] at this
                  exact Option.some.inj this
                go_quiet (fail)
                go_wp2_with fail
                refine bodyPost_ret (v := .tuple #[]) (by simp [results, Tryz.results57, go_sem]) rfl ?_
                rw [← hof.out]
                exact ⟨rfl, HKB4.out, HCH4.out.drewN _⟩
              | false =>
                have hn2 := of_decide_eq_false ht
                have hev2 : Hid (evenK gs (o'.put (idxS m o'.list).toNat f) n = some of) := by
                  have := HEV.out
                  rwa [if_neg hn2] at this
                obtain ⟨i0, i4⟩ := idxS_mem m o'.list (cnt_mem m o'.list (by omega))
                have i4' : idxS m o'.list < 4 := i4
                have hRdO : Hid (Rd (W.drewN 0) (b + 1) 1 (.slice (some ⟨b, 2, none⟩) 4 4) o'.list.length (ints o'.list)) := by
                  refine ⟨rfl, _, _, rfl, Nat.le_refl 4, .inr ⟨b, 2, rfl, by omega, fun j u hu => ?_⟩⟩
                  have hj : j < 4 := by
                    rcases Nat.lt_or_ge j 4 with h | h
                    · exact h
                    · rw [List.getElem?_eq_none (by simpa [ints, Own.list] using h)] at hu; cases hu
                  have := blk_own HKB4.out j hj
                  rw [← hu]
                  show W.cell? ⟨b, 2 + j, none⟩ = _
                  rw [this]
                  have e : j = 0 ∨ j = 1 ∨ j = 2 ∨ j = 3 := by omega
                  rcases e with rfl | rfl | rfl | rfl <;> rfl
                have HIX := Lib.hid (fun q => index_any (.slice (some ⟨b, 2, none⟩) 4 4) o'.list m (W.drewN q) (b + 1) hRdO.out (show (4 : Nat) ≤ 9223372036854775807 by omega))
                have hset := Lib.hid (fun q => blk_put (w := W.drewN q) HKB4.out (idxS m o'.list).toNat (by omega) f)
                have hck := Lib.hid (fun (_ : Nat) => blk_own HKB4.out (idxS m o'.list).toNat (by omega))
                have hfin : Hid (∀ q, evenK gs (o'.put (idxS m o'.list).toNat f) n = some of ∧ Blk ((W.drewN q).setCell ⟨b, 2 + (idxS m o'.list).toNat, none⟩ (.int .i64 f)) b 46 (cfgCells num (.slice A gs.length cc) (o'.put (idxS m o'.list).toNat f)) ∧ Five (o'.put (idxS m o'.list).toNat f) ∧ Chg (fun i => i = b) w ((W.drewN q).setCell ⟨b, 2 + (idxS m o'.list).toNat, none⟩ (.int .i64 f))) := fun q =>
                  ⟨hev2.out, hset.out q, five_put H5.out _ _ f0 f5, (HCH4.out.drewN q).setCell (fun _ => rfl) _⟩
                have hfr := Lib.hid (fun (_ : Nat) => HKB4.out.frozen (2 + (idxS m o'.list).toNat))
                clear hset hn2 i4
                generalize idxS m o'.list = ix at *
                generalize o'.get ix.toNat = old at *
                go_quiet (fail)
                go_wp2_with fail
                have ck := hck.out 0
                have fk := hfr.out 0
                go_region_with ((go_at_call 77; refine (HIX.out _).mono ?_; rintro e w4 ⟨rfl, rfl⟩))
                have hfin2 := Lib.hid (hfin.out (nq + 1))
                clear ck fk hck hfr hfin HIX hRdO HKB4 HCH4 r1 r2 HEV hev2
                go_wp2_with fail
                go_roundg n
                case measure => omega
                case rel => exact ⟨_, hfin2⟩

end Go.Proofs.YtijacbnoemjgcaaGreatDoor
