/- The reference: shards are given. -/
import Derived.Test.YtijacbnoemjgcaaGreatDoorPb14
import Derived.Test.YtijacbnoemjgcaaGreatDoorPb10
set_option linter.unusedVariables false
set_option linter.unusedSimpArgs false
set_option linter.unnecessarySimpa false
namespace Go.Proofs.YtijacbnoemjgcaaGreatDoor
open Go.RowKit Go.Shelf

def revenK (gs : List Int) (o : Own) : Nat → Own
  | 0 => o
  | n + 1 => if cnt o.list (endsG gs o).1 - cnt o.list (endsG gs o).2 < 2 then o else revenK gs (o.put (idxS (endsG gs o).1 o.list).toNat (endsG gs o).2) n
theorem reven_even (gs : List Int) (n : Nat) : ∀ (o of : Own), evenK gs o (n + 1) = some of → revenK gs o n = of := by
  induction n with
  | zero =>
    intro o of h
    rw [evenK] at h
    split at h
    · exact Option.some.inj h
    · simp [evenK] at h
  | succ n ih =>
    intro o of h
    rw [evenK] at h
    rw [revenK]
    split at h
    · rename_i ht
      rw [if_pos ht]; exact Option.some.inj h
    · rename_i ht
      rw [if_neg ht]; exact ih _ _ h
theorem idxS_first (x : Int) (l : List Int) (p : Nat) (h : idxS x l = p) (j : Nat) (hj : j < p) (hl : j < l.length) : l[j] ≠ x := by
  obtain ⟨hp, _, ht⟩ := offS_idx x l p h
  intro e
  have hm : l[j] ∈ offS x (l.take p) := by rw [ht, List.mem_take_iff_getElem]; exact ⟨j, by omega, rfl⟩
  unfold offS at hm
  rw [List.mem_filter] at hm
  simp [e] at hm
theorem own_get_list (o : Own) (k : Nat) (hk : k < 4) : o.list[k]? = some (o.get k) := by
  have h : k = 0 ∨ k = 1 ∨ k = 2 ∨ k = 3 := by omega
  rcases h with rfl | rfl | rfl | rfl <;> rfl

section
variable {w W : World} {b : Nat} {num : Int} {s : Value} {o : Own}
theorem rblk_own (h : Blk w b 92 (cfgCells num s o)) (k : Nat) (hk : k < 4) : w.cell? ⟨b, 2 + k, none⟩ = some (.int .i64 (o.get k)) := by
  rw [h.cell]; exact cfgCells_get num s o k hk
theorem rblk_put (h : Blk w b 92 (cfgCells num s o)) (k : Nat) (hk : k < 4) (v : Int) : Blk (w.setCell ⟨b, 2 + k, none⟩ (.int .i64 v)) b 92 (cfgCells num s (o.put k v)) := by
  rw [← cfgCells_set num s o k hk v]; exact h.set_ _ _
end

/-- What holds of the memory while the reference gives: b is the configuration, b + 1 the result's place. -/
def RG (w : World) (num : Int) (gs : List Int) (s : Value) (o : Own) (wr : World) : Prop :=
  Blk wr w.heap.size 92 (cfgCells num s o) ∧ Blk wr (w.heap.size + 1) 92 (cfgCells 0 (.slice none 0 0) ⟨0, 0, 0, 0⟩) ∧ Five o ∧ Below w.heap.size w wr

set_option maxHeartbeats 2000000 in
set_option maxRecDepth 100000 in
theorem rgive_any (num : Int) (gs : List Int) (o of : Own) (s : Value) (w : World) (B : Nat) (hB : B ≤ w.heap.size) (hr : Rd w B 1 s gs.length (ints gs)) (hm : gs.length ≤ 1000)
    (ho : Five o) (hg : ∀ g ∈ gs, 0 ≤ g ∧ g < 5) (h0 : 0 < gs.length) (hres : giveS gs o = some of) :
    Calls Tryz.prog 47 #[.agg #[.int .i64 num, s, .int .i64 o.a, .int .i64 o.b, .int .i64 o.c, .int .i64 o.d]] w fun e w' => e = .returned (.agg (cfgCells num s of)) ∧ Below w.heap.size w w' := by
  have HO := Lib.hid ho
  have HG := Lib.hid hg
  have HR := Lib.hid hr
  have HRES : Hid (revenK gs (fillK gs (cleanK gs o 4) 4) 4 = of) := reven_even gs 4 _ _ hres
  obtain ⟨_, A, cc, rfl, _, _⟩ := hr
  clear ho hg hres
  go_enter Tryz.func47, Tryz.ntmps47
  go_wp2
  go_loopw [3] (fun i wr => ∃ k : Nat, k ≤ 4 ∧ i = .int .i64 k ∧ Hid (RG w num gs (.slice A gs.length cc) (cleanK gs o k) wr)) (fun i _ => 4 - (intOf i).toNat)
  case atStart => exact ⟨0, by omega, rfl, (Blk.new w _ _).alloc _, (Blk.new (w.alloc _) _ _).cast_ (by simp), HO.out, ((Below.refl _ _).alloc (Nat.le_refl _) _).alloc (by simp) _⟩
  case round =>
    obtain ⟨k, hk, rfl, hI⟩ := hrel
    obtain ⟨hkb, hz, h5, hch⟩ := hI.out
    by_cases hlt : k < 4
    · have hstep : Hid (cleanK gs o (k + 1) = stepA gs (cleanK gs o k) k) := rfl
      generalize hok : cleanK gs o k = ok at *
      clear hok
      have c1 : wr.cell? ⟨w.heap.size, 1, none⟩ = some (.slice A gs.length cc) := hkb.cell 1
      have ck := rblk_own hkb k hlt
      have fk := hkb.frozen (2 + k)
      have HRw : Hid (Rd wr B 1 (.slice A gs.length cc) gs.length (ints gs)) := HR.out.below (hch.mono hB)
      have HB := Lib.hid hI.out
      have hk1 : (0 : Int) ≤ (k : Int) := by omega
      have hk2 : (k : Int) < 4 := by omega
      clear hkb hz h5 hch hI
      cases hq : inS (ok.get k) gs with
      | true =>
        have hst : Hid (stepA gs ok k = ok) := by unfold Hid stepA; rw [if_pos hq]
        go_wp2_with fail
        go_region_held3 (fun w' => w'.cell? ⟨w.heap.size, 1, none⟩ = some (.slice A gs.length cc) ∧ w'.cell? ⟨w.heap.size, 2 + k, none⟩ = some (.int .i64 (ok.get k)))
          (first | exact ⟨c1, ck⟩)
          ((go_at_call 46; refine (rin_any _ gs _ wr.drew B HRw.out (by omega)).mono ?_; rintro e w' ⟨rfl, rfl⟩; rw [hq]))
        go_wp2_with fail
        go_roundw
        case rel => exact ⟨k + 1, by omega, by go_num, by unfold Hid; rw [hstep.out, hst.out]; exact ⟨HB.out.1, HB.out.2.1, HB.out.2.2.1, HB.out.2.2.2.drew⟩⟩
        case measure => simp [intOf]; omega
      | false =>
        have hst : Hid (stepA gs ok k = ok.put k 0) := by unfold Hid stepA; rw [if_neg (by rw [hq]; simp)]
        go_wp2_with fail
        go_region_held3 (fun w' => w'.cell? ⟨w.heap.size, 1, none⟩ = some (.slice A gs.length cc) ∧ w'.cell? ⟨w.heap.size, 2 + k, none⟩ = some (.int .i64 (ok.get k)))
          (first | exact ⟨c1, ck⟩)
          ((go_at_call 46; refine (rin_any _ gs _ wr.drew B HRw.out (by omega)).mono ?_; rintro e w' ⟨rfl, rfl⟩; rw [hq]))
        go_wp2_with fail
        go_roundw
        case rel => exact ⟨k + 1, by omega, by go_num, by unfold Hid; rw [hstep.out, hst.out]; exact ⟨rblk_put (w := wr.drew) HB.out.1 k hlt 0, Blk.far (w := wr.drew) HB.out.2.1 (by simp) _, five_put HB.out.2.2.1 k 0 (by omega) (by omega), ((Chg.of_below HB.out.2.2.2).drew.setCell (F := fun i => i = w.heap.size) (fun _ => rfl) _).to_below (by intro i hi; omega) (Nat.le_refl _)⟩⟩
        case measure => simp [intOf]; omega
    · obtain rfl : k = 4 := by omega
      clear hkb hz h5 hch hlt
      generalize cleanK gs o 4 = o1 at *
      go_wp2_with fail
      go_loopw [4] (fun i wr => ∃ k : Nat, k ≤ 4 ∧ i = .int .i64 k ∧ Hid (RG w num gs (.slice A gs.length cc) (fillK gs o1 k) wr)) (fun i _ => 4 - (intOf i).toNat)
      case atStart => exact ⟨0, by omega, rfl, hI.out⟩
      case round =>
        obtain ⟨k, hk, rfl, hI⟩ := hrel
        obtain ⟨hkb, hz, h5, hch⟩ := hI.out
        by_cases hlt : k < 4
        · have hstep : Hid (fillK gs o1 (k + 1) = stepB gs (fillK gs o1 k) k) := rfl
          generalize hok : fillK gs o1 k = ok at *
          clear hok
          have ck := rblk_own hkb k hlt
          have fk := hkb.frozen (2 + k)
          have HB := Lib.hid hI.out
          have hk1 : (0 : Int) ≤ (k : Int) := by omega
          have hk2 : (k : Int) < 4 := by omega
          cases hq : (ok.get k == 0) with
          | false =>
            have hst : Hid (stepB gs ok k = ok) := by unfold Hid stepB; rw [if_neg (by simpa using hq)]
            clear hkb hz h5 hch hI
            go_wp2_with fail
            go_roundw
            case rel => exact ⟨k + 1, by omega, by go_num, by unfold Hid; rw [hstep.out, hst.out]; exact HB.out⟩
            case measure => simp [intOf]; omega
          | true =>
            have hst : Hid (stepB gs ok k = ok.put k (endsG gs ok).2) := by unfold Hid stepB; rw [if_pos (by simpa using hq)]
            have hmem := endsG_mem gs ok (fun x => 0 ≤ x ∧ x < 5) h0 HG.out
            have hfew : Hid (Calls Tryz.prog 60 #[.agg #[.int .i64 num, .slice A gs.length cc, .int .i64 ok.a, .int .i64 ok.b, .int .i64 ok.c, .int .i64 ok.d]] wr fun e w' => e = .returned (.int .i64 (endsG gs ok).2) ∧ Below wr.heap.size wr w') :=
              few_any ⟨num, gs, ok⟩ (.slice A gs.length cc) wr B (by have := hch.size; omega) (HR.out.below (hch.mono hB)) (show gs.length ≤ 9223372036854775807 by omega) h0
            obtain ⟨e0, e1, e2, e3, e4, e5⟩ := keep6 hkb (Below.refl _ _)
            have hbl := hkb.lt
            clear hkb hz h5 hch hI
            generalize endsG gs ok = mf at *
            go_wp2_with fail
            refine hfew.out.mono ?_
            rintro e w2 ⟨rfl, hb2⟩
            have ck2 := (hb2.cell (p := ⟨w.heap.size, 2 + k, none⟩) hbl).trans ck
            have fk2 := (hb2.frozen (p := ⟨w.heap.size, 2 + k, none⟩) hbl).trans fk
            have hfin : Hid (RG w num gs (.slice A gs.length cc) (fillK gs o1 (k + 1)) (w2.setCell ⟨w.heap.size, 2 + k, none⟩ (.int .i64 mf.2))) := by
              unfold Hid; rw [hstep.out, hst.out]
              exact ⟨rblk_put (HB.out.1.below hb2 hbl) k hlt _, (HB.out.2.1.below hb2 HB.out.2.1.lt).far (by simp) _, five_put HB.out.2.2.1 k _ hmem.2.1 hmem.2.2, (((Chg.of_below HB.out.2.2.2).below hb2).setCell (F := fun i => i = w.heap.size) (fun _ => rfl) _).to_below (by intro i hi; omega) (Nat.le_refl _)⟩
            clear hb2 e0 e1 e2 e3 e4 e5 hfew HB hst hstep ck fk
            go_wp2_with fail
            refine ⟨⟨_, _, _, _, _, _, _, _, _, _, _, _, _, _, _, ⟨k + 1, by omega, by go_num, hfin⟩, rfl⟩, ?_⟩
            simp [intOf]; omega
        · obtain rfl : k = 4 := by omega
          clear hkb hz h5 hch hlt
          generalize fillK gs o1 4 = o2 at *
          go_wp2_with fail
          go_loopw [5] (fun i wr => ∃ (k : Nat) (o' : Own), k ≤ 4 ∧ i = .int .i64 k ∧ Hid (RG w num gs (.slice A gs.length cc) o' wr ∧ revenK gs o' (4 - k) = of)) (fun i _ => 4 - (intOf i).toNat)
          case atStart => exact ⟨0, o2, by omega, rfl, hI.out, HRES.out⟩
          case round =>
            obtain ⟨k, o', hk, rfl, hJ⟩ := hrel
            obtain ⟨⟨hkb, hz, h5, hch⟩, hev⟩ := hJ.out
            obtain ⟨wo, rfl⟩ : ∃ wo : World, wo = wr := ⟨_, rfl⟩
            by_cases hlt : k < 4
            · obtain ⟨n, hn⟩ : ∃ n, 4 - k = n + 1 := ⟨3 - k, by omega⟩
              rw [hn, revenK] at hev
              have HEV := Lib.hid hev
              have HJ := Lib.hid (And.intro hkb (And.intro hz (And.intro h5 hch)))
              have hmem := endsG_mem gs o' (fun x => 0 ≤ x ∧ x < 5) h0 HG.out
              have hmany : Hid (Calls Tryz.prog 61 #[.agg #[.int .i64 num, .slice A gs.length cc, .int .i64 o'.a, .int .i64 o'.b, .int .i64 o'.c, .int .i64 o'.d]] wo fun e w' => e = .returned (.int .i64 (endsG gs o').1) ∧ Below wo.heap.size wo w') :=
                many_any ⟨num, gs, o'⟩ (.slice A gs.length cc) wo B (by have := hch.size; omega) (HR.out.below (hch.mono hB)) (show gs.length ≤ 9223372036854775807 by omega) h0
              have hfew : Hid (∀ W, Below wo.heap.size wo W → Calls Tryz.prog 60 #[.agg #[.int .i64 num, .slice A gs.length cc, .int .i64 o'.a, .int .i64 o'.b, .int .i64 o'.c, .int .i64 o'.d]] W fun e w' => e = .returned (.int .i64 (endsG gs o').2) ∧ Below W.heap.size W w') := fun W hW =>
                few_any ⟨num, gs, o'⟩ (.slice A gs.length cc) W B (by have := hch.size; have := hW.size; omega) (HR.out.below ((hch.trans (hW.mono hch.size)).mono hB)) (show gs.length ≤ 9223372036854775807 by omega) h0
              obtain ⟨e0, e1, e2, e3, e4, e5⟩ := keep6 hkb (Below.refl _ _)
              clear hkb hz h5 hch hJ hev HRES
              generalize endsG gs o' = mf at *
              obtain ⟨m, f⟩ := mf
              simp only at HEV hmem hmany hfew
              go_wp2_with fail
              refine hmany.out.mono ?_
              rintro e w2 ⟨rfl, hb2⟩
              obtain ⟨q0, q1, q2, q3, q4, q5⟩ := keep6 HJ.out.1 hb2
              have HB2 := Lib.hid hb2
              clear e0 e1 e2 e3 e4 e5 hmany hb2
              go_wp2_with fail
              refine (hfew.out _ HB2.out).mono ?_
              rintro e w3 ⟨rfl, hb3⟩
              have HB3 := Lib.hid (HB2.out.trans (hb3.mono HB2.out.size))
              have HK3 := Lib.hid (HJ.out.1.below HB3.out HJ.out.1.lt)
              have HZ3 := Lib.hid (HJ.out.2.1.below HB3.out HJ.out.2.1.lt)
              have HW3 := Lib.hid (HJ.out.2.2.2.trans (HB3.out.mono HJ.out.2.2.2.size))
              clear q0 q1 q2 q3 q4 q5 hb3 hfew HB2
              obtain ⟨c1a, c1b⟩ := cnt_le o'.list m
              obtain ⟨c2a, c2b⟩ := cnt_le o'.list f
              have hl4 : o'.list.length = 4 := rfl
              rw [hl4] at c1b c2b
              clear hl4
              have hwrp : IntKind.i64.wrap (cnt o'.list m - cnt o'.list f) = cnt o'.list m - cnt o'.list f := by rw [IntKind.wrap_i64]; omega
              have hload : Hid (∀ g W, Calls Tryz.prog 62 #[.agg #[.int .i64 num, .slice A gs.length cc, .int .i64 o'.a, .int .i64 o'.b, .int .i64 o'.c, .int .i64 o'.d], .int .i64 g] W fun e w' => e = .returned (.int .i64 (cnt o'.list g)) ∧ Below W.heap.size W w') := fun g W => load_any ⟨num, gs, o'⟩ _ g W
              cases ht : decide (cnt o'.list m - cnt o'.list f < 2) with
              | true =>
                have hof : Hid (o' = of) := by
                  have := HEV.out
                  rwa [if_pos (of_decide_eq_true ht)] at this
                clear HEV
                go_wp2_with fail
                go_region_held3 (fun w' => w'.cell? ⟨w.heap.size, 0, none⟩ = some (.int .i64 num) ∧ w'.cell? ⟨w.heap.size, 1, none⟩ = some (.slice A gs.length cc) ∧ w'.cell? ⟨w.heap.size, 2, none⟩ = some (.int .i64 o'.a) ∧ w'.cell? ⟨w.heap.size, 3, none⟩ = some (.int .i64 o'.b) ∧ w'.cell? ⟨w.heap.size, 4, none⟩ = some (.int .i64 o'.c) ∧ w'.cell? ⟨w.heap.size, 5, none⟩ = some (.int .i64 o'.d))
                  (first | (exact keep6 HK3.out (Below.refl _ _).drew) | (exact keep6 HK3.out (by assumption)))
                  ((go_at_call 62; refine (hload.out _ _).mono ?_; rintro e wq ⟨rfl, hbq⟩; have hbq' : Below w3.heap.size w3 wq := Below.trans (by first | exact (Below.refl _ _).drew | assumption) (hbq.mono (by first | exact Nat.le_refl _ | (exact Below.size (by assumption))))))
                have HB4 := Lib.hid (HB3.out.trans (hbq'.mono HB3.out.size))
                have HZ4 := Lib.hid (HJ.out.2.1.below HB4.out HJ.out.2.1.lt)
                have HW4 := Lib.hid (HJ.out.2.2.2.trans (HB4.out.mono HJ.out.2.2.2.size))
                have z0 : wq.cell? ⟨w.heap.size + 1, 0, none⟩ = some (.int .i64 0) := HZ4.out.cell 0
                have f0 := HZ4.out.frozen 0
                have z1 : wq.cell? ⟨w.heap.size + 1, 1, none⟩ = some (.slice none 0 0) := HZ4.out.cell 1
                have f1 := HZ4.out.frozen 1
                have z2 : wq.cell? ⟨w.heap.size + 1, 2, none⟩ = some (.int .i64 0) := HZ4.out.cell 2
                have f2 := HZ4.out.frozen 2
                have z3 : wq.cell? ⟨w.heap.size + 1, 3, none⟩ = some (.int .i64 0) := HZ4.out.cell 3
                have f3 := HZ4.out.frozen 3
                have z4 : wq.cell? ⟨w.heap.size + 1, 4, none⟩ = some (.int .i64 0) := HZ4.out.cell 4
                have f4 := HZ4.out.frozen 4
                have z5 : wq.cell? ⟨w.heap.size + 1, 5, none⟩ = some (.int .i64 0) := HZ4.out.cell 5
                have f5 := HZ4.out.frozen 5
                go_wp2_with fail
                refine bodyPost_ret (v := .agg (cfgCells num (.slice A gs.length cc) o')) (by simp [results, Tryz.results47, go_sem, z0, z1, z2, z3, z4, z5, cfgCells]) rfl ?_
                rw [hof.out]
                exact ⟨rfl, (((((((Chg.of_below HW4.out).setCell (F := fun i => i = w.heap.size + 1) (fun _ => rfl) _).setCell (fun _ => rfl) _).setCell (fun _ => rfl) _).setCell (fun _ => rfl) _).setCell (fun _ => rfl) _).setCell (fun _ => rfl) _).to_below (by intro i hi; omega) (Nat.le_refl _)⟩
              | false =>
                have hn2 := of_decide_eq_false ht
                obtain ⟨i0, i4⟩ := idxS_mem m o'.list (cnt_mem m o'.list (by omega))
                have i4' : idxS m o'.list < 4 := i4
                obtain ⟨p, hp⟩ : ∃ p : Nat, idxS m o'.list = p := ⟨(idxS m o'.list).toNat, by omega⟩
                have hp4 : p < 4 := by omega
                have hev2 : Hid (revenK gs (o'.put p f) n = of) := by
                  have := HEV.out
                  rw [if_neg hn2, hp] at this
                  exact this
                have hatp : Hid (o'.get p = m) := by
                  have h1 := own_get_list o' p hp4
                  rw [(offS_idx m o'.list p hp).2.1] at h1
                  exact (Option.some.inj h1).symm
                have hbef : Hid (∀ j, j < p → o'.get j ≠ m) := fun j hj => by
                  have h1 := own_get_list o' j (by omega)
                  have h2 := idxS_first m o'.list p hp j hj (by show j < 4; omega)
                  rw [List.getElem?_eq_getElem (by show j < 4; omega)] at h1
                  rw [← Option.some.inj h1]; exact h2
                clear hn2 i0 i4 i4' hp HEV
                go_wp2_with fail
                go_region_held3 (fun w' => w'.cell? ⟨w.heap.size, 0, none⟩ = some (.int .i64 num) ∧ w'.cell? ⟨w.heap.size, 1, none⟩ = some (.slice A gs.length cc) ∧ w'.cell? ⟨w.heap.size, 2, none⟩ = some (.int .i64 o'.a) ∧ w'.cell? ⟨w.heap.size, 3, none⟩ = some (.int .i64 o'.b) ∧ w'.cell? ⟨w.heap.size, 4, none⟩ = some (.int .i64 o'.c) ∧ w'.cell? ⟨w.heap.size, 5, none⟩ = some (.int .i64 o'.d))
                  (first | (exact keep6 HK3.out (Below.refl _ _).drew) | (exact keep6 HK3.out (by assumption)))
                  ((go_at_call 62; refine (hload.out _ _).mono ?_; rintro e wq ⟨rfl, hbq⟩; have hbq' : Below w3.heap.size w3 wq := Below.trans (by first | exact (Below.refl _ _).drew | assumption) (hbq.mono (by first | exact Nat.le_refl _ | (exact Below.size (by assumption))))))
                have HB4 := Lib.hid (HB3.out.trans (hbq'.mono HB3.out.size))
                have HK4 := Lib.hid (HJ.out.1.below HB4.out HJ.out.1.lt)
                have HZ4 := Lib.hid (HJ.out.2.1.below HB4.out HJ.out.2.1.lt)
                have HW4 := Lib.hid (HJ.out.2.2.2.trans (HB4.out.mono HJ.out.2.2.2.size))
                clear hload HK3 HZ3 HW3
                go_wp2_with fail
                go_loopw [8] (fun i wx => ∃ j : Nat, j ≤ p ∧ i = .int .i64 j ∧ wx = wq) (fun i _ => 4 - (intOf i).toNat)
                case atStart => exact ⟨0, by omega, rfl, rfl⟩
                case round =>
                  obtain ⟨j, hj, rfl, rfl⟩ := hrel
                  have cj := rblk_own HK4.out j (by omega)
                  have fj := HK4.out.frozen (2 + j)
                  have hj1 : (0 : Int) ≤ (j : Int) := by omega
                  have hj2 : (j : Int) < 4 := by omega
                  by_cases hjp : j = p
                  · subst hjp
                    rw [hatp.out] at cj
                    have hfin : Hid (RG w num gs (.slice A gs.length cc) (o'.put j f) (wr.setCell ⟨w.heap.size, 2 + j, none⟩ (.int .i64 f)) ∧ revenK gs (o'.put j f) (4 - (k + 1)) = of) := by
                      refine ⟨⟨rblk_put HK4.out j hp4 _, HZ4.out.far (by simp) _, five_put HJ.out.2.2.1 j _ hmem.2.1 hmem.2.2, ((Chg.of_below HW4.out).setCell (F := fun i => i = w.heap.size) (fun _ => rfl) _).to_below (by intro i hi; omega) (Nat.le_refl _)⟩, ?_⟩
                      rw [show 4 - (k + 1) = n by omega]; exact hev2.out
                    go_wp2_with fail
                    refine ⟨⟨_, _, _, _, _, _, _, _, _, _, _, _, _, _, _, _, _, _, _, _, _, _, _, _, _, _, _, _, _, _, _, _, _, _, _, ⟨k + 1, o'.put j f, by omega, by go_num, hfin⟩, rfl⟩, ?_⟩
                    simp [intOf]; omega
                  · have hne := hbef.out j (by omega)
                    have hneb : (o'.get j == m) = false := by simpa using hne
                    clear hne
                    generalize o'.get j = y at *
                    go_wp2_with fail
                    go_roundw
                    case rel => exact ⟨j + 1, by omega, by go_num, by trivial⟩
                    case measure => simp [intOf]; omega
            · obtain rfl : k = 4 := by omega
              have hof : Hid (o' = of) := hev
              obtain ⟨e0, e1, e2, e3, e4, e5⟩ := keep6 hkb (Below.refl _ _)
              have z0 : wo.cell? ⟨w.heap.size + 1, 0, none⟩ = some (.int .i64 0) := hz.cell 0
              have f0 := hz.frozen 0
              have z1 : wo.cell? ⟨w.heap.size + 1, 1, none⟩ = some (.slice none 0 0) := hz.cell 1
              have f1 := hz.frozen 1
              have z2 : wo.cell? ⟨w.heap.size + 1, 2, none⟩ = some (.int .i64 0) := hz.cell 2
              have f2 := hz.frozen 2
              have z3 : wo.cell? ⟨w.heap.size + 1, 3, none⟩ = some (.int .i64 0) := hz.cell 3
              have f3 := hz.frozen 3
              have z4 : wo.cell? ⟨w.heap.size + 1, 4, none⟩ = some (.int .i64 0) := hz.cell 4
              have f4 := hz.frozen 4
              have z5 : wo.cell? ⟨w.heap.size + 1, 5, none⟩ = some (.int .i64 0) := hz.cell 5
              have f5 := hz.frozen 5
              have HW4 := Lib.hid hch
              clear hkb hz h5 hch hev hJ hlt HRES
              go_wp2_with fail
              refine bodyPost_ret (v := .agg (cfgCells num (.slice A gs.length cc) o')) (by simp [results, Tryz.results47, go_sem, z0, z1, z2, z3, z4, z5, cfgCells]) rfl ?_
              rw [hof.out]
              exact ⟨rfl, (((((((Chg.of_below HW4.out).setCell (F := fun i => i = w.heap.size + 1) (fun _ => rfl) _).setCell (fun _ => rfl) _).setCell (fun _ => rfl) _).setCell (fun _ => rfl) _).setCell (fun _ => rfl) _).setCell (fun _ => rfl) _).to_below (by intro i hi; omega) (Nat.le_refl _)⟩

end Go.Proofs.YtijacbnoemjgcaaGreatDoor
