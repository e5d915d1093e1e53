/- The reference: Check. -/
import Derived.Test.YtijacbnoemjgcaaGreatDoorPb13
set_option linter.unusedVariables false
set_option linter.unusedSimpArgs false
set_option linter.unnecessarySimpa false
namespace Go.Proofs.YtijacbnoemjgcaaGreatDoor
open Go.RowKit Go.Shelf

set_option maxHeartbeats 1000000 in
set_option maxRecDepth 100000 in
theorem rcheck_any (c : Cfg) (s : Value) (w : World) (B : Nat) (hB : B ≤ w.heap.size) (hr : Rd w B 1 s c.gs.length (ints c.gs)) (hm : c.gs.length ≤ 9223372036854775807) :
    Calls Tryz.prog 45 #[.agg #[.int .i64 c.num, s, .int .i64 c.o.a, .int .i64 c.o.b, .int .i64 c.o.c, .int .i64 c.o.d]] w fun e w' => e = .returned (.int .i64 (errC (checkB c))) ∧ Below w.heap.size w w' := by
  cases h1 : decide (c.num < 0) with
  | true =>
    have e : checkB c = false := by simp [checkB, h1]
    have HE := Lib.hid e
    clear e
    go_enter Tryz.func45, Tryz.ntmps45
    go_wp2
    go_ret
    rw [HE.out]
    exact ⟨rfl, (Below.refl _ _).alloc (Nat.le_refl _) _⟩
  | false =>
    cases h2 : decide (1099511627776 < c.num) with
    | true =>
      have e : checkB c = false := by simp [checkB, h2]
      have HE := Lib.hid e
      clear e
      go_enter Tryz.func45, Tryz.ntmps45
      go_wp2
      go_ret
      rw [HE.out]
      exact ⟨rfl, (Below.refl _ _).alloc (Nat.le_refl _) _⟩
    | false =>
      have HE : Hid (checkB c = (ascB 0 c.gs && c.own.all (ownB c.gs))) := by simp [Hid, checkB, h1, h2]
      have HR := Lib.hid hr
      obtain ⟨_, A, cc, rfl, _, _⟩ := hr
      have HR2 : Hid (∀ o, Rd (w.alloc o) B 1 (.slice A c.gs.length cc) c.gs.length (ints c.gs)) := fun o => HR.out.below ((Below.refl B w).alloc hB o)
      have hcB : Hid (∀ o : Obj, Below w.heap.size w (w.alloc o)) := fun o => (Below.refl _ _).alloc (Nat.le_refl _) _
      generalize hgs : c.gs = gs at *
      clear hgs
      go_enter Tryz.func45, Tryz.ntmps45
      go_wp2
      have hz : (w.alloc (.cells #[.int .i64 c.num, .slice A gs.length cc, .int .i64 c.o.a, .int .i64 c.o.b, .int .i64 c.o.c, .int .i64 c.o.d] 92)).heap.size = w.heap.size + 1 := by simp
      have k0 : (w.alloc (.cells #[.int .i64 c.num, .slice A gs.length cc, .int .i64 c.o.a, .int .i64 c.o.b, .int .i64 c.o.c, .int .i64 c.o.d] 92)).cell? ⟨w.heap.size, 1, none⟩ = some (.slice A gs.length cc) := by simp
      have hrr := HR2.out (.cells #[.int .i64 c.num, .slice A gs.length cc, .int .i64 c.o.a, .int .i64 c.o.b, .int .i64 c.o.c, .int .i64 c.o.d] 92)
      have hbb := Lib.hid (hcB.out (.cells #[.int .i64 c.num, .slice A gs.length cc, .int .i64 c.o.a, .int .i64 c.o.b, .int .i64 c.o.c, .int .i64 c.o.d] 92))
      have k2 : (w.alloc (.cells #[.int .i64 c.num, .slice A gs.length cc, .int .i64 c.o.a, .int .i64 c.o.b, .int .i64 c.o.c, .int .i64 c.o.d] 92)).cell? ⟨w.heap.size, 2, none⟩ = some (.int .i64 c.o.a) := by simp
      have k3 : (w.alloc (.cells #[.int .i64 c.num, .slice A gs.length cc, .int .i64 c.o.a, .int .i64 c.o.b, .int .i64 c.o.c, .int .i64 c.o.d] 92)).cell? ⟨w.heap.size, 3, none⟩ = some (.int .i64 c.o.b) := by simp
      have k4 : (w.alloc (.cells #[.int .i64 c.num, .slice A gs.length cc, .int .i64 c.o.a, .int .i64 c.o.b, .int .i64 c.o.c, .int .i64 c.o.d] 92)).cell? ⟨w.heap.size, 4, none⟩ = some (.int .i64 c.o.c) := by simp
      have k5 : (w.alloc (.cells #[.int .i64 c.num, .slice A gs.length cc, .int .i64 c.o.a, .int .i64 c.o.b, .int .i64 c.o.c, .int .i64 c.o.d] 92)).cell? ⟨w.heap.size, 5, none⟩ = some (.int .i64 c.o.d) := by simp
      have HRR := Lib.hid hrr
      clear HR2 hcB hrr HR
      generalize w.alloc (.cells #[.int .i64 c.num, .slice A gs.length cc, .int .i64 c.o.a, .int .i64 c.o.b, .int .i64 c.o.c, .int .i64 c.o.d] 92) = W at *
      go_loopw [18] (fun i wr => ∃ (k : Nat), k ≤ gs.length ∧ i = .int .i64 k ∧ wr = W ∧ Hid (ascB 0 gs = ascB (if k = 0 then 0 else gs.getD (k - 1) 0) (gs.drop k))) (fun i _ => gs.length - (intOf i).toNat)
      case atStart => exact ⟨0, Nat.zero_le _, rfl, rfl, rfl⟩
      case round =>
        obtain ⟨k, hk, rfl, rfl, hasc⟩ := hrel
        by_cases hlt : k < gs.length
        · obtain ⟨g, off, c', hV, hg, hc⟩ := rd_get1 HRR.out hlt
          injection hV with hA _ hcc
          subst hA
          clear hcc
          have hd := ascB_drop (if k = 0 then 0 else gs.getD (k - 1) 0) gs k hlt
          have hasc2 := Lib.hid (hasc.out.trans hd)
          have hnx : Hid (gs.getD k 0 = gs[k]) := by unfold Hid; simp [List.getD, hlt]
          clear hd hasc
          cases h3 : decide (gs[k] < 1) with
          | true =>
            have e : Hid (checkB c = false) := by rw [Hid, HE.out, hasc2.out]; simp at h3; simp [groupB, show ¬ 1 ≤ gs[k] by omega]
            go_wp2_with fail
            go_ret
            rw [e.out]
            exact ⟨rfl, hbb.out⟩
          | false =>
            cases h4 : decide (4 < gs[k]) with
            | true =>
              have e : Hid (checkB c = false) := by rw [Hid, HE.out, hasc2.out]; simp at h4; simp [groupB, show ¬ gs[k] ≤ 4 by omega]
              go_wp2_with fail
              go_ret
              rw [e.out]
              exact ⟨rfl, hbb.out⟩
            | false =>
              have hgb : Hid (groupB gs[k] = true) := by simp at h3 h4; unfold Hid; simp [groupB]; omega
              by_cases hk0 : k = 0
              · subst hk0
                rw [Nat.add_zero] at hc
                have hx : ¬ gs[0] ≤ 0 := by simp at h3; omega
                have e : Hid (ascB 0 gs = ascB (if 0 + 1 = 0 then 0 else gs.getD (0 + 1 - 1) 0) (gs.drop (0 + 1))) := by
                  have h7 := hasc2.out
                  rw [if_pos rfl, decide_eq_false hx, hgb.out] at h7
                  unfold Hid
                  rw [h7, if_neg (by omega), show gs.getD (0 + 1 - 1) 0 = gs[0] from hnx.out]; rfl
                clear hx
                go_wp2_with fail
                go_roundw
                case rel => exact ⟨1, by omega, by go_num, by trivial, e⟩
                case measure => simp [intOf]; omega
              · obtain ⟨j, rfl⟩ : ∃ j, k = j + 1 := ⟨k - 1, by omega⟩
                have hj : j < gs.length := by omega
                obtain ⟨g2, off2, c2, hV, hg2, hcj⟩ := rd_get1 HRR.out hj
                injection hV with hA _ hcc
                injection hA with hA
                injection hA with hA1 hA2
                subst hA1 hA2
                clear hcc
                have hpr : Hid (gs.getD j 0 = gs[j]) := by unfold Hid; simp [List.getD, hj]
                have hasc3 : Hid (ascB 0 gs = (!(decide (gs[j + 1] ≤ gs[j])) && groupB gs[j + 1] && ascB gs[j + 1] (gs.drop (j + 1 + 1)))) := by
                  have := hasc2.out
                  rwa [if_neg hk0, show j + 1 - 1 = j from rfl, hpr.out] at this
                have ej : ((j + 1 : Nat) : Int) = (j : Int) + 1 := by omega
                have hj6 : IntKind.i64.wrap ((j : Int) + 1 - 1) = (j : Int) := by rw [IntKind.wrap_i64]; omega
                have hj7 : IntKind.i64.wrap (j : Int) = (j : Int) := by rw [IntKind.wrap_i64]; omega
                have hj8 : ((j : Int) + 1).toNat = j + 1 := by omega
                have hj1 : (j : Int) + 1 < (gs.length : Int) := by omega
                have hj2 : (j : Int) < (gs.length : Int) := by omega
                have hj3 : (0 : Int) < (j : Int) + 1 := by omega
                have hj4 : (0 : Int) ≤ (j : Int) + 1 := by omega
                rw [ej]
                clear hasc2 hk0 hpr
                cases h5 : decide (gs[j + 1] ≤ gs[j]) with
                | true =>
                  have e : Hid (checkB c = false) := by rw [Hid, HE.out, hasc3.out, h5]; rfl
                  go_wp2_with fail
                  go_ret
                  rw [e.out]
                  exact ⟨rfl, hbb.out⟩
                | false =>
                  have e : Hid (ascB 0 gs = ascB (if j + 1 + 1 = 0 then 0 else gs.getD (j + 1 + 1 - 1) 0) (gs.drop (j + 1 + 1))) := by
                    unfold Hid
                    rw [hasc3.out, h5, hgb.out, if_neg (by omega), show gs.getD (j + 1 + 1 - 1) 0 = gs[j + 1] from hnx.out]; rfl
                  go_wp2_with fail
                  go_roundw
                  case rel => exact ⟨j + 2, by omega, by go_num, by trivial, e⟩
                  case measure => simp [intOf]; omega
        · have e : Hid (checkB c = c.own.all (ownB gs)) := by
            rw [Hid, HE.out, hasc.out, List.drop_of_length_le (by omega)]; rfl
          clear HE hasc
          go_wp2_with fail
          go_loopw [46] (fun i wx => ∃ k : Nat, k ≤ 4 ∧ i = .int .i64 k ∧ wx = wr ∧ Hid (checkB c = (c.own.drop k).all (ownB gs))) (fun i _ => 4 - (intOf i).toNat)
          case atStart => exact ⟨0, by omega, rfl, rfl, e⟩
          case round =>
            obtain ⟨k, hk, rfl, rfl, hc⟩ := hrel
            clear hlt e
            have hm2 : (gs.length : Int) ≤ 9223372036854775807 := by omega
            have key : ∀ o : Int, Hid (checkB c = (ownB gs o && (c.own.drop (k + 1)).all (ownB gs))) → True := fun _ _ => trivial
            clear key
            by_cases hlt : k < 4
            · have hcase : k = 0 ∨ k = 1 ∨ k = 2 ∨ k = 3 := by omega
              by_cases h0 : gs.length = 0
              · have h0b : ((gs.length : Int) == 0) = true := by simp [h0]
                have hob : ∀ o, ownB gs o = (o == 0) := fun o => by rw [ownB, if_pos h0]
                have HOB := Lib.hid hob
                have h0d : (0 < gs.length) = False := by simp [h0]
                have hin0 : Hid (∀ o, inS o gs = false) := fun o => by rw [List.eq_nil_of_length_eq_zero h0]; rfl
                clear hob h0
                rcases hcase with rfl | rfl | rfl | rfl
                · cases hq : (c.o.a == 0) with
                  | true =>
                    have e : Hid (checkB c = (c.own.drop 1).all (ownB gs)) := by rw [Hid, hc.out]; simp [Cfg.own, Own.list, HOB.out, hq]
                    have hq2 : (c.o.a != 0) = false := by simpa using hq
                    go_wp2_with fail
                    go_roundw
                    case rel => exact ⟨1, by omega, by go_num, by trivial, e⟩
                    case measure => simp [intOf]
                  | false =>
                    have e : Hid (checkB c = false) := by rw [Hid, hc.out]; simp [Cfg.own, Own.list, HOB.out, hq]
                    have hq2 : (c.o.a != 0) = true := by simpa using hq
                    have hq3 := hin0.out c.o.a
                    go_wp2_with (go_at_call 46; refine (rin_any _ gs _ _ _ HRR.out hm).mono ?_; rintro e w' ⟨rfl, rfl⟩; rw [hq3])
                    go_ret
                    rw [e.out]
                    exact ⟨rfl, hbb.out⟩
                · cases hq : (c.o.b == 0) with
                  | true =>
                    have e : Hid (checkB c = (c.own.drop 2).all (ownB gs)) := by rw [Hid, hc.out]; simp [Cfg.own, Own.list, HOB.out, hq]
                    have hq2 : (c.o.b != 0) = false := by simpa using hq
                    go_wp2_with fail
                    go_roundw
                    case rel => exact ⟨2, by omega, by go_num, by trivial, e⟩
                    case measure => simp [intOf]
                  | false =>
                    have e : Hid (checkB c = false) := by rw [Hid, hc.out]; simp [Cfg.own, Own.list, HOB.out, hq]
                    have hq2 : (c.o.b != 0) = true := by simpa using hq
                    have hq3 := hin0.out c.o.b
                    go_wp2_with (go_at_call 46; refine (rin_any _ gs _ _ _ HRR.out hm).mono ?_; rintro e w' ⟨rfl, rfl⟩; rw [hq3])
                    go_ret
                    rw [e.out]
                    exact ⟨rfl, hbb.out⟩
                · cases hq : (c.o.c == 0) with
                  | true =>
                    have e : Hid (checkB c = (c.own.drop 3).all (ownB gs)) := by rw [Hid, hc.out]; simp [Cfg.own, Own.list, HOB.out, hq]
                    have hq2 : (c.o.c != 0) = false := by simpa using hq
                    go_wp2_with fail
                    go_roundw
                    case rel => exact ⟨3, by omega, by go_num, by trivial, e⟩
                    case measure => simp [intOf]
                  | false =>
                    have e : Hid (checkB c = false) := by rw [Hid, hc.out]; simp [Cfg.own, Own.list, HOB.out, hq]
                    have hq2 : (c.o.c != 0) = true := by simpa using hq
                    have hq3 := hin0.out c.o.c
                    go_wp2_with (go_at_call 46; refine (rin_any _ gs _ _ _ HRR.out hm).mono ?_; rintro e w' ⟨rfl, rfl⟩; rw [hq3])
                    go_ret
                    rw [e.out]
                    exact ⟨rfl, hbb.out⟩
                · cases hq : (c.o.d == 0) with
                  | true =>
                    have e : Hid (checkB c = (c.own.drop 4).all (ownB gs)) := by rw [Hid, hc.out]; simp [Cfg.own, Own.list, HOB.out, hq]
                    have hq2 : (c.o.d != 0) = false := by simpa using hq
                    go_wp2_with fail
                    go_roundw
                    case rel => exact ⟨4, by omega, by go_num, by trivial, e⟩
                    case measure => simp [intOf]
                  | false =>
                    have e : Hid (checkB c = false) := by rw [Hid, hc.out]; simp [Cfg.own, Own.list, HOB.out, hq]
                    have hq2 : (c.o.d != 0) = true := by simpa using hq
                    have hq3 := hin0.out c.o.d
                    go_wp2_with (go_at_call 46; refine (rin_any _ gs _ _ _ HRR.out hm).mono ?_; rintro e w' ⟨rfl, rfl⟩; rw [hq3])
                    go_ret
                    rw [e.out]
                    exact ⟨rfl, hbb.out⟩
              · have h0b : ((gs.length : Int) == 0) = false := by simp [h0]
                have h0d : 0 < gs.length := by omega
                have hob : ∀ o, ownB gs o = inS o gs := fun o => by rw [ownB, if_neg h0]
                have HOB := Lib.hid hob
                clear hob h0
                rcases hcase with rfl | rfl | rfl | rfl
                · cases hq : inS c.o.a gs with
                  | true =>
                    have e : Hid (checkB c = (c.own.drop 1).all (ownB gs)) := by rw [Hid, hc.out]; simp [Cfg.own, Own.list, HOB.out, hq]
                    go_wp2_with (go_at_call 46; refine (rin_any _ gs _ _ _ HRR.out hm).mono ?_; rintro e w' ⟨rfl, rfl⟩; rw [hq])
                    go_roundw
                    case rel => exact ⟨1, by omega, by go_num, by trivial, e⟩
                    case measure => simp [intOf]
                  | false =>
                    have e : Hid (checkB c = false) := by rw [Hid, hc.out]; simp [Cfg.own, Own.list, HOB.out, hq]
                    go_wp2_with (go_at_call 46; refine (rin_any _ gs _ _ _ HRR.out hm).mono ?_; rintro e w' ⟨rfl, rfl⟩; rw [hq])
                    go_ret
                    rw [e.out]
                    exact ⟨rfl, hbb.out⟩
                · cases hq : inS c.o.b gs with
                  | true =>
                    have e : Hid (checkB c = (c.own.drop 2).all (ownB gs)) := by rw [Hid, hc.out]; simp [Cfg.own, Own.list, HOB.out, hq]
                    go_wp2_with (go_at_call 46; refine (rin_any _ gs _ _ _ HRR.out hm).mono ?_; rintro e w' ⟨rfl, rfl⟩; rw [hq])
                    go_roundw
                    case rel => exact ⟨2, by omega, by go_num, by trivial, e⟩
                    case measure => simp [intOf]
                  | false =>
                    have e : Hid (checkB c = false) := by rw [Hid, hc.out]; simp [Cfg.own, Own.list, HOB.out, hq]
                    go_wp2_with (go_at_call 46; refine (rin_any _ gs _ _ _ HRR.out hm).mono ?_; rintro e w' ⟨rfl, rfl⟩; rw [hq])
                    go_ret
                    rw [e.out]
                    exact ⟨rfl, hbb.out⟩
                · cases hq : inS c.o.c gs with
                  | true =>
                    have e : Hid (checkB c = (c.own.drop 3).all (ownB gs)) := by rw [Hid, hc.out]; simp [Cfg.own, Own.list, HOB.out, hq]
                    go_wp2_with (go_at_call 46; refine (rin_any _ gs _ _ _ HRR.out hm).mono ?_; rintro e w' ⟨rfl, rfl⟩; rw [hq])
                    go_roundw
                    case rel => exact ⟨3, by omega, by go_num, by trivial, e⟩
                    case measure => simp [intOf]
                  | false =>
                    have e : Hid (checkB c = false) := by rw [Hid, hc.out]; simp [Cfg.own, Own.list, HOB.out, hq]
                    go_wp2_with (go_at_call 46; refine (rin_any _ gs _ _ _ HRR.out hm).mono ?_; rintro e w' ⟨rfl, rfl⟩; rw [hq])
                    go_ret
                    rw [e.out]
                    exact ⟨rfl, hbb.out⟩
                · cases hq : inS c.o.d gs with
                  | true =>
                    have e : Hid (checkB c = (c.own.drop 4).all (ownB gs)) := by rw [Hid, hc.out]; simp [Cfg.own, Own.list, HOB.out, hq]
                    go_wp2_with (go_at_call 46; refine (rin_any _ gs _ _ _ HRR.out hm).mono ?_; rintro e w' ⟨rfl, rfl⟩; rw [hq])
                    go_roundw
                    case rel => exact ⟨4, by omega, by go_num, by trivial, e⟩
                    case measure => simp [intOf]
                  | false =>
                    have e : Hid (checkB c = false) := by rw [Hid, hc.out]; simp [Cfg.own, Own.list, HOB.out, hq]
                    go_wp2_with (go_at_call 46; refine (rin_any _ gs _ _ _ HRR.out hm).mono ?_; rintro e w' ⟨rfl, rfl⟩; rw [hq])
                    go_ret
                    rw [e.out]
                    exact ⟨rfl, hbb.out⟩
            · have e : Hid (checkB c = true) := by
                rw [Hid, hc.out, List.drop_of_length_le (by simp [Cfg.own, Own.list]; omega)]; rfl
              go_wp2
              go_ret
              rw [e.out]
              exact ⟨rfl, hbb.out⟩

end Go.Proofs.YtijacbnoemjgcaaGreatDoor
