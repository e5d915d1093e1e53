/- Configurations: Check. -/
import Derived.Test.YtijacbnoemjgcaaGreatDoorPb6
set_option linter.unusedVariables false
set_option linter.unusedSimpArgs false
set_option linter.unnecessarySimpa false
namespace Go.Proofs.YtijacbnoemjgcaaGreatDoor
open Go.RowKit Go.Shelf

/-- Who has each of the four shards. -/
structure Own where
  a : Int
  b : Int
  c : Int
  d : Int
def Own.list (o : Own) : List Int := [o.a, o.b, o.c, o.d]
def Own.get (o : Own) : Nat → Int
  | 0 => o.a
  | 1 => o.b
  | 2 => o.c
  | _ => o.d
def Own.put (o : Own) (k : Nat) (v : Int) : Own :=
  match k with
  | 0 => { o with a := v }
  | 1 => { o with b := v }
  | 2 => { o with c := v }
  | _ => { o with d := v }
structure Cfg where
  num : Int
  gs : List Int
  o : Own
def Cfg.own (c : Cfg) : List Int := c.o.list
/-- A configuration as a value: its list of groups is the slice s. -/
def Cfg.val (c : Cfg) (s : Value) : Value := .agg #[.int .i64 c.num, s, .int .i64 c.o.a, .int .i64 c.o.b, .int .i64 c.o.c, .int .i64 c.o.d]

theorem idx4_0 (a b c d : Value) (w : World) : (Instr.index 44 (.agg #[a, b, c, d]) (.int .i64 0)).run Tryz.prog w = .ok a w := by kernel_rfl
theorem idx4_1 (a b c d : Value) (w : World) : (Instr.index 44 (.agg #[a, b, c, d]) (.int .i64 1)).run Tryz.prog w = .ok b w := by kernel_rfl
theorem idx4_2 (a b c d : Value) (w : World) : (Instr.index 44 (.agg #[a, b, c, d]) (.int .i64 2)).run Tryz.prog w = .ok c w := by kernel_rfl
theorem idx4_3 (a b c d : Value) (w : World) : (Instr.index 44 (.agg #[a, b, c, d]) (.int .i64 3)).run Tryz.prog w = .ok d w := by kernel_rfl
attribute [go_sem] idx4_0 idx4_1 idx4_2 idx4_3

def ascB (last : Int) : List Int → Bool
  | [] => true
  | g :: l => !(decide (g ≤ last)) && groupB g && ascB g l
def ownB (gs : List Int) (o : Int) : Bool := if gs.length = 0 then o == 0 else inS o gs
def checkB (c : Cfg) : Bool := !(decide (c.num < 0)) && !(decide (1099511627776 < c.num)) && ascB 0 c.gs && c.own.all (ownB c.gs)
def errC (b : Bool) : Int := if b = true then 0 else 4
theorem ascB_drop (last : Int) (l : List Int) (k : Nat) (hk : k < l.length) : ascB last (l.drop k) = (!(decide (l[k] ≤ last)) && groupB l[k] && ascB l[k] (l.drop (k + 1))) := by
  rw [List.drop_eq_getElem_cons hk]; rfl

set_option maxHeartbeats 1000000 in
set_option maxRecDepth 100000 in
theorem check_any (c : Cfg) (s : Value) (w : World) (B : Nat) (hB : B ≤ w.heap.size) (hr : Rd w B 1 s c.gs.length (ints c.gs)) (hm : c.gs.length ≤ 9223372036854775807) :
    Calls Tryz.prog 54 #[.agg #[.int .i64 c.num, s, .int .i64 c.o.a, .int .i64 c.o.b, .int .i64 c.o.c, .int .i64 c.o.d]] w fun e w' => e = .returned (.int .i64 (errC (checkB c))) ∧ Below w.heap.size w w' := by
  cases h1 : decide (c.num < 0) with
  | true =>
    have e : checkB c = false := by simp [checkB, h1]
    have HE := Lib.hid e
    clear e
    go_enter Tryz.func54, Tryz.ntmps54
    go_wp2
    go_ret
    rw [HE.out]
    exact ⟨rfl, (Below.refl _ _).alloc (Nat.le_refl _) _⟩
  | false =>
    cases h2 : decide (1099511627776 < c.num) with
    | true =>
      have e : checkB c = false := by simp [checkB, h2]
      have HE := Lib.hid e
      clear e
      go_enter Tryz.func54, Tryz.ntmps54
      go_wp2
      go_ret
      rw [HE.out]
      exact ⟨rfl, (Below.refl _ _).alloc (Nat.le_refl _) _⟩
    | false =>
      have HE : Hid (checkB c = (ascB 0 c.gs && c.own.all (ownB c.gs))) := by simp [Hid, checkB, h1, h2]
      have HR := Lib.hid hr
      obtain ⟨_, A, cc, rfl, _, _⟩ := hr
      have HR2 : Hid (∀ o, Rd (w.alloc o) B 1 (.slice A c.gs.length cc) c.gs.length (ints c.gs)) := fun o => HR.out.below ((Below.refl B w).alloc hB o)
      have hcB : Hid (∀ o : Obj, Below w.heap.size w (w.alloc o)) := fun o => (Below.refl _ _).alloc (Nat.le_refl _) _
      generalize hgs : c.gs = gs at *
      clear hgs
      go_enter Tryz.func54, Tryz.ntmps54
      go_wp2
      have hz : (w.alloc (.cells #[.int .i64 c.num, .slice A gs.length cc, .int .i64 c.o.a, .int .i64 c.o.b, .int .i64 c.o.c, .int .i64 c.o.d] 46)).heap.size = w.heap.size + 1 := by simp
      have k0 : (w.alloc (.cells #[.int .i64 c.num, .slice A gs.length cc, .int .i64 c.o.a, .int .i64 c.o.b, .int .i64 c.o.c, .int .i64 c.o.d] 46)).cell? ⟨w.heap.size, 1, none⟩ = some (.slice A gs.length cc) := by simp
      have hrr := HR2.out (.cells #[.int .i64 c.num, .slice A gs.length cc, .int .i64 c.o.a, .int .i64 c.o.b, .int .i64 c.o.c, .int .i64 c.o.d] 46)
      have hbb := Lib.hid (hcB.out (.cells #[.int .i64 c.num, .slice A gs.length cc, .int .i64 c.o.a, .int .i64 c.o.b, .int .i64 c.o.c, .int .i64 c.o.d] 46))
      have k2 : (w.alloc (.cells #[.int .i64 c.num, .slice A gs.length cc, .int .i64 c.o.a, .int .i64 c.o.b, .int .i64 c.o.c, .int .i64 c.o.d] 46)).cell? ⟨w.heap.size, 2, none⟩ = some (.int .i64 c.o.a) := by simp
      have k3 : (w.alloc (.cells #[.int .i64 c.num, .slice A gs.length cc, .int .i64 c.o.a, .int .i64 c.o.b, .int .i64 c.o.c, .int .i64 c.o.d] 46)).cell? ⟨w.heap.size, 3, none⟩ = some (.int .i64 c.o.b) := by simp
      have k4 : (w.alloc (.cells #[.int .i64 c.num, .slice A gs.length cc, .int .i64 c.o.a, .int .i64 c.o.b, .int .i64 c.o.c, .int .i64 c.o.d] 46)).cell? ⟨w.heap.size, 4, none⟩ = some (.int .i64 c.o.c) := by simp
      have k5 : (w.alloc (.cells #[.int .i64 c.num, .slice A gs.length cc, .int .i64 c.o.a, .int .i64 c.o.b, .int .i64 c.o.c, .int .i64 c.o.d] 46)).cell? ⟨w.heap.size, 5, none⟩ = some (.int .i64 c.o.d) := by simp
      have HRR := Lib.hid hrr
      clear HR2 hcB hrr HR
      generalize w.alloc (.cells #[.int .i64 c.num, .slice A gs.length cc, .int .i64 c.o.a, .int .i64 c.o.b, .int .i64 c.o.c, .int .i64 c.o.d] 46) = W at *
      go_loopw [3, 19] (fun la i wr => ∃ (k : Nat) (last : Int), k ≤ gs.length ∧ i = .int .i64 k ∧ la = .int .i64 last ∧ wr = W ∧ Hid (ascB 0 gs = ascB last (gs.drop k))) (fun _ i _ => gs.length - (intOf i).toNat)
      case atStart => exact ⟨0, 0, Nat.zero_le _, rfl, rfl, rfl, rfl⟩
      case round =>
        obtain ⟨k, last, hk, rfl, rfl, rfl, hasc⟩ := hrel
        by_cases hlt : k < gs.length
        · obtain ⟨g, off, c', hV, hg, hc⟩ := rd_get1 HRR.out hlt
          injection hV with hA _ hcc
          subst hA
          clear hcc
          have hd := ascB_drop last gs k hlt
          have hasc2 := Lib.hid (hasc.out.trans hd)
          clear hd hasc
          cases h3 : decide (gs[k] ≤ last) with
          | true =>
            have e : Hid (checkB c = false) := by rw [Hid, HE.out, hasc2.out, h3]; rfl
            go_wp2
            go_ret
            rw [e.out]
            exact ⟨rfl, hbb.out⟩
          | false =>
            cases h4 : groupB gs[k] with
            | false =>
              have e : Hid (checkB c = false) := by rw [Hid, HE.out, hasc2.out, h3, h4]; rfl
              go_wp2_with (go_at_call 71; refine (group_any _ _).mono ?_; rintro e w' ⟨rfl, rfl⟩)
              go_ret
              rw [e.out]
              exact ⟨rfl, hbb.out⟩
            | true =>
              have e : Hid (ascB 0 gs = ascB gs[k] (gs.drop (k + 1))) := by rw [Hid, hasc2.out, h3, h4]; rfl
              go_wp2_with (go_at_call 71; refine (group_any _ _).mono ?_; rintro e w' ⟨rfl, rfl⟩)
              go_roundw
              case rel => exact ⟨k + 1, gs[k], by omega, by go_num, rfl, by trivial, e⟩
              case measure => simp [intOf]; omega
        · have e : Hid (checkB c = c.own.all (ownB gs)) := by
            rw [Hid, HE.out, hasc.out, List.drop_of_length_le (by omega)]; rfl
          clear HE hasc
          go_wp2_with fail
          go_loopw [35] (fun i wx => ∃ k : Nat, k ≤ 4 ∧ i = .int .i64 k ∧ wx = wr ∧ Hid (checkB c = (c.own.drop k).all (ownB gs))) (fun i _ => 4 - (intOf i).toNat)
          case atStart => exact ⟨0, by omega, rfl, rfl, e⟩
          case round =>
            obtain ⟨k, hk, rfl, rfl, hc⟩ := hrel
            clear hlt e
            have hm2 : (gs.length : Int) ≤ 9223372036854775807 := by omega
            have key : ∀ o : Int, Hid (checkB c = (ownB gs o && (c.own.drop (k + 1)).all (ownB gs))) → True := fun _ _ => trivial
            clear key
            by_cases hlt : k < 4
            · have hcase : k = 0 ∨ k = 1 ∨ k = 2 ∨ k = 3 := by omega
              by_cases h0 : gs.length = 0
              · have h0b : ((gs.length : Int) == 0) = true := by simp [h0]
                have hob : ∀ o, ownB gs o = (o == 0) := fun o => by rw [ownB, if_pos h0]
                have HOB := Lib.hid hob
                have h0d : (0 < gs.length) = False := by simp [h0]
                clear hob h0
                rcases hcase with rfl | rfl | rfl | rfl
                · cases hq : (c.o.a == 0) with
                  | true =>
                    have e : Hid (checkB c = (c.own.drop 1).all (ownB gs)) := by rw [Hid, hc.out]; simp [Cfg.own, Own.list, HOB.out, hq]
                    have hq2 : (c.o.a != 0) = false := by simpa using hq
                    go_wp2_with fail
                    go_roundw
                    case rel => exact ⟨1, by omega, by go_num, by trivial, e⟩
                    case measure => simp [intOf]
                  | false =>
                    have e : Hid (checkB c = false) := by rw [Hid, hc.out]; simp [Cfg.own, Own.list, HOB.out, hq]
                    have hq2 : (c.o.a != 0) = true := by simpa using hq
                    go_wp2_with fail
                    go_ret
                    rw [e.out]
                    exact ⟨rfl, hbb.out⟩
                · cases hq : (c.o.b == 0) with
                  | true =>
                    have e : Hid (checkB c = (c.own.drop 2).all (ownB gs)) := by rw [Hid, hc.out]; simp [Cfg.own, Own.list, HOB.out, hq]
                    have hq2 : (c.o.b != 0) = false := by simpa using hq
                    go_wp2_with fail
                    go_roundw
                    case rel => exact ⟨2, by omega, by go_num, by trivial, e⟩
                    case measure => simp [intOf]
                  | false =>
                    have e : Hid (checkB c = false) := by rw [Hid, hc.out]; simp [Cfg.own, Own.list, HOB.out, hq]
                    have hq2 : (c.o.b != 0) = true := by simpa using hq
                    go_wp2_with fail
                    go_ret
                    rw [e.out]
                    exact ⟨rfl, hbb.out⟩
                · cases hq : (c.o.c == 0) with
                  | true =>
                    have e : Hid (checkB c = (c.own.drop 3).all (ownB gs)) := by rw [Hid, hc.out]; simp [Cfg.own, Own.list, HOB.out, hq]
                    have hq2 : (c.o.c != 0) = false := by simpa using hq
                    go_wp2_with fail
                    go_roundw
                    case rel => exact ⟨3, by omega, by go_num, by trivial, e⟩
                    case measure => simp [intOf]
                  | false =>
                    have e : Hid (checkB c = false) := by rw [Hid, hc.out]; simp [Cfg.own, Own.list, HOB.out, hq]
                    have hq2 : (c.o.c != 0) = true := by simpa using hq
                    go_wp2_with fail
                    go_ret
                    rw [e.out]
                    exact ⟨rfl, hbb.out⟩
                · cases hq : (c.o.d == 0) with
                  | true =>
                    have e : Hid (checkB c = (c.own.drop 4).all (ownB gs)) := by rw [Hid, hc.out]; simp [Cfg.own, Own.list, HOB.out, hq]
                    have hq2 : (c.o.d != 0) = false := by simpa using hq
                    go_wp2_with fail
                    go_roundw
                    case rel => exact ⟨4, by omega, by go_num, by trivial, e⟩
                    case measure => simp [intOf]
                  | false =>
                    have e : Hid (checkB c = false) := by rw [Hid, hc.out]; simp [Cfg.own, Own.list, HOB.out, hq]
                    have hq2 : (c.o.d != 0) = true := by simpa using hq
                    go_wp2_with fail
                    go_ret
                    rw [e.out]
                    exact ⟨rfl, hbb.out⟩
              · have h0b : ((gs.length : Int) == 0) = false := by simp [h0]
                have h0d : 0 < gs.length := by omega
                have hob : ∀ o, ownB gs o = inS o gs := fun o => by rw [ownB, if_neg h0]
                have HOB := Lib.hid hob
                clear hob h0
                rcases hcase with rfl | rfl | rfl | rfl
                · cases hq : inS c.o.a gs with
                  | true =>
                    have e : Hid (checkB c = (c.own.drop 1).all (ownB gs)) := by rw [Hid, hc.out]; simp [Cfg.own, Own.list, HOB.out, hq]
                    go_wp2_with (go_at_call 72; refine (contains_any _ gs _ _ _ HRR.out hm).mono ?_; rintro e w' ⟨rfl, rfl⟩; rw [hq])
                    go_roundw
                    case rel => exact ⟨1, by omega, by go_num, by trivial, e⟩
                    case measure => simp [intOf]
                  | false =>
                    have e : Hid (checkB c = false) := by rw [Hid, hc.out]; simp [Cfg.own, Own.list, HOB.out, hq]
                    go_wp2_with (go_at_call 72; refine (contains_any _ gs _ _ _ HRR.out hm).mono ?_; rintro e w' ⟨rfl, rfl⟩; rw [hq])
                    go_ret
                    rw [e.out]
                    exact ⟨rfl, hbb.out⟩
                · cases hq : inS c.o.b gs with
                  | true =>
                    have e : Hid (checkB c = (c.own.drop 2).all (ownB gs)) := by rw [Hid, hc.out]; simp [Cfg.own, Own.list, HOB.out, hq]
                    go_wp2_with (go_at_call 72; refine (contains_any _ gs _ _ _ HRR.out hm).mono ?_; rintro e w' ⟨rfl, rfl⟩; rw [hq])
                    go_roundw
                    case rel => exact ⟨2, by omega, by go_num, by trivial, e⟩
                    case measure => simp [intOf]
                  | false =>
                    have e : Hid (checkB c = false) := by rw [Hid, hc.out]; simp [Cfg.own, Own.list, HOB.out, hq]
                    go_wp2_with (go_at_call 72; refine (contains_any _ gs _ _ _ HRR.out hm).mono ?_; rintro e w' ⟨rfl, rfl⟩; rw [hq])
                    go_ret
                    rw [e.out]
                    exact ⟨rfl, hbb.out⟩
                · cases hq : inS c.o.c gs with
                  | true =>
                    have e : Hid (checkB c = (c.own.drop 3).all (ownB gs)) := by rw [Hid, hc.out]; simp [Cfg.own, Own.list, HOB.out, hq]
                    go_wp2_with (go_at_call 72; refine (contains_any _ gs _ _ _ HRR.out hm).mono ?_; rintro e w' ⟨rfl, rfl⟩; rw [hq])
                    go_roundw
                    case rel => exact ⟨3, by omega, by go_num, by trivial, e⟩
                    case measure => simp [intOf]
                  | false =>
                    have e : Hid (checkB c = false) := by rw [Hid, hc.out]; simp [Cfg.own, Own.list, HOB.out, hq]
                    go_wp2_with (go_at_call 72; refine (contains_any _ gs _ _ _ HRR.out hm).mono ?_; rintro e w' ⟨rfl, rfl⟩; rw [hq])
                    go_ret
                    rw [e.out]
                    exact ⟨rfl, hbb.out⟩
                · cases hq : inS c.o.d gs with
                  | true =>
                    have e : Hid (checkB c = (c.own.drop 4).all (ownB gs)) := by rw [Hid, hc.out]; simp [Cfg.own, Own.list, HOB.out, hq]
                    go_wp2_with (go_at_call 72; refine (contains_any _ gs _ _ _ HRR.out hm).mono ?_; rintro e w' ⟨rfl, rfl⟩; rw [hq])
                    go_roundw
                    case rel => exact ⟨4, by omega, by go_num, by trivial, e⟩
                    case measure => simp [intOf]
                  | false =>
                    have e : Hid (checkB c = false) := by rw [Hid, hc.out]; simp [Cfg.own, Own.list, HOB.out, hq]
                    go_wp2_with (go_at_call 72; refine (contains_any _ gs _ _ _ HRR.out hm).mono ?_; rintro e w' ⟨rfl, rfl⟩; rw [hq])
                    go_ret
                    rw [e.out]
                    exact ⟨rfl, hbb.out⟩
            · have e : Hid (checkB c = true) := by
                rw [Hid, hc.out, List.drop_of_length_le (by simp [Cfg.own, Own.list]; omega)]; rfl
              go_wp2
              go_ret
              rw [e.out]
              exact ⟨rfl, hbb.out⟩

end Go.Proofs.YtijacbnoemjgcaaGreatDoor
