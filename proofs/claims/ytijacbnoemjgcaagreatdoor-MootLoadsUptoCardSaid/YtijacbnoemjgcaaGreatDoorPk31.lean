/- The moot: Do. -/
import Derived.Test.YtijacbnoemjgcaaGreatDoorPk30
set_option linter.unusedVariables false
set_option linter.unusedSimpArgs false
set_option linter.unnecessarySimpa false
namespace Go.Proofs.YtijacbnoemjgcaaGreatDoor
open Go.RowKit Go.Shelf

/-- What a moot holds: its configurations, the commands taken, its clients. -/
structure Mt where
  cs : List Cfg
  tk : List Cmd
  cl : Cls
def mt0 : Mt := ⟨[cfg0], [], fun _ => (0, 0)⟩
def badA (c n : Int) : Bool := decide (c < 0) || decide (8 ≤ c) || decide (n < 1) || decide (1099511627776 < n)
/-- Do: the answer, whether it was done now, the error; what is held behind it. -/
def mdS (s : Mt) (c n : Int) (x : Cmd) : (Int × Bool × Int) × Mt :=
  if badA c n = true then ((0, false, 1), s)
  else if n < (s.cl c.toNat).1 then ((0, false, 6), s)
  else if n = (s.cl c.toNat).1 then (((s.cl c.toNat).2, false, 0), s)
  else (((doS s.cs x).2, true, 0), ⟨(doS s.cs x).1, tkS s.cs s.tk x, upd s.cl c.toNat (n, (doS s.cs x).2)⟩)
def MdPost (base : Nat) (w : World) (m : Nat) (r : (Int × Bool × Int) × Mt) (e : Ending) (w' : World) : Prop :=
  e = .returned (.tuple #[.int .i64 r.1.1, .bool r.1.2.1, .int .i64 r.1.2.2]) ∧ Moot base w' m r.2.cs r.2.tk r.2.cl ∧ Chg (MMine base w) w w'

theorem keepm {w : World} {b : Nat} {v0 v1 v2 : Value} (hx : Blk w b 38 #[v0, v1, v2]) : w.cell? ⟨b, 0, none⟩ = some v0 ∧ w.cell? ⟨b, 1, none⟩ = some v1 ∧ w.cell? ⟨b, 2, none⟩ = some v2 := ⟨hx.cell 0, hx.cell 1, hx.cell 2⟩

set_option maxHeartbeats 4000000 in
set_option maxRecDepth 100000 in
theorem mdo_any (base m : Nat) (s : Mt) (c n : Int) (x : Cmd) (w : World) (hp : Moot base w m s.cs s.tk s.cl) (h41 : s.cs.length ≤ 41) (htk : s.tk.length ≤ 1000) :
    Calls Tryz.prog 11 #[.pointer (some ⟨m, 0, none⟩), .int .i64 c, .int .i64 n, .agg #[.int .i64 x.kind, .int .i64 x.group, .int .i64 x.shard]] w (MdPost base w m (mdS s c n x)) := by
  have hb0 : Below w.heap.size w (w.alloc (.cells #[.int .i64 x.kind, .int .i64 x.group, .int .i64 x.shard] 38)) := (Below.refl _ w).alloc (Nat.le_refl _) _
  have HBAD : Hid (Moot base (w.alloc (.cells #[.int .i64 x.kind, .int .i64 x.group, .int .i64 x.shard] 38)) m s.cs s.tk s.cl ∧ Chg (MMine base w) w (w.alloc (.cells #[.int .i64 x.kind, .int .i64 x.group, .int .i64 x.shard] 38))) := ⟨hp.below hb0, Chg.of_below hb0⟩
  have HD : Hid (mdS s c n x = if badA c n = true then ((0, false, 1), s) else if n < (s.cl c.toNat).1 then ((0, false, 6), s) else if n = (s.cl c.toNat).1 then (((s.cl c.toNat).2, false, 0), s) else (((doS s.cs x).2, true, 0), ⟨(doS s.cs x).1, tkS s.cs s.tk x, upd s.cl c.toNat (n, (doS s.cs x).2)⟩)) := rfl
  have hxW : Blk (w.alloc (.cells #[.int .i64 x.kind, .int .i64 x.group, .int .i64 x.shard] 38)) w.heap.size 38 #[.int .i64 x.kind, .int .i64 x.group, .int .i64 x.shard] := Blk.new w _ _
  by_cases c0 : c < 0
  · have HF : Hid (mdS s c n x = ((0, false, 1), s)) := by unfold Hid; rw [HD.out, if_pos (by simp [badA, c0])]
    clear hxW hb0 HD hp
    go_enter Tryz.func11, Tryz.ntmps11
    go_wp2_with fail
    refine bodyPost_ret (v := .tuple #[.int .i64 0, .bool false, .int .i64 1]) (by simp [results, Tryz.results11, go_sem]) rfl ?_
    rw [HF.out]
    exact ⟨rfl, HBAD.out⟩
  by_cases c8 : 8 ≤ c
  · have HF : Hid (mdS s c n x = ((0, false, 1), s)) := by unfold Hid; rw [HD.out, if_pos (by simp [badA, c8])]
    have c0' : decide (c < 0) = false := by rw [decide_eq_false_iff_not]; omega
    clear hxW hb0 HD hp c0
    go_enter Tryz.func11, Tryz.ntmps11
    go_wp2_with fail
    refine bodyPost_ret (v := .tuple #[.int .i64 0, .bool false, .int .i64 1]) (by simp [results, Tryz.results11, go_sem]) rfl ?_
    rw [HF.out]
    exact ⟨rfl, HBAD.out⟩
  have c0' : decide (c < 0) = false := by rw [decide_eq_false_iff_not]; omega
  have c8' : decide (8 ≤ c) = false := by rw [decide_eq_false_iff_not]; omega
  by_cases n1 : n < 1
  · have HF : Hid (mdS s c n x = ((0, false, 1), s)) := by unfold Hid; rw [HD.out, if_pos (by simp [badA, n1])]
    clear hxW hb0 HD hp c0 c8
    go_enter Tryz.func11, Tryz.ntmps11
    go_wp2_with fail
    refine bodyPost_ret (v := .tuple #[.int .i64 0, .bool false, .int .i64 1]) (by simp [results, Tryz.results11, go_sem]) rfl ?_
    rw [HF.out]
    exact ⟨rfl, HBAD.out⟩
  have n1' : decide (n < 1) = false := by rw [decide_eq_false_iff_not]; omega
  by_cases n2 : 1099511627776 < n
  · have HF : Hid (mdS s c n x = ((0, false, 1), s)) := by unfold Hid; rw [HD.out, if_pos (by simp [badA, n2])]
    clear hxW hb0 HD hp c0 c8 n1
    go_enter Tryz.func11, Tryz.ntmps11
    go_wp2_with fail
    refine bodyPost_ret (v := .tuple #[.int .i64 0, .bool false, .int .i64 1]) (by simp [results, Tryz.results11, go_sem]) rfl ?_
    rw [HF.out]
    exact ⟨rfl, HBAD.out⟩
  have n2' : decide (1099511627776 < n) = false := by rw [decide_eq_false_iff_not]; omega
  obtain ⟨k, rfl⟩ : ∃ k : Nat, c = (k : Int) := ⟨c.toNat, by omega⟩
  have hk : k < 8 := by omega
  have HD2 : Hid (mdS s k n x = if n < (s.cl k).1 then ((0, false, 6), s) else if n = (s.cl k).1 then (((s.cl k).2, false, 0), s) else (((doS s.cs x).2, true, 0), ⟨(doS s.cs x).1, tkS s.cs s.tk x, upd s.cl k (n, (doS s.cs x).2)⟩)) := by
    unfold Hid; rw [HD.out, if_neg (by simp [badA, c0', c8', n1', n2'] <;> omega)]; rfl
  obtain ⟨h, tv, hm, hc⟩ := hp
  have hmW := hm.below hb0
  have hcW := hc.below hb0
  have hmb : m < w.heap.size := hm.box.lt
  obtain ⟨e1, e2⟩ := moot_num h tv s.cl k hk
  have hk0 : (0 : Int) ≤ (k : Int) := by omega
  have hk8 : (k : Int) < 8 := by omega
  have HPN : Hid (s.cl k = (s.cl k)) := rfl
  clear hb0 HD c0 c8 n1 n2
  by_cases hlt : n < (s.cl k).1
  · have HF : Hid (mdS s k n x = ((0, false, 6), s)) := by unfold Hid; rw [HD2.out, if_pos hlt]
    have p1 : w.cell? ⟨m, 2 + k * 2, none⟩ = some (.int .i64 (s.cl k).1) := (hm.box.cell _).trans e1
    generalize (s.cl k).1 = q at *
    clear hxW hm hc hmW hcW e1 e2 HD2
    go_enter Tryz.func11, Tryz.ntmps11
    go_wp2_with fail
    refine bodyPost_ret (v := .tuple #[.int .i64 0, .bool false, .int .i64 6]) (by simp [results, Tryz.results11, go_sem]) rfl ?_
    rw [HF.out]
    exact ⟨rfl, HBAD.out⟩
  have hlt' : decide (n < (s.cl k).1) = false := by rw [decide_eq_false_iff_not]; exact hlt
  by_cases heq : n = (s.cl k).1
  · have HF : Hid (mdS s k n x = (((s.cl k).2, false, 0), s)) := by unfold Hid; rw [HD2.out, if_neg hlt, if_pos heq]
    have p1 : w.cell? ⟨m, 2 + k * 2, none⟩ = some (.int .i64 (s.cl k).1) := (hm.box.cell _).trans e1
    have p2 : w.cell? ⟨m, 2 + k * 2 + 1, none⟩ = some (.int .i64 (s.cl k).2) := (hm.box.cell _).trans e2
    have heq' : (n == (s.cl k).1) = true := by simpa using heq
    generalize (s.cl k).1 = q at *
    generalize (s.cl k).2 = a at *
    clear hxW hm hc hmW hcW e1 e2 HD2 heq hlt
    go_enter Tryz.func11, Tryz.ntmps11
    go_wp2_with fail
    refine bodyPost_ret (v := .tuple #[.int .i64 a, .bool false, .int .i64 0]) (by simp [results, Tryz.results11, go_sem]) rfl ?_
    rw [HF.out]
    exact ⟨rfl, HBAD.out⟩
  · have heq' : (n == (s.cl k).1) = false := by simpa using heq
    have HF : Hid (mdS s k n x = (((doS s.cs x).2, true, 0), ⟨(doS s.cs x).1, tkS s.cs s.tk x, upd s.cl k (n, (doS s.cs x).2)⟩)) := by unfold Hid; rw [HD2.out, if_neg hlt, if_neg heq]
    have p1 : w.cell? ⟨m, 2 + k * 2, none⟩ = some (.int .i64 (s.cl k).1) := (hm.box.cell _).trans e1
    have ht := mtake_any base m h tv s.cl s.cs s.tk x _ hmW hcW h41 htk
    unfold TakePost at ht
    have HT := Lib.hid ht
    have HCW := Lib.hid (Chg.of_below (F := MMine base w) ((Below.refl w.heap.size w).alloc (Nat.le_refl _) (.cells #[.int .i64 x.kind, .int .i64 x.group, .int .i64 x.shard] 38)))
    generalize (s.cl k).1 = q at *
    generalize doS s.cs x = rr at *
    obtain ⟨cs', e'⟩ := rr
    clear hxW hm hc hmW hcW e1 e2 HD2 heq hlt ht HBAD
    simp only at HF HT
    go_enter Tryz.func11, Tryz.ntmps11
    go_wp2_with fail
    refine HT.out.mono ?_
    rintro e w2 ⟨tv', rfl, hm2, hc2, hch⟩
    obtain ⟨f1, f2⟩ := moot_num h tv' s.cl k hk
    have p1 : w2.cell? ⟨m, 2 + k * 2, none⟩ = some (.int .i64 (s.cl k).1) := (hm2.box.cell _).trans f1
    have p2 : w2.cell? ⟨m, 2 + k * 2 + 1, none⟩ = some (.int .i64 (s.cl k).2) := (hm2.box.cell _).trans f2
    have g1 := hm2.box.frozen (2 + k * 2)
    have g2 := hm2.box.frozen (2 + k * 2 + 1)
    have HM := Lib.hid hm2
    have HC := Lib.hid hc2
    have HCH := Lib.hid (mm_trans HCW.out hch)
    have HST := Lib.hid (moot_set h tv' s.cl k hk n e')
    clear hm2 hc2 hch f1 f2 HT
    go_wp2_with fail
    refine bodyPost_ret (v := .tuple #[.int .i64 e', .bool true, .int .i64 0]) (by simp [results, Tryz.results11, go_sem]) rfl ?_
    rw [HF.out]
    have hcg : Chg (fun i => i = m) w2 ((w2.setCell ⟨m, 2 + k * 2, none⟩ (.int .i64 n)).setCell ⟨m, 2 + k * 2 + 1, none⟩ (.int .i64 e')) := ((Chg.refl (fun i => i = m) w2).setCell (p := ⟨m, 2 + k * 2, none⟩) (fun _ => rfl) _).setCell (p := ⟨m, 2 + k * 2 + 1, none⟩) (fun _ => rfl) _
    refine ⟨rfl, ⟨h, tv', ⟨?_, hcg.owns HM.out.row (fun g hg e => own_blk_ne HM.out.row HM.out.box (by decide) (by rw [hg, e])), HM.out.hm, HM.out.hh⟩, HC.out.moot hcg (fun i hi e => ⟨_, _, e ▸ HM.out.box, .inl rfl⟩)⟩, mm_trans HCH.out (hcg.mono (fun i hi e => by subst e; exact ⟨HM.out.hm, _, _, HM.out.box, .inr (.inr (.inl rfl))⟩))⟩
    have := (HM.out.box.set_ (2 + k * 2) (.int .i64 n)).set_ (2 + k * 2 + 1) (.int .i64 e')
    rw [HST.out] at this
    exact this

end Go.Proofs.YtijacbnoemjgcaaGreatDoor

namespace Go.Proofs.YtijacbnoemjgcaaGreatDoor
open Go.RowKit Go.Shelf

set_option maxHeartbeats 1000000 in
set_option maxRecDepth 100000 in
theorem mlast_any (base m : Nat) (cs : List Cfg) (tk : List Cmd) (cl : Cls) (w : World) (hp : Moot base w m cs tk cl) (h41 : cs.length ≤ 1000) :
    GivesC 12 #[.pointer (some ⟨m, 0, none⟩)] w (cs.getLastD cfg0) := by
  obtain ⟨h, tv, hm, hc⟩ := hp
  have hal : Below w.heap.size w (w.alloc (.cells #[.int .i64 0, .slice none 0 0, .int .i64 0, .int .i64 0, .int .i64 0, .int .i64 0] 46)) := (Below.refl _ w).alloc (Nat.le_refl _) _
  have b0 : (w.alloc (.cells #[.int .i64 0, .slice none 0 0, .int .i64 0, .int .i64 0, .int .i64 0, .int .i64 0] 46)).cell? ⟨m, 0, none⟩ = some (.pointer (some ⟨h, 0, none⟩)) := (hm.below hal).box.cell 0
  have HC := lastcfg_any base h cs _ (hc.below hal) h41
  have HZ : Hid (Blk (w.alloc (.cells #[.int .i64 0, .slice none 0 0, .int .i64 0, .int .i64 0, .int .i64 0, .int .i64 0] 46)) w.heap.size 46 (cfgCells 0 (.slice none 0 0) ⟨0, 0, 0, 0⟩)) := Blk.new w _ _
  have HB := Lib.hid hal
  have hsz : w.heap.size ≤ (w.alloc (.cells #[.int .i64 0, .slice none 0 0, .int .i64 0, .int .i64 0, .int .i64 0, .int .i64 0] 46)).heap.size := hal.size
  unfold GivesC at HC ⊢
  generalize cs.getLastD cfg0 = c at *
  have HCC := Lib.hid HC
  clear HC hal hm hc
  go_enter Tryz.func12, Tryz.ntmps12
  go_wp2_with fail
  generalize w.alloc (.cells #[.int .i64 0, .slice none 0 0, .int .i64 0, .int .i64 0, .int .i64 0, .int .i64 0] 46) = W at *
  refine HCC.out.mono ?_
  rintro e w2 ⟨s', rfl, hown, hb⟩
  obtain ⟨As, c2, rfl⟩ := own_shape hown
  have hz := HZ.out.below hb HZ.out.lt
  have HB2 := Lib.hid (HB.out.trans (hb.mono hsz))
  obtain ⟨z0, z1, z2, z3, z4, z5⟩ := keep6 hz (Below.refl _ _)
  have f0 := hz.frozen 0
  have f1 := hz.frozen 1
  have f2 := hz.frozen 2
  have f3 := hz.frozen 3
  have f4 := hz.frozen 4
  have f5 := hz.frozen 5
  have HZ2 := Lib.hid hz
  have HO := Lib.hid hown
  clear hz hown hb b0
  unfold Cfg.val
  go_wp2_with fail
  refine bodyPost_ret (v := c.val (.slice As c.gs.length c2)) (by simp [results, Tryz.results12, go_sem, z0, z1, z2, z3, z4, z5, Cfg.val]) rfl ?_
  exact ⟨_, rfl, put6 HB2.out HO.out hsz _ HZ2.out (Nat.le_refl _) _ (((((((Chg.refl (fun i => i = w.heap.size) w2).setCell (fun _ => rfl) _).setCell (fun _ => rfl) _).setCell (fun _ => rfl) _).setCell (fun _ => rfl) _).setCell (fun _ => rfl) _).setCell (fun _ => rfl) _)⟩

theorem field_num (n a b c d : Int) (A : Option Addr) (l m : Nat) (w : World) : (Instr.field 46 (.agg #[.int .i64 n, .slice A l m, .int .i64 a, .int .i64 b, .int .i64 c, .int .i64 d]) 0).run Tryz.prog w = .ok (.int .i64 n) w := by kernel_rfl

def s1 : Mt := (mdS mt0 0 1 ⟨1, 1, 0⟩).2
theorem one1 : (mdS mt0 0 1 ⟨1, 1, 0⟩).1 = (0, true, 0) := by rfl
theorem one2 : (mdS s1 0 1 ⟨1, 2, 0⟩).1 = (0, false, 0) ∧ (mdS s1 0 1 ⟨1, 2, 0⟩).2 = s1 := by exact ⟨rfl, rfl⟩
theorem one3 : (mdS s1 0 2 ⟨1, 1, 0⟩).1 = (150, true, 0) := by rfl
def s2 : Mt := (mdS s1 0 2 ⟨1, 1, 0⟩).2
theorem one4 : s1.cs.length ≤ 41 ∧ s1.tk.length ≤ 1000 ∧ s2.cs.length ≤ 1000 := by decide
theorem one5 : (s2.cs.getLastD cfg0).num = 1 := by rfl

set_option maxHeartbeats 1000000 in
set_option maxRecDepth 100000 in
theorem one_any (w : World) : Calls Tryz.prog 5 #[] w fun e w' => e = .returned (.bool true) ∧ Below w.heap.size w w' := by
  have hfld := fun (w : World) (n a b c d : Int) (A : Option Addr) (l m : Nat) => field_num n a b c d A l m w
  have HF := Lib.hid hfld
  clear hfld
  go_enter Tryz.func5, Tryz.ntmps5
  go_wp2_with fail
  refine (mnew_any w).mono ?_
  rintro e w1 ⟨m, rfl, hp1, hb1⟩
  have HP1 := Lib.hid hp1
  have HB1 := Lib.hid hb1
  clear hp1 hb1
  go_wp2_with fail
  refine (mdo_any w.heap.size m mt0 0 1 ⟨1, 1, 0⟩ w1 HP1.out (by simp [mt0]) (by simp [mt0])).mono ?_
  rintro e w2 ⟨rfl, hp2, hc2⟩
  have HP2 : Hid (Moot w.heap.size w2 m s1.cs s1.tk s1.cl) := hp2
  have HB2 := Lib.hid (HB1.out.trans (mmine_below hc2 HB1.out.size))
  rw [one1]
  clear hp2 hc2 HP1 HB1
  go_wp2_with fail
  refine (mdo_any w.heap.size m s1 0 1 ⟨1, 2, 0⟩ w2 HP2.out one4.1 one4.2.1).mono ?_
  rintro e w3 ⟨rfl, hp3, hc3⟩
  have HP3 : Hid (Moot w.heap.size w3 m s1.cs s1.tk s1.cl) := hp3
  have HB3 := Lib.hid (HB2.out.trans (mmine_below hc3 HB2.out.size))
  rw [one2.1]
  clear hp3 hc3 HP2 HB2
  go_wp2_with fail
  refine (mdo_any w.heap.size m s1 0 2 ⟨1, 1, 0⟩ w3 HP3.out one4.1 one4.2.1).mono ?_
  rintro e w4 ⟨rfl, hp4, hc4⟩
  have HP4 : Hid (Moot w.heap.size w4 m s2.cs s2.tk s2.cl) := hp4
  have HB4 := Lib.hid (HB3.out.trans (mmine_below hc4 HB3.out.size))
  rw [one3]
  clear hp4 hc4 HP3 HB3
  go_wp2_with fail
  have hl := mlast_any w.heap.size m s2.cs s2.tk s2.cl w4 HP4.out one4.2.2
  unfold GivesC at hl
  refine hl.mono ?_
  rintro e w5 ⟨s5, rfl, ho5, hb5⟩
  obtain ⟨A5, c5, rfl⟩ := own_shape ho5
  have hn := one5
  generalize s2.cs.getLastD cfg0 = c at *
  obtain ⟨cn, cg, co⟩ := c
  simp only at hn
  subst hn
  have HB5 := Lib.hid (HB4.out.trans (hb5.mono HB4.out.size))
  have hfld := HF.out
  clear ho5 hb5 hl
  unfold Cfg.val
  go_wp2_with fail
  go_ret
  exact ⟨rfl, HB5.out⟩

end Go.Proofs.YtijacbnoemjgcaaGreatDoor
