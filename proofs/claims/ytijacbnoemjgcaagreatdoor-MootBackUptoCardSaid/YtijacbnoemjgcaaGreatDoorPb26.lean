/- The moot: Do. -/
import Derived.Test.YtijacbnoemjgcaaGreatDoorPb25
set_option linter.unusedVariables false
set_option linter.unusedSimpArgs false
set_option linter.unnecessarySimpa false
namespace Go.Proofs.YtijacbnoemjgcaaGreatDoor
open Go.RowKit Go.Shelf

/-- What a moot holds: its configurations, the commands taken, its clients. -/
structure Mt where
  cs : List Cfg
  tk : List Cmd
  cl : Cls
def mt0 : Mt := ⟨[cfg0], [], fun _ => (0, 0)⟩
def badA (c n : Int) : Bool := decide (c < 0) || decide (8 ≤ c) || decide (n < 1) || decide (1099511627776 < n)
/-- Do: the answer, whether it was done now, the error; what is held behind it. -/
def mdS (s : Mt) (c n : Int) (x : Cmd) : (Int × Bool × Int) × Mt :=
  if badA c n = true then ((0, false, 1), s)
  else if n < (s.cl c.toNat).1 then ((0, false, 6), s)
  else if n = (s.cl c.toNat).1 then (((s.cl c.toNat).2, false, 0), s)
  else (((doS s.cs x).2, true, 0), ⟨(doS s.cs x).1, tkS s.cs s.tk x, upd s.cl c.toNat (n, (doS s.cs x).2)⟩)
def MdPost (base : Nat) (w : World) (m : Nat) (r : (Int × Bool × Int) × Mt) (e : Ending) (w' : World) : Prop :=
  e = .returned (.tuple #[.int .i64 r.1.1, .bool r.1.2.1, .int .i64 r.1.2.2]) ∧ Moot base w' m r.2.cs r.2.tk r.2.cl ∧ Chg (MMine base w) w w'

theorem keepm {w : World} {b : Nat} {v0 v1 v2 : Value} (hx : Blk w b 38 #[v0, v1, v2]) : w.cell? ⟨b, 0, none⟩ = some v0 ∧ w.cell? ⟨b, 1, none⟩ = some v1 ∧ w.cell? ⟨b, 2, none⟩ = some v2 := ⟨hx.cell 0, hx.cell 1, hx.cell 2⟩

set_option maxHeartbeats 4000000 in
set_option maxRecDepth 100000 in
theorem mdo_any (base m : Nat) (s : Mt) (c n : Int) (x : Cmd) (w : World) (hp : Moot base w m s.cs s.tk s.cl) (h41 : s.cs.length ≤ 41) (htk : s.tk.length ≤ 1000) :
    Calls Tryz.prog 11 #[.pointer (some ⟨m, 0, none⟩), .int .i64 c, .int .i64 n, .agg #[.int .i64 x.kind, .int .i64 x.group, .int .i64 x.shard]] w (MdPost base w m (mdS s c n x)) := by
  have hb0 : Below w.heap.size w (w.alloc (.cells #[.int .i64 x.kind, .int .i64 x.group, .int .i64 x.shard] 38)) := (Below.refl _ w).alloc (Nat.le_refl _) _
  have HBAD : Hid (Moot base (w.alloc (.cells #[.int .i64 x.kind, .int .i64 x.group, .int .i64 x.shard] 38)) m s.cs s.tk s.cl ∧ Chg (MMine base w) w (w.alloc (.cells #[.int .i64 x.kind, .int .i64 x.group, .int .i64 x.shard] 38))) := ⟨hp.below hb0, Chg.of_below hb0⟩
  have HD : Hid (mdS s c n x = if badA c n = true then ((0, false, 1), s) else if n < (s.cl c.toNat).1 then ((0, false, 6), s) else if n = (s.cl c.toNat).1 then (((s.cl c.toNat).2, false, 0), s) else (((doS s.cs x).2, true, 0), ⟨(doS s.cs x).1, tkS s.cs s.tk x, upd s.cl c.toNat (n, (doS s.cs x).2)⟩)) := rfl
  have hxW : Blk (w.alloc (.cells #[.int .i64 x.kind, .int .i64 x.group, .int .i64 x.shard] 38)) w.heap.size 38 #[.int .i64 x.kind, .int .i64 x.group, .int .i64 x.shard] := Blk.new w _ _
  by_cases c0 : c < 0
  · have HF : Hid (mdS s c n x = ((0, false, 1), s)) := by unfold Hid; rw [HD.out, if_pos (by simp [badA, c0])]
    clear hxW hb0 HD hp
    go_enter Tryz.func11, Tryz.ntmps11
    go_wp2_with fail
    refine bodyPost_ret (v := .tuple #[.int .i64 0, .bool false, .int .i64 1]) (by simp [results, Tryz.results11, go_sem]) rfl ?_
    rw [HF.out]
    exact ⟨rfl, HBAD.out⟩
  by_cases c8 : 8 ≤ c
  · have HF : Hid (mdS s c n x = ((0, false, 1), s)) := by unfold Hid; rw [HD.out, if_pos (by simp [badA, c8])]
    have c0' : decide (c < 0) = false := by rw [decide_eq_false_iff_not]; omega
    clear hxW hb0 HD hp c0
    go_enter Tryz.func11, Tryz.ntmps11
    go_wp2_with fail
    refine bodyPost_ret (v := .tuple #[.int .i64 0, .bool false, .int .i64 1]) (by simp [results, Tryz.results11, go_sem]) rfl ?_
    rw [HF.out]
    exact ⟨rfl, HBAD.out⟩
  have c0' : decide (c < 0) = false := by rw [decide_eq_false_iff_not]; omega
  have c8' : decide (8 ≤ c) = false := by rw [decide_eq_false_iff_not]; omega
  by_cases n1 : n < 1
  · have HF : Hid (mdS s c n x = ((0, false, 1), s)) := by unfold Hid; rw [HD.out, if_pos (by simp [badA, n1])]
    clear hxW hb0 HD hp c0 c8
    go_enter Tryz.func11, Tryz.ntmps11
    go_wp2_with fail
    refine bodyPost_ret (v := .tuple #[.int .i64 0, .bool false, .int .i64 1]) (by simp [results, Tryz.results11, go_sem]) rfl ?_
    rw [HF.out]
    exact ⟨rfl, HBAD.out⟩
  have n1' : decide (n < 1) = false := by rw [decide_eq_false_iff_not]; omega
  by_cases n2 : 1099511627776 < n
  · have HF : Hid (mdS s c n x = ((0, false, 1), s)) := by unfold Hid; rw [HD.out, if_pos (by simp [badA, n2])]
    clear hxW hb0 HD hp c0 c8 n1
    go_enter Tryz.func11, Tryz.ntmps11
    go_wp2_with fail
    refine bodyPost_ret (v := .tuple #[.int .i64 0, .bool false, .int .i64 1]) (by simp [results, Tryz.results11, go_sem]) rfl ?_
    rw [HF.out]
    exact ⟨rfl, HBAD.out⟩
  have n2' : decide (1099511627776 < n) = false := by rw [decide_eq_false_iff_not]; omega
  obtain ⟨k, rfl⟩ : ∃ k : Nat, c = (k : Int) := ⟨c.toNat, by omega⟩
  have hk : k < 8 := by omega
  have HD2 : Hid (mdS s k n x = if n < (s.cl k).1 then ((0, false, 6), s) else if n = (s.cl k).1 then (((s.cl k).2, false, 0), s) else (((doS s.cs x).2, true, 0), ⟨(doS s.cs x).1, tkS s.cs s.tk x, upd s.cl k (n, (doS s.cs x).2)⟩)) := by
    unfold Hid; rw [HD.out, if_neg (by simp [badA, c0', c8', n1', n2'] <;> omega)]; rfl
  obtain ⟨h, tv, hm, hc⟩ := hp
  have hmW := hm.below hb0
  have hcW := hc.below hb0
  have hmb : m < w.heap.size := hm.box.lt
  obtain ⟨e1, e2⟩ := moot_num h tv s.cl k hk
  have hk0 : (0 : Int) ≤ (k : Int) := by omega
  have hk8 : (k : Int) < 8 := by omega
  have HPN : Hid (s.cl k = (s.cl k)) := rfl
  clear hb0 HD c0 c8 n1 n2
  by_cases hlt : n < (s.cl k).1
  · have HF : Hid (mdS s k n x = ((0, false, 6), s)) := by unfold Hid; rw [HD2.out, if_pos hlt]
    have p1 : w.cell? ⟨m, 2 + k * 2, none⟩ = some (.int .i64 (s.cl k).1) := (hm.box.cell _).trans e1
    generalize (s.cl k).1 = q at *
    clear hxW hm hc hmW hcW e1 e2 HD2
    go_enter Tryz.func11, Tryz.ntmps11
    go_wp2_with fail
    refine bodyPost_ret (v := .tuple #[.int .i64 0, .bool false, .int .i64 6]) (by simp [results, Tryz.results11, go_sem]) rfl ?_
    rw [HF.out]
    exact ⟨rfl, HBAD.out⟩
  have hlt' : decide (n < (s.cl k).1) = false := by rw [decide_eq_false_iff_not]; exact hlt
  by_cases heq : n = (s.cl k).1
  · have HF : Hid (mdS s k n x = (((s.cl k).2, false, 0), s)) := by unfold Hid; rw [HD2.out, if_neg hlt, if_pos heq]
    have p1 : w.cell? ⟨m, 2 + k * 2, none⟩ = some (.int .i64 (s.cl k).1) := (hm.box.cell _).trans e1
    have p2 : w.cell? ⟨m, 2 + k * 2 + 1, none⟩ = some (.int .i64 (s.cl k).2) := (hm.box.cell _).trans e2
    have heq' : (n == (s.cl k).1) = true := by simpa using heq
    generalize (s.cl k).1 = q at *
    generalize (s.cl k).2 = a at *
    clear hxW hm hc hmW hcW e1 e2 HD2 heq hlt
    go_enter Tryz.func11, Tryz.ntmps11
    go_wp2_with fail
    refine bodyPost_ret (v := .tuple #[.int .i64 a, .bool false, .int .i64 0]) (by simp [results, Tryz.results11, go_sem]) rfl ?_
    rw [HF.out]
    exact ⟨rfl, HBAD.out⟩
  · have heq' : (n == (s.cl k).1) = false := by simpa using heq
    have HF : Hid (mdS s k n x = (((doS s.cs x).2, true, 0), ⟨(doS s.cs x).1, tkS s.cs s.tk x, upd s.cl k (n, (doS s.cs x).2)⟩)) := by unfold Hid; rw [HD2.out, if_neg hlt, if_neg heq]
    have p1 : w.cell? ⟨m, 2 + k * 2, none⟩ = some (.int .i64 (s.cl k).1) := (hm.box.cell _).trans e1
    have ht := mtake_any base m h tv s.cl s.cs s.tk x _ hmW hcW h41 htk
    unfold TakePost at ht
    have HT := Lib.hid ht
    have HCW := Lib.hid (Chg.of_below (F := MMine base w) ((Below.refl w.heap.size w).alloc (Nat.le_refl _) (.cells #[.int .i64 x.kind, .int .i64 x.group, .int .i64 x.shard] 38)))
    generalize (s.cl k).1 = q at *
    generalize doS s.cs x = rr at *
    obtain ⟨cs', e'⟩ := rr
    clear hxW hm hc hmW hcW e1 e2 HD2 heq hlt ht HBAD
    simp only at HF HT
    go_enter Tryz.func11, Tryz.ntmps11
    go_wp2_with fail
    refine HT.out.mono ?_
    rintro e w2 ⟨tv', rfl, hm2, hc2, hch⟩
    obtain ⟨f1, f2⟩ := moot_num h tv' s.cl k hk
    have p1 : w2.cell? ⟨m, 2 + k * 2, none⟩ = some (.int .i64 (s.cl k).1) := (hm2.box.cell _).trans f1
    have p2 : w2.cell? ⟨m, 2 + k * 2 + 1, none⟩ = some (.int .i64 (s.cl k).2) := (hm2.box.cell _).trans f2
    have g1 := hm2.box.frozen (2 + k * 2)
    have g2 := hm2.box.frozen (2 + k * 2 + 1)
    have HM := Lib.hid hm2
    have HC := Lib.hid hc2
    have HCH := Lib.hid (mm_trans HCW.out hch)
    have HST := Lib.hid (moot_set h tv' s.cl k hk n e')
    clear hm2 hc2 hch f1 f2 HT
    go_wp2_with fail
    refine bodyPost_ret (v := .tuple #[.int .i64 e', .bool true, .int .i64 0]) (by simp [results, Tryz.results11, go_sem]) rfl ?_
    rw [HF.out]
    have hcg : Chg (fun i => i = m) w2 ((w2.setCell ⟨m, 2 + k * 2, none⟩ (.int .i64 n)).setCell ⟨m, 2 + k * 2 + 1, none⟩ (.int .i64 e')) := ((Chg.refl (fun i => i = m) w2).setCell (p := ⟨m, 2 + k * 2, none⟩) (fun _ => rfl) _).setCell (p := ⟨m, 2 + k * 2 + 1, none⟩) (fun _ => rfl) _
    refine ⟨rfl, ⟨h, tv', ⟨?_, hcg.owns HM.out.row (fun g hg e => own_blk_ne HM.out.row HM.out.box (by decide) (by rw [hg, e])), HM.out.hm, HM.out.hh⟩, HC.out.moot hcg (fun i hi e => ⟨_, _, e ▸ HM.out.box, .inl rfl⟩)⟩, mm_trans HCH.out (hcg.mono (fun i hi e => by subst e; exact ⟨HM.out.hm, _, _, HM.out.box, .inr (.inr (.inl rfl))⟩))⟩
    have := (HM.out.box.set_ (2 + k * 2) (.int .i64 n)).set_ (2 + k * 2 + 1) (.int .i64 e')
    rw [HST.out] at this
    exact this

end Go.Proofs.YtijacbnoemjgcaaGreatDoor
