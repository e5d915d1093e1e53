/- The moot's Do, with the blocks that it writes named. -/
import Derived.Test.YtijacbnoemjgcaaGreatDoorPb29
import Derived.Test.YtijacbnoemjgcaaGreatDoorPb2
import Derived.Test.YtijacbnoemjgcaaGreatDoorPb24
set_option linter.unusedVariables false
set_option linter.unusedSimpArgs false
set_option linter.unnecessarySimpa false
namespace Go.Proofs.YtijacbnoemjgcaaGreatDoor
open Go.RowKit Go.Shelf

def MdF (base : Nat) (w : World) (m h : Nat) (v tv : Value) (r : (Int × Bool × Int) × Mt) (e : Ending) (w' : World) : Prop :=
  ∃ v' tv' ps', e = .returned (.tuple #[.int .i64 r.1.1, .bool r.1.2.1, .int .i64 r.1.2.2]) ∧ MtAt base w' m h v' tv' ps' r.2.tk r.2.cl ∧ ps'.map (·.1) = r.2.cs ∧ Chg (MFoot m h v tv) w w' ∧ (∀ g, v'.ownBlock = some g → v.ownBlock = some g ∨ w.heap.size ≤ g) ∧ (∀ g, tv'.ownBlock = some g → tv.ownBlock = some g ∨ w.heap.size ≤ g)
theorem MtAt.below {base : Nat} {w w' : World} {m h : Nat} {v tv : Value} {ps : List CfgV} {tk : List Cmd} {cl : Cls} (hp : MtAt base w m h v tv ps tk cl) (hb : Below w.heap.size w w') : MtAt base w' m h v tv ps tk cl := ⟨hp.mp.below hb, hp.ch.below hb⟩

set_option maxHeartbeats 4000000 in
set_option maxRecDepth 100000 in
theorem mdo_fine (base m h : Nat) (v tv : Value) (ps : List CfgV) (s : Mt) (c n : Int) (x : Cmd) (w : World) (hp : MtAt base w m h v tv ps s.tk s.cl) (hcs : ps.map (·.1) = s.cs) (h41 : s.cs.length ≤ 41) (htk : s.tk.length ≤ 1000) :
    Calls Tryz.prog 11 #[.pointer (some ⟨m, 0, none⟩), .int .i64 c, .int .i64 n, .agg #[.int .i64 x.kind, .int .i64 x.group, .int .i64 x.shard]] w (MdF base w m h v tv (mdS s c n x)) := by
  have HCS := Lib.hid hcs
  have hb0 : Below w.heap.size w (w.alloc (.cells #[.int .i64 x.kind, .int .i64 x.group, .int .i64 x.shard] 38)) := (Below.refl _ w).alloc (Nat.le_refl _) _
  have HBAD : Hid (∃ v' tv' ps', MtAt base (w.alloc (.cells #[.int .i64 x.kind, .int .i64 x.group, .int .i64 x.shard] 38)) m h v' tv' ps' s.tk s.cl ∧ ps'.map (·.1) = s.cs ∧ Chg (MFoot m h v tv) w (w.alloc (.cells #[.int .i64 x.kind, .int .i64 x.group, .int .i64 x.shard] 38)) ∧ (∀ g, v'.ownBlock = some g → v.ownBlock = some g ∨ w.heap.size ≤ g) ∧ (∀ g, tv'.ownBlock = some g → tv.ownBlock = some g ∨ w.heap.size ≤ g)) := ⟨v, tv, ps, hp.below hb0, hcs, Chg.of_below hb0, fun g hg => .inl hg, fun g hg => .inl hg⟩
  have HD : Hid (mdS s c n x = if badA c n = true then ((0, false, 1), s) else if n < (s.cl c.toNat).1 then ((0, false, 6), s) else if n = (s.cl c.toNat).1 then (((s.cl c.toNat).2, false, 0), s) else (((doS s.cs x).2, true, 0), ⟨(doS s.cs x).1, tkS s.cs s.tk x, upd s.cl c.toNat (n, (doS s.cs x).2)⟩)) := rfl
  have hxW : Blk (w.alloc (.cells #[.int .i64 x.kind, .int .i64 x.group, .int .i64 x.shard] 38)) w.heap.size 38 #[.int .i64 x.kind, .int .i64 x.group, .int .i64 x.shard] := Blk.new w _ _
  by_cases c0 : c < 0
  · have HF : Hid (mdS s c n x = ((0, false, 1), s)) := by unfold Hid; rw [HD.out, if_pos (by simp [badA, c0])]
    clear hxW hb0 HD hp
    go_enter Tryz.func11, Tryz.ntmps11
    go_wp2_with fail
    refine bodyPost_ret (v := .tuple #[.int .i64 0, .bool false, .int .i64 1]) (by simp [results, Tryz.results11, go_sem]) rfl ?_
    rw [HF.out]
    obtain ⟨v', tv', ps', hq⟩ := HBAD.out
    exact ⟨v', tv', ps', rfl, hq⟩
  by_cases c8 : 8 ≤ c
  · have HF : Hid (mdS s c n x = ((0, false, 1), s)) := by unfold Hid; rw [HD.out, if_pos (by simp [badA, c8])]
    have c0' : decide (c < 0) = false := by rw [decide_eq_false_iff_not]; omega
    clear hxW hb0 HD hp c0
    go_enter Tryz.func11, Tryz.ntmps11
    go_wp2_with fail
    refine bodyPost_ret (v := .tuple #[.int .i64 0, .bool false, .int .i64 1]) (by simp [results, Tryz.results11, go_sem]) rfl ?_
    rw [HF.out]
    obtain ⟨v', tv', ps', hq⟩ := HBAD.out
    exact ⟨v', tv', ps', rfl, hq⟩
  have c0' : decide (c < 0) = false := by rw [decide_eq_false_iff_not]; omega
  have c8' : decide (8 ≤ c) = false := by rw [decide_eq_false_iff_not]; omega
  by_cases n1 : n < 1
  · have HF : Hid (mdS s c n x = ((0, false, 1), s)) := by unfold Hid; rw [HD.out, if_pos (by simp [badA, n1])]
    clear hxW hb0 HD hp c0 c8
    go_enter Tryz.func11, Tryz.ntmps11
    go_wp2_with fail
    refine bodyPost_ret (v := .tuple #[.int .i64 0, .bool false, .int .i64 1]) (by simp [results, Tryz.results11, go_sem]) rfl ?_
    rw [HF.out]
    obtain ⟨v', tv', ps', hq⟩ := HBAD.out
    exact ⟨v', tv', ps', rfl, hq⟩
  have n1' : decide (n < 1) = false := by rw [decide_eq_false_iff_not]; omega
  by_cases n2 : 1099511627776 < n
  · have HF : Hid (mdS s c n x = ((0, false, 1), s)) := by unfold Hid; rw [HD.out, if_pos (by simp [badA, n2])]
    clear hxW hb0 HD hp c0 c8 n1
    go_enter Tryz.func11, Tryz.ntmps11
    go_wp2_with fail
    refine bodyPost_ret (v := .tuple #[.int .i64 0, .bool false, .int .i64 1]) (by simp [results, Tryz.results11, go_sem]) rfl ?_
    rw [HF.out]
    obtain ⟨v', tv', ps', hq⟩ := HBAD.out
    exact ⟨v', tv', ps', rfl, hq⟩
  have n2' : decide (1099511627776 < n) = false := by rw [decide_eq_false_iff_not]; omega
  obtain ⟨k, rfl⟩ : ∃ k : Nat, c = (k : Int) := ⟨c.toNat, by omega⟩
  have hk : k < 8 := by omega
  have HD2 : Hid (mdS s k n x = if n < (s.cl k).1 then ((0, false, 6), s) else if n = (s.cl k).1 then (((s.cl k).2, false, 0), s) else (((doS s.cs x).2, true, 0), ⟨(doS s.cs x).1, tkS s.cs s.tk x, upd s.cl k (n, (doS s.cs x).2)⟩)) := by
    unfold Hid; rw [HD.out, if_neg (by simp [badA, c0', c8', n1', n2'] <;> omega)]; rfl
  obtain ⟨hm, hc⟩ := hp
  have hmW := hm.below hb0
  have hcW := hc.below hb0
  have hmb : m < w.heap.size := hm.box.lt
  obtain ⟨e1, e2⟩ := moot_num h tv s.cl k hk
  have hk0 : (0 : Int) ≤ (k : Int) := by omega
  have hk8 : (k : Int) < 8 := by omega
  have HPN : Hid (s.cl k = (s.cl k)) := rfl
  clear hb0 HD c0 c8 n1 n2
  by_cases hlt : n < (s.cl k).1
  · have HF : Hid (mdS s k n x = ((0, false, 6), s)) := by unfold Hid; rw [HD2.out, if_pos hlt]
    have p1 : w.cell? ⟨m, 2 + k * 2, none⟩ = some (.int .i64 (s.cl k).1) := (hm.box.cell _).trans e1
    generalize (s.cl k).1 = q at *
    clear hxW hm hc hmW hcW e1 e2 HD2
    go_enter Tryz.func11, Tryz.ntmps11
    go_wp2_with fail
    refine bodyPost_ret (v := .tuple #[.int .i64 0, .bool false, .int .i64 6]) (by simp [results, Tryz.results11, go_sem]) rfl ?_
    rw [HF.out]
    obtain ⟨v', tv', ps', hq⟩ := HBAD.out
    exact ⟨v', tv', ps', rfl, hq⟩
  have hlt' : decide (n < (s.cl k).1) = false := by rw [decide_eq_false_iff_not]; exact hlt
  by_cases heq : n = (s.cl k).1
  · have HF : Hid (mdS s k n x = (((s.cl k).2, false, 0), s)) := by unfold Hid; rw [HD2.out, if_neg hlt, if_pos heq]
    have p1 : w.cell? ⟨m, 2 + k * 2, none⟩ = some (.int .i64 (s.cl k).1) := (hm.box.cell _).trans e1
    have p2 : w.cell? ⟨m, 2 + k * 2 + 1, none⟩ = some (.int .i64 (s.cl k).2) := (hm.box.cell _).trans e2
    have heq' : (n == (s.cl k).1) = true := by simpa using heq
    generalize (s.cl k).1 = q at *
    generalize (s.cl k).2 = a at *
    clear hxW hm hc hmW hcW e1 e2 HD2 heq hlt
    go_enter Tryz.func11, Tryz.ntmps11
    go_wp2_with fail
    refine bodyPost_ret (v := .tuple #[.int .i64 a, .bool false, .int .i64 0]) (by simp [results, Tryz.results11, go_sem]) rfl ?_
    rw [HF.out]
    obtain ⟨v', tv', ps', hq⟩ := HBAD.out
    exact ⟨v', tv', ps', rfl, hq⟩
  · have heq' : (n == (s.cl k).1) = false := by simpa using heq
    have HF : Hid (mdS s k n x = (((doS s.cs x).2, true, 0), ⟨(doS s.cs x).1, tkS s.cs s.tk x, upd s.cl k (n, (doS s.cs x).2)⟩)) := by unfold Hid; rw [HD2.out, if_neg hlt, if_neg heq]
    have p1 : w.cell? ⟨m, 2 + k * 2, none⟩ = some (.int .i64 (s.cl k).1) := (hm.box.cell _).trans e1
    have hps41 : ps.length ≤ 41 := by rw [← hcs, List.length_map] at h41; exact h41
    have ht := mtake_fine base m h v tv s.cl ps s.tk x _ hmW hcW hps41 htk
    unfold TakeF at ht
    rw [hcs] at ht
    have HT := Lib.hid ht
    have HCW := Lib.hid (Chg.of_below (F := MFoot m h v tv) ((Below.refl w.heap.size w).alloc (Nat.le_refl _) (.cells #[.int .i64 x.kind, .int .i64 x.group, .int .i64 x.shard] 38)))
    generalize (s.cl k).1 = q at *
    generalize doS s.cs x = rr at *
    obtain ⟨cs', e'⟩ := rr
    clear hxW hm hc hmW hcW e1 e2 HD2 heq hlt ht HBAD hps41
    simp only at HF HT
    go_enter Tryz.func11, Tryz.ntmps11
    go_wp2_with fail
    refine HT.out.mono ?_
    rintro e w2 ⟨v', tv', ps', rfl, ⟨hm2, hc2⟩, hps2, hch, hlv, hlt2⟩
    have HPS := Lib.hid hps2
    have hsz := HCW.out.size
    have HLV : Hid (∀ g, v'.ownBlock = some g → v.ownBlock = some g ∨ w.heap.size ≤ g) := fun g hg => (hlv g hg).imp id (fun h => Nat.le_trans hsz h)
    have HLT : Hid (∀ g, tv'.ownBlock = some g → tv.ownBlock = some g ∨ w.heap.size ≤ g) := fun g hg => (hlt2 g hg).imp id (fun h => Nat.le_trans hsz h)
    obtain ⟨f1, f2⟩ := moot_num h tv' s.cl k hk
    have p1 : w2.cell? ⟨m, 2 + k * 2, none⟩ = some (.int .i64 (s.cl k).1) := (hm2.box.cell _).trans f1
    have p2 : w2.cell? ⟨m, 2 + k * 2 + 1, none⟩ = some (.int .i64 (s.cl k).2) := (hm2.box.cell _).trans f2
    have g1 := hm2.box.frozen (2 + k * 2)
    have g2 := hm2.box.frozen (2 + k * 2 + 1)
    have HM := Lib.hid hm2
    have HC := Lib.hid hc2
    have HCH := Lib.hid (HCW.out.trans hch (fun i hi hF => hF))
    have HST := Lib.hid (moot_set h tv' s.cl k hk n e')
    clear hm2 hc2 hch f1 f2 HT hps2 hlv hlt2 hsz
    go_wp2_with fail
    refine bodyPost_ret (v := .tuple #[.int .i64 e', .bool true, .int .i64 0]) (by simp [results, Tryz.results11, go_sem]) rfl ?_
    rw [HF.out]
    have hcg : Chg (fun i => i = m) w2 ((w2.setCell ⟨m, 2 + k * 2, none⟩ (.int .i64 n)).setCell ⟨m, 2 + k * 2 + 1, none⟩ (.int .i64 e')) := ((Chg.refl (fun i => i = m) w2).setCell (p := ⟨m, 2 + k * 2, none⟩) (fun _ => rfl) _).setCell (p := ⟨m, 2 + k * 2 + 1, none⟩) (fun _ => rfl) _
    refine ⟨v', tv', ps', rfl, ⟨⟨?_, hcg.owns HM.out.row (fun g hg e => own_blk_ne HM.out.row HM.out.box (by decide) (by rw [hg, e])), HM.out.hm, HM.out.hh⟩, HC.out.moot hcg (fun i hi e => ⟨_, _, e ▸ HM.out.box, .inl rfl⟩)⟩, HPS.out, HCH.out.trans hcg (fun i hi e => .inl e), HLV.out, HLT.out⟩
    have := (HM.out.box.set_ (2 + k * 2) (.int .i64 n)).set_ (2 + k * 2 + 1) (.int .i64 e')
    rw [HST.out] at this
    exact this

end Go.Proofs.YtijacbnoemjgcaaGreatDoor

namespace Go.Proofs.YtijacbnoemjgcaaGreatDoor
open Go.Lib

/-- Numbers as a list's text. -/
def lstB (l : List Int) : Bs := packB (l.map itoa)
/-- The numbers of a list of texts, if each is one. -/
def toNums : List Bs → Option (List Int)
  | [] => some []
  | s :: l => if (toNumB s).2 = 0 then (toNums l).map ((toNumB s).1 :: ·) else none
/-- The numbers of a text, and an error. -/
def listedB (t : Bs) : List Int × Int :=
  if (unpackB t).2 = 0 then (match toNums (unpackB t).1 with
    | some l => (l, 0)
    | none => ([], 4)) else ([], 4)
theorem toNum_zero' (s : Bs) (h : (toNumB s).2 = 0) : itoa (toNumB s).1 = s := by
  rcases toNum_cases s with e | ⟨_, e⟩
  · rw [e] at h; simp at h
  · exact e
theorem toNums_itoa (l : List Int) (h : ∀ n ∈ l, -9223372036854775808 ≤ n ∧ n ≤ 9223372036854775807) : toNums (l.map itoa) = some l := by
  induction l with
  | nil => rfl
  | cons n l ih =>
    obtain ⟨h0, h1⟩ := h n (by simp)
    rw [List.map_cons, toNums, toNum_itoa n h0 h1, ih (fun x hx => h x (by simp [hx]))]
    rfl
theorem toNums_some : ∀ (l : List Bs) (ns : List Int), toNums l = some ns → ns.map itoa = l
  | [], ns, h => by simp [toNums] at h; subst h; rfl
  | s :: l, ns, h => by
    rw [toNums] at h
    split at h
    · rename_i h0
      cases hl : toNums l with
      | none => rw [hl] at h; simp at h
      | some ms =>
        rw [hl] at h
        simp at h
        subst h
        rw [List.map_cons, toNum_zero' s h0, toNums_some l ms hl]
    · cases h
theorem toNums_take (l : List Bs) (k : Nat) (hk : k < l.length) (ns : List Int) (h : toNums (l.take k) = some ns) :
    toNums (l.take (k + 1)) = if (toNumB l[k]).2 = 0 then some (ns ++ [(toNumB l[k]).1]) else none := by
  induction l generalizing k ns with
  | nil => simp at hk
  | cons s l ih =>
    cases k with
    | zero =>
      simp [toNums] at h
      subst h
      simp only [List.take_succ_cons, List.take_zero, toNums, List.getElem_cons_zero]
      split <;> rfl
    | succ k =>
      rw [List.take_succ_cons, toNums] at h
      rw [List.take_succ_cons, toNums, List.getElem_cons_succ]
      split at h
      · rename_i h0
        cases hl : toNums (l.take k) with
        | none => rw [hl] at h; simp at h
        | some ms =>
          rw [hl] at h
          simp at h
          subst h
          rw [if_pos h0, ih k (by simpa using hk) ms hl]
          split <;> simp
      · cases h
theorem toNums_none (l : List Bs) (k : Nat) (hk : k < l.length) (h : ¬ (toNumB l[k]).2 = 0) : toNums l = none := by
  induction l generalizing k with
  | nil => simp at hk
  | cons s l ih =>
    rw [toNums]
    cases k with
    | zero => rw [if_neg (by simpa using h)]
    | succ k =>
      rw [ih k (by simpa using hk) (by simpa using h)]
      split <;> rfl
theorem packB_mem (l : List Bs) (s : Bs) (h : s ∈ l) : s.length ≤ (packB l).length := by
  induction l with
  | nil => cases h
  | cons a l ih =>
    rw [packB_cons]
    simp only [List.length_append, List.length_cons]
    rcases List.mem_cons.1 h with rfl | h
    · omega
    · have := ih h; omega
theorem packB_cnt (l : List Bs) : l.length ≤ (packB l).length := by
  induction l with
  | nil => simp
  | cons a l ih => rw [packB_cons]; simp only [List.length_append, List.length_cons]; omega
/-- The texts of a text are no longer than it. -/
theorem unpackB_small (t : Bs) : (unpackB t).1.length ≤ t.length ∧ ∀ s ∈ (unpackB t).1, s.length ≤ t.length := by
  unfold unpackB
  cases hu : unpackO t with
  | none => simp
  | some l =>
    have hpc := (pack_unpack t.length t l (Nat.le_refl _) hu).1
    show l.length ≤ t.length ∧ ∀ s ∈ l, s.length ≤ t.length
    rw [← hpc]
    exact ⟨packB_cnt l, fun s hs => packB_mem l s hs⟩

end Go.Proofs.YtijacbnoemjgcaaGreatDoor

namespace Go.Proofs.YtijacbnoemjgcaaGreatDoor
open Go.RowKit Go.Shelf

structure Rul where
  client : Int
  number : Int
  x : Cmd
  err : Int
def Rul.cells (r : Rul) : List Value := [.int .i64 r.client, .int .i64 r.number, .int .i64 r.x.kind, .int .i64 r.x.group, .int .i64 r.x.shard, .int .i64 r.err]
def cellsU (l : List Rul) : List Value := l.flatMap Rul.cells
/-- The configurations behind the rulings cs, and the place of the first one that is answered otherwise (-1: none). -/
def judgeS (cs : List Cfg) : List Rul → Nat → List Cfg × Int
  | [], _ => (cs, -1)
  | r :: l, i => if (doS cs r.x).2 ≠ r.err then ((doS cs r.x).1, (i : Int)) else judgeS (doS cs r.x).1 l (i + 1)

theorem judge_drop (cs : List Cfg) (l : List Rul) (k : Nat) (hk : k < l.length) : judgeS cs (l.drop k) k = if (doS cs l[k].x).2 ≠ l[k].err then ((doS cs l[k].x).1, (k : Int)) else judgeS (doS cs l[k].x).1 (l.drop (k + 1)) (k + 1) := by
  rw [List.drop_eq_getElem_cons hk]; rfl
theorem cellsU_length (l : List Rul) : (cellsU l).length = l.length * 6 := by
  induction l with
  | nil => rfl
  | cons p l ih => rw [cellsU, List.flatMap_cons, List.length_append]; unfold cellsU at ih; rw [ih]; simp [Rul.cells]; omega
theorem cellsU_append (a b : List Rul) : cellsU (a ++ b) = cellsU a ++ cellsU b := by simp [cellsU]
theorem cellsU_get (l : List Rul) (k : Nat) (hk : k < l.length) (i : Nat) (hi : i < 6) : (cellsU l)[k * 6 + i]? = (Rul.cells l[k])[i]? := by
  induction l generalizing k with
  | nil => simp at hk
  | cons q l ih =>
    have hq : (Rul.cells q).length = 6 := by simp [Rul.cells]
    rw [cellsU, List.flatMap_cons]
    cases k with
    | zero => rw [Nat.zero_mul, Nat.zero_add, List.getElem?_append_left (by omega)]; rfl
    | succ k =>
      rw [List.getElem?_append_right (by omega), hq, show (k + 1) * 6 + i - 6 = k * 6 + i by omega]
      exact ih k (by simpa using hk)
theorem rd_rul {w : World} {B : Nat} {v : Value} {l : List Rul} (h : Rd w B 6 v l.length (cellsU l)) {k : Nat} (hk : k < l.length) :
    ∃ g off c, v = .slice (some ⟨g, off, none⟩) l.length c ∧ g < B ∧ ∀ i, i < 6 → ∀ u, (Rul.cells l[k])[i]? = some u → w.cell? ⟨g, off + (k * 6 + i), none⟩ = some u := by
  obtain ⟨_, A, c, rfl, hnc, h0⟩ := h
  rcases h0 with h0 | ⟨g, off, rfl, hg, hc⟩
  · omega
  · exact ⟨g, off, c, rfl, hg, fun i hi u hu => hc _ _ ((cellsU_get l k hk i hi).trans hu)⟩

end Go.Proofs.YtijacbnoemjgcaaGreatDoor
