/- The law's own: ref, same; MootChain, walked. -/
import Derived.Test.YtijacbnoemjgcaaDoorPt34
import Derived.Test.YtijacbnoemjgcaaDoorPt38
set_option linter.unusedVariables false
set_option linter.unusedSimpArgs false
set_option linter.unnecessarySimpa false
namespace Go.Proofs.YtijacbnoemjgcaaDoor
open Go.RowKit Go.Shelf

theorem cfgEqB_is (c d : Cfg) : cfgEqB c d = (c.num == d.num && (ownEq c.o d.o && intsEq c.gs d.gs)) := rfl
set_option maxHeartbeats 1000000 in
set_option maxRecDepth 100000 in
theorem same17_any (c d : Cfg) (A : Option Addr) (cc : Nat) (A2 : Option Addr) (cc2 : Nat) (w : World) (B : Nat) (hB : B ≤ w.heap.size) (hr : Rd w B 1 (.slice A c.gs.length cc) c.gs.length (ints c.gs)) (hq : Rd w B 1 (.slice A2 d.gs.length cc2) d.gs.length (ints d.gs)) (hm : c.gs.length ≤ 1000) (hm2 : d.gs.length ≤ 1000) :
    Calls Tryd.prog 14 #[.agg #[.int .i64 c.num, .slice A c.gs.length cc, .int .i64 c.o.a, .int .i64 c.o.b, .int .i64 c.o.c, .int .i64 c.o.d], .agg #[.int .i64 d.num, .slice A2 d.gs.length cc2, .int .i64 d.o.a, .int .i64 d.o.b, .int .i64 d.o.c, .int .i64 d.o.d]] w fun e w' => e = .returned (.bool (cfgEqB c d)) ∧ Below w.heap.size w w' := by
  have HR : Hid (∀ o o', Rd ((w.alloc o).alloc o') B 1 (.slice A c.gs.length cc) c.gs.length (ints c.gs)) := fun o o' => hr.below (((Below.refl _ w).alloc hB o).alloc (by simp; omega) o')
  have HQ : Hid (∀ o o', Rd ((w.alloc o).alloc o') B 1 (.slice A2 d.gs.length cc2) d.gs.length (ints d.gs)) := fun o o' => hq.below (((Below.refl _ w).alloc hB o).alloc (by simp; omega) o')
  have hgd : Tryd.prog.eqGuardType Tryd.prog.depth 47 = false := by kernel_rfl
  have HI : Hid (∀ o o', Calls Tryd.prog 26 #[.slice A c.gs.length cc, .slice A2 d.gs.length cc2] ((w.alloc o).alloc o') fun e w' => e = .returned (.bool (intsEq c.gs d.gs)) ∧ Below ((w.alloc o).alloc o').heap.size ((w.alloc o).alloc o') w') := fun o o' => ints_any _ _ c.gs d.gs _ B (HR.out _ _) (HQ.out _ _) (by omega) (by omega)
  have HE := Lib.hid (cfgEqB_is c d)
  clear hr hq
  cases h1 : (c.num == d.num) with
  | false =>
    have HF : Hid (cfgEqB c d = false) := by unfold Hid; rw [HE.out, h1]; rfl
    go_enter Tryd.func14, Tryd.ntmps14
    go_wp2_with fail
    go_ret
    rw [HF.out]
    exact ⟨rfl, (((Below.refl _ _).alloc (Nat.le_refl _) _).alloc (by simp) _)⟩
  | true =>
    have heq := fun wx => eql_own c.o d.o wx
    cases h2 : ownEq c.o d.o with
    | false =>
      have HF : Hid (cfgEqB c d = false) := by unfold Hid; rw [HE.out, h1, h2]; rfl
      rw [h2] at heq
      go_enter Tryd.func14, Tryd.ntmps14
      go_wp2_with fail
      go_ret
      rw [HF.out]
      exact ⟨rfl, (((Below.refl _ _).alloc (Nat.le_refl _) _).alloc (by simp) _)⟩
    | true =>
      have HF : Hid (cfgEqB c d = intsEq c.gs d.gs) := by unfold Hid; rw [HE.out, h1, h2]; rfl
      rw [h2] at heq
      generalize intsEq c.gs d.gs = bb at *
      go_enter Tryd.func14, Tryd.ntmps14
      go_wp2_with fail
      refine (HI.out _ _).mono ?_
      rintro e w1 ⟨rfl, hb⟩
      cases bb
      · go_wp2_with fail
        go_ret
        rw [HF.out]
        exact ⟨rfl, (((Below.refl _ _).alloc (Nat.le_refl _) _).alloc (by simp) _).trans (hb.mono (by simp; omega))⟩
      · go_wp2_with fail
        go_ret
        rw [HF.out]
        exact ⟨rfl, (((Below.refl _ _).alloc (Nat.le_refl _) _).alloc (by simp) _).trans (hb.mono (by simp; omega))⟩

theorem cfgEqB_refl (c : Cfg) : cfgEqB c c = true := (cfgEqB_iff c c).2 rfl
set_option maxHeartbeats 1000000 in
set_option maxRecDepth 100000 in
theorem ref17_any (x : Cmd) (w : World) :
    Calls Tryd.prog 9 #[.agg #[.int .i64 x.kind, .int .i64 x.group, .int .i64 x.shard]] w fun e w' => e = .returned (.agg #[.int .i64 x.kind, .int .i64 x.group, .int .i64 x.shard]) ∧ Below w.heap.size w w' := by
  go_enter Tryd.func9, Tryd.ntmps9
  go_wp2_with fail
  refine bodyPost_ret (v := .agg #[.int .i64 x.kind, .int .i64 x.group, .int .i64 x.shard]) (by simp [results, Tryd.results9, go_sem]) rfl ?_
  exact ⟨rfl, ((Below.refl _ _).alloc (Nat.le_refl _) _).alloc (by simp) _⟩
theorem rblkB2 {w1 w2 : World} (h : Below (w1.alloc (.cells #[.int .i64 0, .slice none 0 0, .int .i64 0, .int .i64 0, .int .i64 0, .int .i64 0] 53)).heap.size (w1.alloc (.cells #[.int .i64 0, .slice none 0 0, .int .i64 0, .int .i64 0, .int .i64 0, .int .i64 0] 53)) w2) :
    Blk w2 w1.heap.size 53 (cfgCells 0 (.slice none 0 0) ⟨0, 0, 0, 0⟩) := Blk.below (Blk.new w1 _ _) h (by simp)
theorem mm_rcfg {base : Nat} {w w' : World} {b : Nat} {cs : Array Value} (h : Chg (MMine base w) w w') (hb : Blk w b 53 cs) : Blk w' b 53 cs :=
  hb.chg h (fun hF => by
    obtain ⟨_, t, cs', hb', ht | ht | ht | ht⟩ := hF <;> subst ht
    · exact Blk.ne_ hb hb' (by decide) rfl
    · exact Blk.ne_ hb hb' (by decide) rfl
    · exact Blk.ne_ hb hb' (by decide) rfl
    · exact Blk.ne_ hb hb' (by decide) rfl)
theorem mm_ints {base : Nat} {w w' : World} {base' n : Nat} {v : Value} {xs : List Value} (h : Chg (MMine base w) w w') (ho : w.ownsRow base' 3 1 v n xs) : w'.ownsRow base' 3 1 v n xs :=
  h.owns ho (fun g hg hF => by
    obtain ⟨_, t, cs, hb, ht | ht | ht | ht⟩ := hF <;> subst ht
    · exact own_blk_ne ho hb (by decide) hg
    · exact own_blk_ne ho hb (by decide) hg
    · exact own_blk_ne ho hb (by decide) hg
    · exact own_blk_ne ho hb (by decide) hg)
/-- The configuration c lies at block b, its groups in the slice s. -/
structure CBox (base : Nat) (w : World) (b : Nat) (s : Value) (c : Cfg) : Prop where
  box : Blk w b 53 (cfgCells c.num s c.o)
  own : w.ownsRow base 3 1 s c.gs.length (ints c.gs)
theorem CBox.below {base b : Nat} {w w' : World} {s : Value} {c : Cfg} (h : CBox base w b s c) (hb : Below w.heap.size w w') : CBox base w' b s c := ⟨h.box.below hb h.box.lt, own_below h.own hb⟩
theorem CBox.mm {base base' b : Nat} {w w' : World} {s : Value} {c : Cfg} (h : CBox base w b s c) (hc : Chg (MMine base' w) w w') : CBox base w' b s c := ⟨mm_rcfg hc h.box, mm_ints hc h.own⟩
/-- At the head of the loop over the steps. -/
structure ChAt (w : World) (mm cb : Nat) (k : Nat) (wr : World) (s : Mt) (sv : Value) : Prop where
  hp : Moot w.heap.size wr mm s.cs s.tk s.cl
  hc : CBox w.heap.size wr cb sv (s.cs.getLastD cfg0)
  hb : Below w.heap.size w wr
  hg : Good s.cs
  hl : s.cs.length ≤ 41 ∧ 0 < s.cs.length ∧ s.tk.length ≤ k
  hcb : w.heap.size ≤ cb
theorem getS_in2 (cs : List Cfg) (k : Nat) (hk : k < cs.length) : getS cs (k : Int) = (cs[k], 0) := by
  unfold getS
  rw [if_pos (by omega), Int.toNat_natCast, List.getD_eq_getElem?_getD, List.getElem?_eq_getElem hk]; rfl
theorem good_last {cs : List Cfg} (h : Good cs) (h0 : 0 < cs.length) : getS cs (cs.getLastD cfg0).num = (cs.getLastD cfg0, 0) ∧ (cs.getLastD cfg0).gs.length ≤ 4 ∧ checkB (cs.getLastD cfg0) = true := by
  rw [last_get cs h0]
  have hn := h.2 (cs.length - 1) (by omega)
  have hc := h.1 _ (List.getElem_mem (show cs.length - 1 < cs.length by omega))
  refine ⟨?_, (check_bounds hc).2.2.1, hc⟩
  rw [hn]
  exact getS_in2 cs (cs.length - 1) (by omega)
theorem good_md {s : Mt} (h : Good s.cs) (h0 : 0 < s.cs.length) (c n : Int) (x : Cmd) : Good (mdS s c n x).2.cs := by
  rcases md_ends s c n x with ⟨_, e⟩ | ⟨_, _, e⟩ | ⟨_, _, e⟩ | ⟨_, _, e⟩
  · rw [e]; exact h
  · rw [e]; exact h
  · rw [e]; exact h
  · rw [e]; exact good_do x h h0
theorem doS_taken {cs : List Cfg} {x : Cmd} (h : (doS cs x).2 = 0) : (nextS (cs.getLastD cfg0) x).2 = 0 ∧ (doS cs x).1.getLastD cfg0 = (nextS (cs.getLastD cfg0) x).1 := by
  rw [doS_is] at h ⊢
  by_cases h1 : (nextS (cs.getLastD cfg0) x).2 ≠ 0
  · rw [if_pos h1] at h; exact absurd h h1
  · rw [if_neg h1] at h ⊢
    by_cases h2 : 40 < cs.length
    · rw [if_pos h2] at h; simp at h
    · rw [if_neg h2]; exact ⟨by simpa using h1, by simp⟩
theorem doS_not {cs : List Cfg} {x : Cmd} (h : (doS cs x).2 ≠ 0) : (doS cs x).1 = cs := by
  rw [doS_is] at h ⊢
  by_cases h1 : (nextS (cs.getLastD cfg0) x).2 ≠ 0
  · rw [if_pos h1]
  · rw [if_neg h1] at h ⊢
    by_cases h2 : 40 < cs.length
    · rw [if_pos h2]
    · rw [if_neg h2] at h; simp at h

end Go.Proofs.YtijacbnoemjgcaaDoor
