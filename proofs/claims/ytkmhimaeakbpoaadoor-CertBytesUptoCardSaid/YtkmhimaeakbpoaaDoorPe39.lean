/- The law's own large, ref and same. -/
import Derived.Test.YtkmhimaeakbpoaaDoorPe34
import Derived.Test.YtkmhimaeakbpoaaDoorPe38
set_option linter.unusedVariables false
set_option linter.unusedSimpArgs false
set_option linter.unnecessarySimpa false
namespace Go.Proofs.YtkmhimaeakbpoaaDoor
open Go.RowKit Go.Shelf

def largeS (c : Crt) : Bool := decide (40 < c.tags.length) || decide (20000 < c.t.length)
set_option maxHeartbeats 1000000 in
set_option maxRecDepth 100000 in
theorem large_any (c : Crt) (A : Option Addr) (cc : Nat) (w : World) : Calls Tryd.prog 8 #[.agg #[.string ⟨c.t.toArray⟩, .int .i64 c.g, .slice A c.tags.length cc]] w fun e w' => e = .returned (.bool (largeS c)) ∧ Below w.heap.size w w' := by
  have hb := (Below.refl w.heap.size w).alloc (Nat.le_refl _) (.cells #[.string ⟨c.t.toArray⟩, .int .i64 c.g, .slice A c.tags.length cc] 24)
  by_cases h : 40 < c.tags.length
  · have hi : (40 : Int) < (c.tags.length : Int) := by omega
    have HE : Hid (largeS c = true) := by unfold Hid largeS; rw [decide_eq_true h]; rfl
    clear h
    go_enter Tryd.func8, Tryd.ntmps8
    go_wp2
    go_ret
    exact ⟨by rw [HE.out]; rfl, hb⟩
  · have hi : decide ((40 : Int) < (c.tags.length : Int)) = false := by rw [decide_eq_false_iff_not]; omega
    have HE : Hid (largeS c = decide ((20000 : Int) < (c.t.length : Int))) := by
      unfold Hid largeS
      rw [decide_eq_false h, Bool.false_or]
      by_cases h2 : 20000 < c.t.length
      · rw [decide_eq_true h2, decide_eq_true (by omega)]
      · rw [decide_eq_false h2, decide_eq_false (by omega)]
    clear h
    go_enter Tryd.func8, Tryd.ntmps8
    go_wp2
    go_ret
    exact ⟨by rw [HE.out]; rfl, hb⟩

theorem rtag_info : (Tryd.prog.info? 75).map (fun i => (i.zero, i.size, i.bytes)) = some (some (.agg #[.int .i64 0, .string ⟨#[]⟩]), 2, 24) := by kernel_rfl
/-- The reference's certificate while it is copied. -/
structure RefP (w : World) (c : Crt) (k : Nat) (A' : Option Addr) (c' : Nat) (wr : World) : Prop where
  box : Blk wr (w.heap.size + 1 + 1) 36 #[.string ⟨c.t.toArray⟩, .int .i64 c.g, .slice A' k c']
  zero : Blk wr (w.heap.size + 1) 36 #[.string ⟨#[]⟩, .int .i64 0, .slice none 0 0]
  own : wr.ownsRow w.heap.size 75 2 (.slice A' k c') k (cellsT (c.tags.take k))
  bel : Below w.heap.size w wr
def RefOut (w : World) (c : Crt) (e : Ending) (w' : World) : Prop :=
  ∃ A cc, e = .returned (.agg #[.string ⟨c.t.toArray⟩, .int .i64 c.g, .slice A c.tags.length cc]) ∧ w'.ownsRow w.heap.size 75 2 (.slice A c.tags.length cc) c.tags.length (cellsT c.tags) ∧ Below w.heap.size w w'
theorem own_far_set {w1 : World} {b base i : Nat} {e t : TypeId} {cs : Array Value} {v v0 : Value} {n size : Nat} {xs : List Value} (h : Blk w1 b t cs) (hne : e ≠ t) (ho : w1.ownsRow base e size v n xs) :
    (w1.setCell ⟨b, i, none⟩ v0).ownsRow base e size v n xs :=
  ((Chg.refl (fun i => i = b) w1).setCell (p := ⟨b, i, none⟩) (fun _ => rfl) v0).owns ho (fun g hg e => own_blk_ne ho h hne (by rw [hg, e]))
theorem RefP.push {w wr w4 : World} {c : Crt} {k : Nat} {A' A2 : Option Addr} {c' c2 : Nat} {o1 o2 : Obj} (h : RefP w c k A' c' wr) (hk : k < c.tags.length) (hg : ((wr.alloc o1).alloc o2).grownBy w4 (Value.slice A' k c').ownBlock)
    (ho : w4.ownsRow w.heap.size 75 2 (.slice A2 (k + 1) c2) (k + 1) (cellsT (c.tags.take k) ++ tagC c.tags[k])) :
    RefP w c (k + 1) A2 c2 (w4.setCell ⟨w.heap.size + 1 + 1, 2, none⟩ (.slice A2 (k + 1) c2)) := by
  have hbx : Blk w4 (w.heap.size + 1 + 1) 36 #[.string ⟨c.t.toArray⟩, .int .i64 c.g, .slice A' k c'] := ((h.box.alloc o1).alloc o2).grown hg (fun e => own_blk_ne h.own h.box (by decide) e.symm)
  have hzx : Blk w4 (w.heap.size + 1) 36 #[.string ⟨#[]⟩, .int .i64 0, .slice none 0 0] := ((h.zero.alloc o1).alloc o2).grown hg (fun e => own_blk_ne h.own h.zero (by decide) e.symm)
  have hsz := h.bel.size
  have hb4 : Below w.heap.size w w4 := h.bel.trans ((((Below.refl w.heap.size wr).alloc hsz o1).alloc (by simp; omega) o2).grown hg (by simp; omega) (fun g e => (h.own.lt g e).1))
  refine ⟨hbx.set_ 2 _, hzx.far (p := ⟨w.heap.size + 1 + 1, 2, none⟩) (by simp) _, ?_, hb4.setCell (by simp; omega) _⟩
  have := own_far_set (i := 2) (v0 := .slice A2 (k + 1) c2) hbx (by decide) ho
  rw [List.take_succ_eq_append_getElem hk, cellsT_append]
  simpa [cellsT] using this

set_option maxHeartbeats 8000000 in
set_option maxRecDepth 100000 in
theorem ref_any (c : Crt) (v : Value) (w : World) (B : Nat) (hB : B ≤ w.heap.size) (hr : Rd w B 2 v c.tags.length (cellsT c.tags)) (hm : c.tags.length ≤ 1048576) :
    Calls Tryd.prog 12 #[.agg #[.string ⟨c.t.toArray⟩, .int .i64 c.g, v]] w (RefOut w c) := by
  obtain ⟨A, cc, rfl⟩ : ∃ A cc, v = .slice A c.tags.length cc := by obtain ⟨_, A, cc, rfl, _⟩ := hr; exact ⟨_, _, rfl⟩
  have HR := Lib.hid (hr.more hB)
  obtain ⟨i0, hi0, hz0, hz1, hz2⟩ := info_parts rtag_info
  clear hr
  have hs1 : (w.alloc (.cells #[.string ⟨c.t.toArray⟩, .int .i64 c.g, .slice A c.tags.length cc] 24)).heap.size = w.heap.size + 1 := by simp
  have hs2 : ((w.alloc (.cells #[.string ⟨c.t.toArray⟩, .int .i64 c.g, .slice A c.tags.length cc] 24)).alloc (.cells #[.string ⟨#[]⟩, .int .i64 0, .slice none 0 0] 36)).heap.size = w.heap.size + 1 + 1 := by simp
  have hst : RefP w c 0 none 0 (((w.alloc (.cells #[.string ⟨c.t.toArray⟩, .int .i64 c.g, .slice A c.tags.length cc] 24)).alloc (.cells #[.string ⟨#[]⟩, .int .i64 0, .slice none 0 0] 36)).alloc (.cells #[.string ⟨c.t.toArray⟩, .int .i64 c.g, .slice none 0 0] 36)) := by
    refine ⟨?_, ?_, by rw [List.take_zero]; exact World.ownsRow_nil _ _ _ _, (((Below.refl _ w).alloc (Nat.le_refl _) _).alloc (by simp) _).alloc (by simp; omega) _⟩
    · rw [← hs2]; exact Blk.new _ _ _
    · rw [← hs1]; exact (Blk.new _ _ _).alloc _
  have HST := Lib.hid hst
  clear hst hs1 hs2
  go_enter Tryd.func12, Tryd.ntmps12
  go_wp2_with fail
  go_loopw [14] (fun i wr => ∃ (k : Nat) (A' : Option Addr) (c' : Nat), k ≤ c.tags.length ∧ i = .int .i64 k ∧ Hid (RefP w c k A' c' wr)) (fun i _ => c.tags.length - (intOf i).toNat)
  case atStart => exact ⟨0, none, 0, Nat.zero_le _, rfl, HST.out⟩
  case round =>
    obtain ⟨k, A', c', hk, rfl, HP⟩ := hrel
    clear HST
    by_cases hlt : k < c.tags.length
    · obtain ⟨gb, off, c0, hV, hgb, x0, x1⟩ := rd_tag (HR.out.below HP.out.bel) hlt
      injection hV with hA _ hcc
      subst hA
      clear hcc
      have HPU := Lib.hid (fun (A2 : Option Addr) (c2 : Nat) (o1 o2 : Obj) (w4 : World) (h1 : ((wr.alloc o1).alloc o2).grownBy w4 (Value.slice A' k c').ownBlock) (h2 : w4.ownsRow w.heap.size 75 2 (.slice A2 (k + 1) c2) (k + 1) (cellsT (c.tags.take k) ++ tagC c.tags[k])) => HP.out.push hlt h1 h2)
      have hone : ∀ u ∈ tagC c.tags[k], u.oneCell' = true := by simp [tagC, Value.oneCell']
      have HON := Lib.hid hone
      have b2 : wr.cell? ⟨w.heap.size + 1 + 1, 2, none⟩ = some (.slice A' k c') := HP.out.box.cell 2
      have hb2lt : w.heap.size + 1 + 1 < wr.heap.size := HP.out.box.lt
      have HOWN := Lib.hid HP.out.own
      have HBX := Lib.hid HP.out.box
      have hwsz : w.heap.size ≤ wr.heap.size := HP.out.bel.size
      generalize hpre : cellsT (c.tags.take k) = pre at *
      generalize c.tags[k] = x at *
      obtain ⟨n, s⟩ := x
      simp only at x0 x1
      clear hone HP hpre
      have hnews : ∀ j u, (tagC (n, s))[j]? = some u → ((wr.alloc (.cells #[.int .i64 n, .string ⟨s.toArray⟩] 64)).alloc (.cells #[.int .i64 n, .string ⟨s.toArray⟩] 75)).cell? ((⟨wr.heap.size + 1, 0, none⟩ : Addr).add j) = some u := fun j u hu => by
        have hs : (wr.alloc (.cells #[.int .i64 n, .string ⟨s.toArray⟩] 64)).heap.size = wr.heap.size + 1 := by simp
        rw [add_lit2, Nat.zero_add, ← hs, (Blk.new _ 75 #[.int .i64 n, .string ⟨s.toArray⟩]).cell j]
        simpa [tagC, ← List.getElem?_toArray] using hu
      have HNW := Lib.hid hnews
      have hown2 := (HOWN.out.alloc (.cells #[.int .i64 n, .string ⟨s.toArray⟩] 64)).alloc (.cells #[.int .i64 n, .string ⟨s.toArray⟩] 75)
      have HOW2 := Lib.hid hown2
      have hbx2 := (HBX.out.alloc (.cells #[.int .i64 n, .string ⟨s.toArray⟩] 64)).alloc (.cells #[.int .i64 n, .string ⟨s.toArray⟩] 75)
      have HBX2 := Lib.hid hbx2
      have hbase2 : w.heap.size ≤ ((wr.alloc (.cells #[.int .i64 n, .string ⟨s.toArray⟩] 64)).alloc (.cells #[.int .i64 n, .string ⟨s.toArray⟩] 75)).heap.size := by simp; omega
      have HBS2 := Lib.hid hbase2
      clear hnews hown2 hbx2 hbase2
      go_wp2_with (at_builtin; refine wpList_append_own _ rfl _ _ 34 rfl w.heap.size 75 i0 _ 2 24 Tryd.underlying34 hi0 hz0 hz1 hz2 rfl (by omega) (.slice A' k c') k pre rfl HOW2.out ⟨wr.heap.size + 1, 0, none⟩ 1 1 (tagC (n, s)) rfl rfl HNW.out HON.out (by unfold maxLen; omega) (by omega) HBS2.out ?_; intro v4 w4 hown4 hg4 _; obtain ⟨A4, c4, rfl⟩ := own_shape hown4; have hb4 := HBX2.out.grown hg4 (fun e => own_blk_ne HOWN.out HBX.out (by decide) e.symm); have b4 := hb4.cell 2; have f4 := hb4.frozen 2)
      have hfin := Lib.hid (HPU.out A4 c4 _ _ w4 hg4 hown4)
      clear hown4 hg4 hb4 b4 f4
      go_wp2_with fail
      exact ⟨⟨k + 1, A4, c4, by omega, by simp, hfin.out⟩, by simp [intOf]; omega⟩
    · obtain rfl : k = c.tags.length := by omega
      have HPB := Lib.hid HP.out.box
      have o0 : wr.cell? ⟨w.heap.size + 1 + 1, 0, none⟩ = some (.string ⟨c.t.toArray⟩) := HP.out.box.cell 0
      have o1 : wr.cell? ⟨w.heap.size + 1 + 1, 1, none⟩ = some (.int .i64 c.g) := HP.out.box.cell 1
      have o2 : wr.cell? ⟨w.heap.size + 1 + 1, 2, none⟩ = some (.slice A' c.tags.length c') := HP.out.box.cell 2
      have z0 : wr.cell? ⟨w.heap.size + 1, 0, none⟩ = some (.string ⟨#[]⟩) := HP.out.zero.cell 0
      have z1 : wr.cell? ⟨w.heap.size + 1, 1, none⟩ = some (.int .i64 0) := HP.out.zero.cell 1
      have z2 : wr.cell? ⟨w.heap.size + 1, 2, none⟩ = some (.slice none 0 0) := HP.out.zero.cell 2
      have f0 := HP.out.zero.frozen 0
      have f1 := HP.out.zero.frozen 1
      have f2 := HP.out.zero.frozen 2
      have hown := HP.out.own
      rw [List.take_length] at hown
      have HOW := Lib.hid hown
      clear hown hlt
      go_wp2_with fail
      refine bodyPost_ret (v := .agg #[.string ⟨c.t.toArray⟩, .int .i64 c.g, .slice A' c.tags.length c']) (by simp [results, Tryd.results12, go_sem, z0, z1, z2]) rfl ?_
      exact ⟨A', c', rfl, own_far_set (HP.out.zero.set_ 0 _ |>.set_ 1 _) (by decide) (own_far_set (HP.out.zero.set_ 0 _) (by decide) (own_far_set HP.out.zero (by decide) HOW.out)), below_set3Y HP.out.bel _ _ _ (by omega)⟩

end Go.Proofs.YtkmhimaeakbpoaaDoor
