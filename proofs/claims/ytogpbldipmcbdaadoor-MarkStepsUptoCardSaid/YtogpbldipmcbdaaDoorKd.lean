/- Marks: how they lie; New, Stable, Of; slices.Clone of tags. -/
import Derived.Test.YtogpbldipmcbdaaDoorKc
import Derived.Test.YtogpbldipmcbdaaDoorHa
import Derived.OwnWalk
import Derived.BigQuiet
import Derived.RegionTactic
import Derived.BigRegion
import Derived.Deep.CutRange
import Derived.Deep.DeepCutAuto
set_option linter.unusedVariables false
set_option linter.unusedSimpArgs false
set_option linter.unnecessarySimpa false
namespace Go.Proofs.YtogpbldipmcbdaaDoor
open Go.RowKit Go.Shelf

structure Vot where
  n : Int
  s : Bs
  t : Bs
structure Mks where
  g : Int
  f : Int
  vs : List Vot
  n : Int
  s : Bs
  c : Crt
def Vot.cells (v : Vot) : List Value := [.int .i64 v.n, .string ⟨v.s.toArray⟩, .string ⟨v.t.toArray⟩]
def cellsV (l : List Vot) : List Value := l.flatMap Vot.cells
theorem cellsV_length (l : List Vot) : (cellsV l).length = l.length * 3 := by
  induction l with
  | nil => rfl
  | cons a l ih => simp only [cellsV, List.flatMap_cons, List.length_append, List.length_cons] at ih ⊢; rw [ih]; simp [Vot.cells]; omega
theorem cellsV_get (l : List Vot) (k : Nat) (hk : k < l.length) : (cellsV l)[k * 3]? = some (.int .i64 l[k].n) ∧ (cellsV l)[k * 3 + 1]? = some (.string ⟨l[k].s.toArray⟩) ∧ (cellsV l)[k * 3 + 2]? = some (.string ⟨l[k].t.toArray⟩) := by
  induction l generalizing k with
  | nil => simp at hk
  | cons a l ih =>
    cases k with
    | zero => simp [cellsV, Vot.cells]
    | succ k =>
      have := ih k (by simpa using hk)
      simp only [cellsV, List.flatMap_cons, List.getElem_cons_succ] at this ⊢
      refine ⟨?_, ?_, ?_⟩
      · rw [show (k + 1) * 3 = (Vot.cells a).length + k * 3 by simp [Vot.cells]; omega, List.getElem?_append_right (by omega)]; simpa using this.1
      · rw [show (k + 1) * 3 + 1 = (Vot.cells a).length + (k * 3 + 1) by simp [Vot.cells]; omega, List.getElem?_append_right (by omega)]; simpa using this.2.1
      · rw [show (k + 1) * 3 + 2 = (Vot.cells a).length + (k * 3 + 2) by simp [Vot.cells]; omega, List.getElem?_append_right (by omega)]; simpa using this.2.2
/-- Block B is marks; V is the block of their votes. -/
structure MkAt (w : World) (B V : Nat) (m : Mks) : Prop where
  own : ∃ A c, Blk w B 78 #[.int .i64 m.g, .int .i64 m.f, .slice (some ⟨V, 0, none⟩) m.vs.length m.vs.length, .int .i64 m.n, .string ⟨m.s.toArray⟩, .string ⟨m.c.t.toArray⟩, .int .i64 m.c.g, .slice A m.c.tags.length c] ∧
    w.ownsRow 0 83 2 (.slice A m.c.tags.length c) m.c.tags.length (cellsT m.c.tags)
  vs : Blk w V 81 (cellsV m.vs).toArray
  ok : 0 ≤ m.g ∧ m.g ≤ 4 ∧ 0 ≤ m.f ∧ m.f ≤ 3 ∧ (m.vs.length : Int) = 3 * m.f + 1
section
variable {F : Nat → Prop} {w w' : World} {B V : Nat} {m : Mks}
/-- What stands besides: every block of F is of marks or of votes. -/
def MApart (w : World) (F : Nat → Prop) : Prop := ∀ i, i < w.heap.size → F i → ∃ t cs, Blk w i t cs ∧ t ≠ 83
theorem MkAt.chg (h : MkAt w B V m) (hc : Chg F w w') (ha : MApart w F) (hB : ¬ F B) (hV : ¬ F V) : MkAt w' B V m := by
  obtain ⟨A, c, h1, h2⟩ := h.own
  refine ⟨⟨A, c, h1.chg hc hB, hc.owns h2 (fun g hg hf => ?_)⟩, h.vs.chg hc hV, h.ok⟩
  obtain ⟨t, cs, hb, hne⟩ := ha g (h2.lt g hg).2 hf
  exact own_blk_ne h2 hb (Ne.symm hne) hg
theorem MkAt.below (h : MkAt w B V m) (hb : Below w.heap.size w w') : MkAt w' B V m :=
  h.chg (Chg.of_below (F := fun _ => False) hb) (fun _ _ h => h.elim) (fun h => h) (fun h => h)
end

theorem votes_cell {w : World} {V : Nat} {l : List Vot} (h : Blk w V 81 (cellsV l).toArray) {k : Nat} (hk : k < l.length) :
    w.cell? ⟨V, k * 3, none⟩ = some (.int .i64 l[k].n) ∧ w.cell? ⟨V, k * 3 + 1, none⟩ = some (.string ⟨l[k].s.toArray⟩) ∧ w.cell? ⟨V, k * 3 + 2, none⟩ = some (.string ⟨l[k].t.toArray⟩) := by
  obtain ⟨a, b, c⟩ := cellsV_get l k hk
  exact ⟨(h.cell _).trans (by rw [List.getElem?_toArray]; exact a), (h.cell _).trans (by rw [List.getElem?_toArray]; exact b), (h.cell _).trans (by rw [List.getElem?_toArray]; exact c)⟩
/-- The number of a replica's vote. -/
def ofV (l : List Vot) (no : Int) : Int := if no < 0 then 0 else match l[no.toNat]? with
  | some v => v.n
  | none => 0
theorem ofV_at (l : List Vot) (k : Nat) (hk : k < l.length) : ofV l k = l[k].n := by
  unfold ofV; rw [if_neg (by omega), Int.toNat_natCast, List.getElem?_eq_getElem hk]
theorem ofV_out (l : List Vot) (no : Int) (h : no < 0 ∨ l.length ≤ no.toNat) : ofV l no = 0 := by
  unfold ofV
  split
  · rfl
  · rw [List.getElem?_eq_none (by omega)]
theorem vote_info : (Tryd.prog.info? 81).map (fun i => (i.zero, i.size, i.bytes)) = some (some (.agg #[.int .i64 0, .string ⟨#[]⟩, .string ⟨#[]⟩]), 3, 40) := by kernel_rfl
theorem vote_make (n : Int) (h0 : 0 ≤ n) (h1 : n ≤ 100) (w : World) : (Instr.makeSlice 74 (.int .i64 n) (.int .i64 n)).run Tryd.prog w = .ok (.slice (some ⟨w.heap.size, 0, none⟩) n.toNat n.toNat) (w.alloc (.cells (madeCells #[.int .i64 0, .string ⟨#[]⟩, .string ⟨#[]⟩] (n.toNat * 3)) 81)) := by
  obtain ⟨i0, hi0, hz0, hz1, hz2⟩ := info_parts vote_info
  have := run_makeSlice w 74 81 i0 _ Tryd.underlying74 hi0 hz0 .i64 .i64 n n h0 (Int.le_refl _) (by rw [hz1]; omega) (by rw [hz2]; omega) (by omega)
  rw [this, hz1]
  rfl
theorem made1 : madeCells #[.int .i64 0, .string ⟨#[]⟩, .string ⟨#[]⟩] 3 = (cellsV (List.replicate 1 ⟨0, [], []⟩)).toArray := by kernel_rfl
theorem made4 : madeCells #[.int .i64 0, .string ⟨#[]⟩, .string ⟨#[]⟩] 12 = (cellsV (List.replicate 4 ⟨0, [], []⟩)).toArray := by kernel_rfl
theorem made7 : madeCells #[.int .i64 0, .string ⟨#[]⟩, .string ⟨#[]⟩] 21 = (cellsV (List.replicate 7 ⟨0, [], []⟩)).toArray := by kernel_rfl
theorem made10 : madeCells #[.int .i64 0, .string ⟨#[]⟩, .string ⟨#[]⟩] 30 = (cellsV (List.replicate 10 ⟨0, [], []⟩)).toArray := by kernel_rfl
def m0 (g f : Int) : Mks := ⟨g, f, List.replicate (3 * f + 1).toNat ⟨0, [], []⟩, 0, [], ⟨[], 0, []⟩⟩
set_option maxHeartbeats 4000000 in
set_option maxRecDepth 100000 in
theorem mnew_ok (g f : Int) (hg : 0 ≤ g ∧ g ≤ 4) (hf : 0 ≤ f ∧ f ≤ 3) (w : World) :
    Calls Tryd.prog 9 #[.int .i64 g, .int .i64 f] w fun e w' => e = .returned (.tuple #[.pointer (some ⟨w.heap.size + 1, 0, none⟩), .int .i64 0]) ∧ MkAt w' (w.heap.size + 1) w.heap.size (m0 g f) ∧ Below w.heap.size w w' := by
  obtain ⟨h1, h2⟩ := hg
  obtain ⟨i0, hi0, hz0, hz1, hz2⟩ := info_parts vote_info
  have hfc : f = 0 ∨ f = 1 ∨ f = 2 ∨ f = 3 := by omega
  rcases hfc with rfl | rfl | rfl | rfl
  case' inl => have hmk := vote_make 1 (by omega) (by omega)
  case' inr.inl => have hmk := vote_make 4 (by omega) (by omega)
  case' inr.inr.inl => have hmk := vote_make 7 (by omega) (by omega)
  case' inr.inr.inr => have hmk := vote_make 10 (by omega) (by omega)
  all_goals
    go_enter Tryd.func9, Tryd.ntmps9
    go_wp2_with (go_at_call 25; refine (grouped_yes g h1 h2 _).mono ?_; rintro e w' ⟨rfl, rfl⟩)
    go_ret2
    refine ⟨by simp, ⟨⟨none, 0, ?_, World.ownsRow_nil _ _ _ _⟩, ?_, ⟨h1, h2, by simp [m0], by simp [m0], by simp [m0]⟩⟩, ?_⟩
    · exact blk_new_at _ _ _ (by simp)
    · refine blk_eq ((Blk.new w 81 _).alloc _) ?_
      first | exact made1 | exact made4 | exact made7 | exact made10
    · exact (below_alloc1 w _).alloc (by simp) _

set_option maxHeartbeats 4000000 in
set_option maxRecDepth 100000 in
theorem mof_any (B V : Nat) (m : Mks) (no : Int) (w : World) (h : MkAt w B V m) :
    Calls Tryd.prog 23 #[.pointer (some ⟨B, 0, none⟩), .int .i64 no] w fun e w' => e = .returned (.int .i64 (ofV m.vs no)) ∧ w = w' := by
  obtain ⟨A, c, h1, h2⟩ := h.own
  have c2 := h1.cell 2
  have hlen : m.vs.length ≤ 10 := by have := h.ok.2.2.2.1; have := h.ok.2.2.2.2; omega
  by_cases h0 : 0 ≤ no
  · by_cases hlt : no.toNat < m.vs.length
    · obtain ⟨k, rfl⟩ : ∃ k : Nat, no = (k : Int) := ⟨no.toNat, by omega⟩
      simp only [Int.toNat_natCast] at hlt
      obtain ⟨ev, _, _⟩ := votes_cell h.vs hlt
      go_enter Tryd.func23, Tryd.ntmps23
      go_wp2
      go_ret
      exact ⟨by rw [ofV_at m.vs k hlt]; rfl, rfl⟩
    · go_enter Tryd.func23, Tryd.ntmps23
      go_wp2
      go_ret
      exact ⟨by rw [ofV_out m.vs no (by omega)]; rfl, rfl⟩
  · go_enter Tryd.func23, Tryd.ntmps23
    go_wp2
    go_ret
    exact ⟨by rw [ofV_out m.vs no (by omega)]; rfl, rfl⟩

set_option maxHeartbeats 4000000 in
set_option maxRecDepth 100000 in
theorem mstable_any (B V : Nat) (m : Mks) (w : World) (h : MkAt w B V m) (ht : m.c.tags.length ≤ 1048576) :
    Calls Tryd.prog 12 #[.pointer (some ⟨B, 0, none⟩)] w fun e w' => ∃ A c, e = .returned (.tuple #[.int .i64 m.n, .string ⟨m.s.toArray⟩, .agg #[.string ⟨m.c.t.toArray⟩, .int .i64 m.c.g, .slice A m.c.tags.length c]]) ∧
      w'.ownsRow w.heap.size 83 2 (.slice A m.c.tags.length c) m.c.tags.length (cellsT m.c.tags) ∧ Below w.heap.size w w' := by
  obtain ⟨A, c, h1, h2⟩ := h.own
  have c5 : ∀ o, (w.alloc o).cell? ⟨B, 5, none⟩ = some _ := fun o => (h1.alloc o).cell 5
  have c6 : ∀ o, (w.alloc o).cell? ⟨B, 6, none⟩ = some _ := fun o => (h1.alloc o).cell 6
  have c7 : ∀ o, (w.alloc o).cell? ⟨B, 7, none⟩ = some _ := fun o => (h1.alloc o).cell 7
  go_enter Tryd.func12, Tryd.ntmps12
  go_wp2_with fail
  have hb2 := (below_alloc1 w (.cells #[.string ⟨#[]⟩, .int .i64 0, .slice none 0 0] 35)).alloc (by simp) (.cells #[.string ⟨m.c.t.toArray⟩, .int .i64 m.c.g, .slice A m.c.tags.length c] 35)
  have hX := Blk.new (w.alloc (.cells #[.string ⟨#[]⟩, .int .i64 0, .slice none 0 0] 35)) 35 #[.string ⟨m.c.t.toArray⟩, .int .i64 m.c.g, .slice A m.c.tags.length c]
  have hR := (Blk.new w 35 #[.string ⟨#[]⟩, .int .i64 0, .slice none 0 0]).alloc (.cells #[.string ⟨m.c.t.toArray⟩, .int .i64 m.c.g, .slice A m.c.tags.length c] 35)
  have hM := h1.below hb2 h1.lt
  have hT := own_below h2 hb2
  rw [World.size_alloc] at hX
  refine (cloneT_any _ m.c.tags _ _ (Nat.le_refl _) (Rd.of_own hT) ht).mono ?_
  rintro e w3 ⟨v', rfl, hown, hb3⟩
  obtain ⟨A', c', rfl⟩ := own_shape hown
  have hX3 := hX.below hb3 hX.lt
  have hR3 := hR.below hb3 hR.lt
  have hM3 := hM.below hb3 hM.lt
  have hbw := hb2.trans (hb3.mono (by simp; omega))
  have hne : B ≠ w.heap.size + 1 := by have := h1.lt; omega
  have yX := hX3.cell 2
  have fX := hX3.frozen 2
  have HB := Lib.hid hbw
  have HO := Lib.hid hown
  have HB3 := Lib.hid hb3
  have HX := Lib.hid hX3
  have HR := Lib.hid hR3
  have HM := Lib.hid hM3
  clear hbw hown hb3 hX3 hR3 hM3 hX hR hM hT hb2 c5 c6 c7 h2 h1 h
  go_upto_region 5 with (fail)
  have gX := HX.out.set_ 2 (.slice A' m.c.tags.length c')
  have gR := HR.out.far (p := ⟨w.heap.size + 1, 2, none⟩) (by simp) (.slice A' m.c.tags.length c')
  have gM := HM.out.far (p := ⟨w.heap.size + 1, 2, none⟩) hne (.slice A' m.c.tags.length c')
  have gB := Lib.hid (HB.out.setCell (p := ⟨w.heap.size + 1, 2, none⟩) (by simp) (.slice A' m.c.tags.length c'))
  have gO := Lib.hid (((Chg.refl (fun k => k = w.heap.size + 1) w3).setCell (p := ⟨w.heap.size + 1, 2, none⟩) (fun _ => rfl) (.slice A' m.c.tags.length c')).owns (own_weaken (base' := w.heap.size + 2) HO.out (by simp)) (fun g hg e => by have := (HO.out.lt g hg).1; simp at this; omega))
  clear HX HR HM HB HB3 HO yX fX
  generalize w3.setCell ⟨w.heap.size + 1, 2, none⟩ (.slice A' m.c.tags.length c') = w5 at *
  have x0 : w5.cell? ⟨w.heap.size + 1, 0, none⟩ = some (.string ⟨m.c.t.toArray⟩) := gX.cell 0
  have x1 : w5.cell? ⟨w.heap.size + 1, 1, none⟩ = some (.int .i64 m.c.g) := gX.cell 1
  have x2 : w5.cell? ⟨w.heap.size + 1, 2, none⟩ = some (.slice A' m.c.tags.length c') := gX.cell 2
  have y3 : w5.cell? ⟨B, 3, none⟩ = some (.int .i64 m.n) := gM.cell 3
  have y4 : w5.cell? ⟨B, 4, none⟩ = some (.string ⟨m.s.toArray⟩) := gM.cell 4
  have z0 : w5.cell? ⟨w.heap.size, 0, none⟩ = some _ := gR.cell 0
  have z1 : w5.cell? ⟨w.heap.size, 1, none⟩ = some _ := gR.cell 1
  have z2 : w5.cell? ⟨w.heap.size, 2, none⟩ = some _ := gR.cell 2
  have f0 := gR.frozen 0
  have f1 := gR.frozen 1
  have f2 := gR.frozen 2
  have GX := Lib.hid gX
  have GR := Lib.hid gR
  clear gX gR gM
  go_big_region
  all_goals
    go_wp2
    refine bodyPost_ret (v := .tuple #[.int .i64 m.n, .string ⟨m.s.toArray⟩, .agg #[.string ⟨m.c.t.toArray⟩, .int .i64 m.c.g, .slice A' m.c.tags.length c']]) (by simp [results, Tryd.results12, go_sem, z0, z1, z2]) rfl ⟨A', c', rfl, ?_, ?_⟩
    · refine own_weaken (base := w.heap.size + 2) ?_ (by omega)
      have hc := ((Chg.refl (fun k => k = w.heap.size) w5).setCell (p := ⟨w.heap.size, 0, none⟩) (fun _ => rfl) (.string ⟨m.c.t.toArray⟩)).setCell (p := ⟨w.heap.size, 1, none⟩) (fun _ => rfl) (.int .i64 m.c.g) |>.setCell (p := ⟨w.heap.size, 2, none⟩) (fun _ => rfl) (.slice A' m.c.tags.length c')
      exact hc.owns gO.out (fun g hg e => by have := (gO.out.lt g hg).1; omega)
    · exact (below_set3 gB.out _ _ _).drew

end Go.Proofs.YtogpbldipmcbdaaDoor
