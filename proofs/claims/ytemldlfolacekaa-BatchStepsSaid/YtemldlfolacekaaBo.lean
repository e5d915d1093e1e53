/- BatchOnce: its loop's memory; the walk. -/
import Derived.Test.YtemldlfolacekaaBn
import Derived.Deep.DeepCutAuto
import Derived.Deep.CutBlock
namespace Go.Proofs.Ytemldlfolacekaa
open Go.RowKit Go.Shelf

structure Stp where
  what : Int
  r : Req
def Stp.cells (s : Stp) : List Value := [.int .i64 s.what, .int .i64 s.r.c, .int .i64 s.r.n, .string s.r.t]
def cellsSt (l : List Stp) : List Value := l.flatMap Stp.cells
theorem cellsSt_length (l : List Stp) : (cellsSt l).length = l.length * 4 := by
  induction l with
  | nil => rfl
  | cons a l ih => simp only [cellsSt, List.flatMap_cons, List.length_append, List.length_cons] at ih ⊢; rw [ih]; simp [Stp.cells]; omega
theorem cellsSt_get (l : List Stp) (k : Nat) (hk : k < l.length) :
    (cellsSt l)[k * 4]? = some (.int .i64 l[k].what) ∧ (cellsSt l)[k * 4 + 1]? = some (.int .i64 l[k].r.c) ∧ (cellsSt l)[k * 4 + 2]? = some (.int .i64 l[k].r.n) ∧ (cellsSt l)[k * 4 + 3]? = some (.string l[k].r.t) := by
  induction l generalizing k with
  | nil => simp at hk
  | cons a l ih =>
    cases k with
    | zero => simp [cellsSt, Stp.cells]
    | succ k =>
      have := ih k (by simpa using hk)
      simp only [cellsSt, List.flatMap_cons, List.getElem_cons_succ] at this ⊢
      refine ⟨?_, ?_, ?_, ?_⟩
      · rw [show (k + 1) * 4 = (Stp.cells a).length + k * 4 by simp [Stp.cells]; omega, List.getElem?_append_right (by omega)]; simpa using this.1
      · rw [show (k + 1) * 4 + 1 = (Stp.cells a).length + (k * 4 + 1) by simp [Stp.cells]; omega, List.getElem?_append_right (by omega)]; simpa using this.2.1
      · rw [show (k + 1) * 4 + 2 = (Stp.cells a).length + (k * 4 + 2) by simp [Stp.cells]; omega, List.getElem?_append_right (by omega)]; simpa using this.2.2.1
      · rw [show (k + 1) * 4 + 3 = (Stp.cells a).length + (k * 4 + 3) by simp [Stp.cells]; omega, List.getElem?_append_right (by omega)]; simpa using this.2.2.2

theorem rd_get4 {w : World} {B : Nat} {A : Option Addr} {c : Nat} {l : List Stp} (h : Rd w B 4 (.slice A l.length c) l.length (cellsSt l)) {k : Nat} (hk : k < l.length) :
    ∃ g off, A = some ⟨g, off, none⟩ ∧ g < B ∧ w.cell? ⟨g, off + k * 4, none⟩ = some (.int .i64 l[k].what) ∧ w.cell? ⟨g, off + k * 4 + 1, none⟩ = some (.int .i64 l[k].r.c) ∧ w.cell? ⟨g, off + k * 4 + 2, none⟩ = some (.int .i64 l[k].r.n) ∧ w.cell? ⟨g, off + k * 4 + 3, none⟩ = some (.string l[k].r.t) := by
  obtain ⟨_, A', c', e, hnc, h0⟩ := h
  injection e with e1 _ _
  subst e1
  rcases h0 with h0 | ⟨g, off, rfl, hg, hc⟩
  · omega
  · obtain ⟨h1, h2, h3, h4⟩ := cellsSt_get l k hk
    exact ⟨g, off, rfl, hg, hc _ _ h1, hc _ _ h2, hc _ _ h3, hc _ _ h4⟩

/-- no two of the rows lie in one block -/
def Apart2 (v u : Value) : Prop := ∀ g, v.ownBlock = some g → u.ownBlock ≠ some g

/-- A pool and two lists of requests, all from block base on, apart. -/
structure Trio (base : Nat) (w : World) (B : Nat) (va vd : Value) (L : List Req) (d : Nat → Int) (al dl : List Req) : Prop where
  hB : base ≤ B
  hw : base ≤ w.heap.size
  pool : ∃ V, PoolAt w base B V L d ∧ Apart2 va V ∧ Apart2 vd V
  oa : w.ownsRow base 28 3 va al.length (cellsOf al)
  od : w.ownsRow base 28 3 vd dl.length (cellsOf dl)
  ad : Apart2 va vd

section
variable {base B : Nat} {w w' : World} {va vd : Value} {L L' : List Req} {d d' : Nat → Int} {al dl : List Req}
theorem Trio.below (h : Trio base w B va vd L d al dl) (hb : Below w.heap.size w w') : Trio base w' B va vd L d al dl := by
  obtain ⟨V, hp, h1, h2⟩ := h.pool
  exact ⟨h.hB, Nat.le_trans h.hw hb.size, ⟨V, hp.below hb, h1, h2⟩, own_below h.oa hb, own_below h.od hb, h.ad⟩

theorem Trio.step (h : Trio base w B va vd L d al dl) {V : Value} (hp : PoolAt w base B V L d) (h1 : Apart2 va V) (h2 : Apart2 vd V) (ht : PoolTo w w' base B V L' d') :
    Trio base w' B va vd L' d' al dl ∧ Below base w w' := by
  obtain ⟨V', hp', hc, hV⟩ := ht
  have na : va.ownBlock ≠ some B := by obtain ⟨cs, hb, _⟩ := hp.blk; exact own_blk_ne h.oa hb (by decide)
  have nd : vd.ownBlock ≠ some B := by obtain ⟨cs, hb, _⟩ := hp.blk; exact own_blk_ne h.od hb (by decide)
  have ka : ∀ g, va.ownBlock = some g → ¬ (g = B ∨ V.ownBlock = some g) := fun g hg e => by
    rcases e with rfl | e
    · exact na hg
    · exact h1 g hg e
  have kd : ∀ g, vd.ownBlock = some g → ¬ (g = B ∨ V.ownBlock = some g) := fun g hg e => by
    rcases e with rfl | e
    · exact nd hg
    · exact h2 g hg e
  refine ⟨⟨h.hB, Nat.le_trans h.hw hc.size, ⟨V', hp', ?_, ?_⟩, hc.owns h.oa ka, hc.owns h.od kd, h.ad⟩, (PoolIn.of_to h.hB h.hw hp ⟨V', hp', hc, hV⟩).2⟩
  · intro g hg e
    rcases hV g e with e' | e'
    · exact h1 g hg e'
    · have := (h.oa.lt g hg).2; omega
  · intro g hg e
    rcases hV g e with e' | e'
    · exact h2 g hg e'
    · have := (h.od.lt g hg).2; omega

/-- one more in the first list -/
theorem Trio.pushA (h : Trio base w B va vd L d al dl) {r : Req} {g cap : Nat} {o : Obj} (hg : (w.alloc o).grownBy w' va.ownBlock)
    (hown : w'.ownsRow base 28 3 (.slice (some ⟨g, 0, none⟩) (al.length + 1) cap) (al.length + 1) (cellsOf al ++ Req.cells r)) (hat : va.ownBlock = some g ∨ g = w.heap.size + 1) :
    Trio base w' B (.slice (some ⟨g, 0, none⟩) (al.length + 1) cap) vd L d (al ++ [r]) dl ∧ Below base w w' := by
  obtain ⟨V, hp, h1, h2⟩ := h.pool
  have hC : Chg (fun k => va.ownBlock = some k) w w' := ((Chg.refl _ w).alloc o).grown hg (fun g h _ => h)
  have na : va.ownBlock ≠ some B := by obtain ⟨cs, hb, _⟩ := hp.blk; exact own_blk_ne h.oa hb (by decide)
  have e2 : cellsOf (al ++ [r]) = cellsOf al ++ Req.cells r := by simp [cellsOf]
  have hB := hp.lt
  refine ⟨⟨h.hB, Nat.le_trans h.hw hC.size, ⟨V, hp.chg hC na (fun k hk e => h1 k e hk), ?_, h2⟩, ?_, hC.owns h.od (fun k hk e => h.ad k e hk), ?_⟩, hC.to_below (fun i hi e => by have := (h.oa.lt i e).1; omega) h.hw⟩
  · intro k hk e
    have e1 : g = k := by simpa [Value.ownBlock] using hk
    subst e1
    rcases hat with hat | hat
    · exact h1 g hat e
    · have := (hp.own.lt g e).2; omega
  · rw [e2, List.length_append, List.length_singleton]; exact hown
  · intro k hk e
    have e1 : g = k := by simpa [Value.ownBlock] using hk
    subst e1
    rcases hat with hat | hat
    · exact h.ad g hat e
    · have := (h.od.lt g e).2; omega

/-- one more in the second list -/
theorem Trio.pushD (h : Trio base w B va vd L d al dl) {r : Req} {g cap : Nat} {o : Obj} (hg : (w.alloc o).grownBy w' vd.ownBlock)
    (hown : w'.ownsRow base 28 3 (.slice (some ⟨g, 0, none⟩) (dl.length + 1) cap) (dl.length + 1) (cellsOf dl ++ Req.cells r)) (hat : vd.ownBlock = some g ∨ g = w.heap.size + 1) :
    Trio base w' B va (.slice (some ⟨g, 0, none⟩) (dl.length + 1) cap) L d al (dl ++ [r]) ∧ Below base w w' := by
  obtain ⟨V, hp, h1, h2⟩ := h.pool
  have hC : Chg (fun k => vd.ownBlock = some k) w w' := ((Chg.refl _ w).alloc o).grown hg (fun g h _ => h)
  have nd : vd.ownBlock ≠ some B := by obtain ⟨cs, hb, _⟩ := hp.blk; exact own_blk_ne h.od hb (by decide)
  have e2 : cellsOf (dl ++ [r]) = cellsOf dl ++ Req.cells r := by simp [cellsOf]
  refine ⟨⟨h.hB, Nat.le_trans h.hw hC.size, ⟨V, hp.chg hC nd (fun k hk e => h2 k e hk), h1, ?_⟩, hC.owns h.oa (fun k hk e => h.ad k hk e), ?_, ?_⟩, hC.to_below (fun i hi e => by have := (h.od.lt i e).1; omega) h.hw⟩
  · intro k hk e
    have e1 : g = k := by simpa [Value.ownBlock] using hk
    subst e1
    rcases hat with hat | hat
    · exact h2 g hat e
    · have := (hp.own.lt g e).2; omega
  · rw [e2, List.length_append, List.length_singleton]; exact hown
  · intro k hk e
    have e1 : g = k := by simpa [Value.ownBlock] using e
    subst e1
    rcases hat with hat | hat
    · exact h.ad g hk hat
    · have := (h.oa.lt g hk).2; omega
end

/-- the blocks from a on are as they were -/
def Since (a : Nat) (w w' : World) : Prop := ∀ k, a ≤ k → k < w.heap.size → w'.heap[k]? = w.heap[k]?
theorem Since.cell {a : Nat} {w w' : World} (h : Since a w w') {p : Addr} {u : Value} (hp : a ≤ p.block) (hu : w.cell? p = some u) : w'.cell? p = some u :=
  (World.cell?_of_block (h p.block hp (World.block_lt_of_cell? _ _ hu))).trans hu

theorem add_trio {base B : Nat} {w W : World} {va vd : Value} {L : List Req} {d : Nat → Int} {al dl : List Req} (c n : Int) (t : ByteArray) (h : Trio base w B va vd L d al dl) (hb : Below w.heap.size w W) (hl : L.length ≤ 24) :
    Calls Try.prog 10 #[.pointer (some ⟨B, 0, none⟩), .agg #[.int .i64 c, .int .i64 n, .string t]] W fun e w' =>
      e = .returned (.tuple #[.bool (addS L d ⟨c, n, t⟩).1, .int .i64 (addS L d ⟨c, n, t⟩).2.1]) ∧ Trio base w' B va vd (addS L d ⟨c, n, t⟩).2.2 d al dl ∧ Below base W w' ∧ Since w.heap.size W w' := by
  obtain ⟨V, hp, h1, h2⟩ := h.pool
  have hB := hp.lt
  refine (add_any base B V L d ⟨c, n, t⟩ W (hp.below hb) hl (Nat.le_trans h.hw hb.size)).mono fun _ w' ⟨he, ht⟩ => ?_
  obtain ⟨h3, h4⟩ := (h.below hb).step (hp.below hb) h1 h2 ht
  refine ⟨he, h3, h4, fun k hk hlt => ?_⟩
  obtain ⟨_, _, hc, _⟩ := ht
  refine hc.block k hlt (fun f => ?_)
  rcases f with rfl | f
  · omega
  · have := (hp.own.lt k f).2; omega
theorem done_trio {base B : Nat} {w W : World} {va vd : Value} {L : List Req} {d : Nat → Int} {al dl : List Req} (c n : Int) (h : Trio base w B va vd L d al dl) (hb : Below w.heap.size w W) (hl : L.length ≤ 24) :
    Calls Try.prog 9 #[.pointer (some ⟨B, 0, none⟩), .int .i64 c, .int .i64 n] W fun e w' =>
      e = .returned (.tuple #[.bool (doneS L d c n).1, .int .i64 (doneS L d c n).2.1]) ∧ Trio base w' B va vd (doneS L d c n).2.2.1 (doneS L d c n).2.2.2 al dl ∧ Below base W w' ∧ Since w.heap.size W w' := by
  obtain ⟨V, hp, h1, h2⟩ := h.pool
  have hB := hp.lt
  refine (done_any base B V L d c n W (hp.below hb) hl (Nat.le_trans h.hw hb.size)).mono fun _ w' ⟨he, ht⟩ => ?_
  obtain ⟨h3, h4⟩ := (h.below hb).step (hp.below hb) h1 h2 ht
  refine ⟨he, h3, h4, fun k hk hlt => ?_⟩
  obtain ⟨_, _, hc, _⟩ := ht
  refine hc.block k hlt (fun f => ?_)
  rcases f with rfl | f
  · omega
  · have := (hp.own.lt k f).2; omega
theorem take_trio {base B : Nat} {w : World} {va vd : Value} {L : List Req} {d : Nat → Int} {al dl : List Req} (h : Trio base w B va vd L d al dl) (hok : Ok L) :
    Calls Try.prog 11 #[.pointer (some ⟨B, 0, none⟩)] w fun e w' => ∃ v, e = .returned v ∧ w'.ownsRow w.heap.size 28 3 v (takeS L).length (cellsOf (takeS L)) ∧ Below w.heap.size w w' := by
  obtain ⟨V, hp, h1, h2⟩ := h.pool
  exact take_any base B V L d w hp (by have := hok.1; omega) hok.2
theorem len_trio {base B : Nat} {w : World} {va vd : Value} {L : List Req} {d : Nat → Int} {al dl : List Req} (h : Trio base w B va vd L d al dl) :
    Calls Try.prog 12 #[.pointer (some ⟨B, 0, none⟩)] w fun e w' => e = .returned (.int .i64 L.length) ∧ w = w' := by
  obtain ⟨V, hp, h1, h2⟩ := h.pool
  exact len_any base B V L d w hp

end Go.Proofs.Ytemldlfolacekaa
