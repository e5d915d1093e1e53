/- Add: a request that is taken. -/
import Derived.Test.YtamlfapdifocoaaDoorBd
import Derived.Deep.RegionHeld3
import Derived.Deep.DrawnRows
set_option linter.unusedVariables false
set_option linter.unusedSimpArgs false
set_option linter.unnecessarySimpa false
namespace Go.Proofs.YtamlfapdifocoaaDoor
open Go.RowKit Go.Shelf
attribute [local go_sem ↓] Go.wp_at_zero Go.wp_at_succ

theorem own_get {base : Nat} {V : Value} {w : World} {l : List Req} (h : w.ownsRow base 26 3 V l.length (cellsOf l)) {k : Nat} (hk : k < l.length) :
    ∃ g c, V = .slice (some ⟨g, 0, none⟩) l.length c ∧ g < w.heap.size ∧ w.cell? ⟨g, k * 3, none⟩ = some (.int .i64 l[k].c) ∧ w.cell? ⟨g, k * 3 + 1, none⟩ = some (.int .i64 l[k].n) ∧ w.cell? ⟨g, k * 3 + 2, none⟩ = some (.string l[k].t) := by
  obtain ⟨g, c, rfl, _, hg⟩ := h.form (by omega)
  have hc := h.cells (g := g) rfl
  obtain ⟨h1, h2, h3⟩ := cellsOf_get l k hk
  have e := hc _ _ h1
  have e2 := hc _ _ h2
  have e3 := hc _ _ h3
  rw [Addr.add_lit] at e e2 e3
  simp only [Nat.zero_add] at e e2 e3
  exact ⟨g, c, rfl, hg, e, e2, e3⟩

set_option maxRecDepth 100000 in
set_option maxHeartbeats 400000 in
theorem add_older (base B : Nat) (V : Value) (l : List Req) (d : Nat → Int) (r : Req) (w : World) (hp : PoolAt w base B V l d) (h : wrongB r.c r.n = false) (h2 : r.t.size ≤ 4000) (h3 : d r.c.toNat < r.n)
    (k : Nat) (hk : k < l.length) (hat : AtC r.c l k) (hm : l.length ≤ 1000000000) (h4 : r.n ≤ l[k].n) :
    Calls Tryd.prog 11 #[.pointer (some ⟨B, 0, none⟩), .agg #[.int .i64 r.c, .int .i64 r.n, .string r.t]] w fun e w' => e = .returned (.tuple #[.bool false, .int .i64 0]) ∧ Below w.heap.size w w' := by
  obtain ⟨b1, b2, b3, b4⟩ := wrong_bounds h
  have hlt := hp.lt
  have hd : w.cell? ⟨B, 1 + r.c.toNat, none⟩ = some (.int .i64 (d r.c.toNat)) := by rw [Nat.add_comm]; exact hp.num (by omega)
  have H1 := fun (o : Obj) (n : Nat) => of_any base B V l d r.c ((w.alloc o).drewN n) (hp.below (below_drewN ((Below.refl _ _).alloc (Nat.le_refl _) _) _)) hm
  rw [hat.idx] at H1
  have H2 := Lib.hid H1
  obtain ⟨g, c, rfl, hg, _, hn, _⟩ := own_get hp.own hk
  have HP := Lib.hid hp
  have hk0 : (0 : Int) ≤ (k : Int) := by omega
  have hk1 : (k : Int) < (l.length : Int) := by omega
  clear H1 hp
  go_enter Tryd.func11, Tryd.ntmps11
  go_wp2_with (go_at_call 20; refine (wrong_no _ _ _ h).mono ?_; rintro e w' ⟨rfl, rfl⟩)
  go_quiet (fail)
  go_wp2_with (go_at_call 21; refine (H2.out _ _).mono ?_; rintro e w1 ⟨rfl, hb1⟩)
  have hbw : Below (w.heap.size + 1) (w.alloc (.cells #[.int .i64 r.c, .int .i64 r.n, .string r.t] 26)) w1 := (below_drewN (Below.refl _ _) _).trans (hb1.mono (by simp))
  have hbw0 : Below w.heap.size w w1 := ((Below.refl _ _).alloc (Nat.le_refl _) _).trans (hbw.mono (by omega))
  have hc1 := (HP.out.below hbw0).head
  have hx1 : w1.cell? ⟨w.heap.size, 1, none⟩ = some (.int .i64 r.n) := (hbw.cell (p := ⟨w.heap.size, 1, none⟩) (by simp)).trans (by simp)
  have hn1 := (hbw0.cell (p := ⟨g, k * 3 + 1, none⟩) hg).trans hn
  go_quiet (fail)
  go_wp2
  go_ret2
  exact ⟨rfl, below_drewN hbw0 _⟩

theorem poolTo_append {w W w2 : World} {base B : Nat} {V V1 : Value} {l : List Req} {d : Nat → Int} {r : Req} {n m g2 cap2 : Nat} {o : Obj} (hp : PoolAt W base B V1 l d)
    (hc : Chg (fun k => k = B ∨ V.ownBlock = some k) w W) (hV : ∀ g, V1.ownBlock = some g → V.ownBlock = some g ∨ w.heap.size ≤ g)
    (hg : ((W.drewN n).alloc o).grownBy w2 V1.ownBlock) (hm : m = l.length + 1)
    (hown : w2.ownsRow base 26 3 (.slice (some ⟨g2, 0, none⟩) m cap2) m (cellsOf l ++ Req.cells r)) (hat : V1.ownBlock = some g2 ∨ g2 = W.heap.size + 1 ∨ g2 = W.heap.size) :
    PoolTo w (w2.setCell ⟨B, 0, none⟩ (.slice (some ⟨g2, 0, none⟩) m cap2)) base B V (l ++ [r]) d := by
  have hlt := hp.lt
  have hne := hp.ne_
  have hC : Chg (fun k => V1.ownBlock = some k) W w2 := (((Chg.refl _ W).drewN n).alloc o).grown hg (fun g h _ => h)
  have e1 : (l ++ [r]).length = m := by simp [hm]
  have e2 : cellsOf (l ++ [r]) = cellsOf l ++ Req.cells r := by simp [cellsOf]
  have hC2 : Chg (fun k => k = B ∨ V.ownBlock = some k) w w2 := hc.trans hC (fun i hi f => by
    rcases hV i f with h | h
    · exact .inr h
    · omega)
  refine ⟨.slice (some ⟨g2, 0, none⟩) m cap2, hp.put hC hne (by rw [e1, e2]; exact hown) (Nat.le_refl _) ?_, hC2.setCell (fun _ => .inl rfl) _, ?_⟩
  · intro e
    have e : g2 = B := by simpa [Value.ownBlock] using e
    subst e
    rcases hat with h | h | h
    · exact hne h
    · omega
    · omega
  · intro g hg'
    have e : g2 = g := by simpa [Value.ownBlock] using hg'
    subst e
    have := hc.size
    rcases hat with h | h | h
    · exact hV _ h
    · exact .inr (by omega)
    · exact .inr (by omega)

set_option maxRecDepth 100000 in
set_option maxHeartbeats 800000 in
theorem add_new (base B : Nat) (V : Value) (l : List Req) (d : Nat → Int) (r : Req) (w : World) (hp : PoolAt w base B V l d) (h : wrongB r.c r.n = false) (h2 : r.t.size ≤ 4000) (h3 : d r.c.toNat < r.n)
    (hno : NoC r.c l) (hl : l.length < 24) (hbase : base ≤ w.heap.size) :
    Calls Tryd.prog 11 #[.pointer (some ⟨B, 0, none⟩), .agg #[.int .i64 r.c, .int .i64 r.n, .string r.t]] w fun e w' => e = .returned (.tuple #[.bool true, .int .i64 0]) ∧ PoolTo w w' base B V (l ++ [r]) d := by
  obtain ⟨i0, hi0, hz0, hz1, hz2⟩ := info_parts req_info
  obtain ⟨b1, b2, b3, b4⟩ := wrong_bounds h
  have hlt := hp.lt
  have hd : w.cell? ⟨B, 1 + r.c.toNat, none⟩ = some (.int .i64 (d r.c.toNat)) := by rw [Nat.add_comm]; exact hp.num (by omega)
  have H1 := fun (o : Obj) (n : Nat) => of_any base B V l d r.c ((w.alloc o).drewN n) (hp.below (below_drewN ((Below.refl _ _).alloc (Nat.le_refl _) _) _)) (by omega)
  rw [idxC_none r.c l hno] at H1
  have H2 := Lib.hid H1
  have hform := Lib.hid hp.form
  obtain ⟨A, c, rfl⟩ := hp.form
  have HP := Lib.hid hp
  have hl24 : ((l.length : Int) == 24) = false := by simp; omega
  clear H1 hp
  go_enter Tryd.func11, Tryd.ntmps11
  go_wp2_with (go_at_call 20; refine (wrong_no _ _ _ h).mono ?_; rintro e w' ⟨rfl, rfl⟩)
  go_quiet (fail)
  go_wp2_with (go_at_call 21; refine (H2.out _ _).mono ?_; rintro e w1 ⟨rfl, hb1⟩)
  have hbw : Below (w.heap.size + 1) (w.alloc (.cells #[.int .i64 r.c, .int .i64 r.n, .string r.t] 26)) w1 := (below_drewN (Below.refl _ _) _).trans (hb1.mono (by simp))
  have hbw0 : Below w.heap.size w w1 := ((Below.refl _ _).alloc (Nat.le_refl _) _).trans (hbw.mono (by omega))
  have hc1 := (HP.out.below hbw0).head
  have hx1 : w1.cell? ⟨w.heap.size, 0, none⟩ = some (.int .i64 r.c) := (hbw.cell (p := ⟨w.heap.size, 0, none⟩) (by simp)).trans (by simp)
  have hx2 : w1.cell? ⟨w.heap.size, 1, none⟩ = some (.int .i64 r.n) := (hbw.cell (p := ⟨w.heap.size, 1, none⟩) (by simp)).trans (by simp)
  have hx3 : w1.cell? ⟨w.heap.size, 2, none⟩ = some (.string r.t) := (hbw.cell (p := ⟨w.heap.size, 2, none⟩) (by simp)).trans (by simp)
  have hsz := hbw.size
  simp only [World.size_alloc] at hsz
  have own1 := (HP.out.below hbw0).own
  have HO : Hid (∀ (n : Nat) (o : Obj), ((w1.drewN n).drew.alloc o).ownsRow base 26 3 (.slice A l.length c) l.length (cellsOf l)) := fun n o => World.ownsRow.alloc (w := (w1.drewN n).drew) own1 o
  have hone : Hid (∀ u ∈ Req.cells r, u.oneCell' = true) := by intro u hu; simp [Req.cells] at hu; rcases hu with rfl | rfl | rfl <;> rfl
  have hne1 : Hid (some B ≠ (Value.slice A l.length c).ownBlock) := fun e => HP.out.ne_ e.symm
  have hne2 : Hid (some w.heap.size ≠ (Value.slice A l.length c).ownBlock) := fun e => by have := (HP.out.own.lt _ e.symm).2; omega
  have hf1 := (HP.out.below hbw0).free 0
  have hB1 : B < w1.heap.size := by omega
  clear own1
  have hcA : ∀ (n : Nat) (o : Obj), ((w1.drewN n).alloc o).cell? ⟨B, 0, none⟩ = some (.slice A l.length c) := fun n o => (World.cell?_alloc_lt (w1.drewN n) o ⟨B, 0, none⟩ hB1).trans hc1
  go_quiet (fail)
  go_wp2
  go_region_law ((refine step_append_lies _ (by rfl) (.tmp 69) (.tmp 71) _ (by rfl) base 26 i0 _ 3 32 Tryd.underlying22 hi0 hz0 hz1 hz2 (by rfl) (by omega) (.slice A l.length c) l.length (cellsOf l) (by simp [Act.eval]) (HO.out _ _) ⟨w1.heap.size, 0, none⟩ 1 1 (Req.cells r) (by simp [Act.eval]) (by rfl) (World.news_of_block (heap_alloc_new _ _)) hone.out (by omega) (by unfold maxLen; omega) (by omega) (by simp; omega) (w1.heap.size + 1) (by simp) ?_; intro g2 cap2 w2 hown2 hg2 hat2 hlt2; have hc2 := (hg2.cell_far ⟨B, 0, none⟩ (by simp; omega) hne1.out).trans ((World.cell?_alloc_lt _ _ _ (by simp; omega)).trans hc1); have hf2 := (hg2.frozen_far ⟨B, 0, none⟩ (by simp; omega) hne1.out).trans ((World.frozen?_alloc_old _ _ _ (by simp; omega)).trans hf1)))
  all_goals go_wp2
  all_goals go_ret2
  all_goals refine ⟨rfl, ?_⟩
  all_goals
    refine poolTo_append (n := nq + 1) (HP.out.below hbw0) (Chg.of_below hbw0) (fun g h => .inl h) hg2 rfl hown2 ?_
    rcases hat2 with h | h
    · exact .inl h
    · exact .inr (.inl h)

end Go.Proofs.YtamlfapdifocoaaDoor
