/- Add: a request in the place of an elder one. -/
import Derived.Test.YtamlfapdifocoaaDoorBe
set_option linter.unusedVariables false
set_option linter.unusedSimpArgs false
set_option linter.unnecessarySimpa false
namespace Go.Proofs.YtamlfapdifocoaaDoor
open Go.RowKit Go.Shelf
attribute [local go_sem ↓] Go.wp_at_zero Go.wp_at_succ

set_option maxRecDepth 100000 in
set_option maxHeartbeats 800000 in
theorem add_replace (base B : Nat) (V : Value) (l : List Req) (d : Nat → Int) (r : Req) (w : World) (hp : PoolAt w base B V l d) (h : wrongB r.c r.n = false) (h2 : r.t.size ≤ 4000) (h3 : d r.c.toNat < r.n)
    (k : Nat) (hk : k < l.length) (hat : AtC r.c l k) (hm : l.length ≤ 1000000) (h4 : l[k].n < r.n) (hbase : base ≤ w.heap.size) :
    Calls Tryd.prog 11 #[.pointer (some ⟨B, 0, none⟩), .agg #[.int .i64 r.c, .int .i64 r.n, .string r.t]] w fun e w' => e = .returned (.tuple #[.bool true, .int .i64 0]) ∧ PoolTo w w' base B V (l.eraseIdx k ++ [r]) d := by
  obtain ⟨i0, hi0, hz0, hz1, hz2⟩ := info_parts req_info
  obtain ⟨b1, b2, b3, b4⟩ := wrong_bounds h
  have hlt := hp.lt
  have hd : w.cell? ⟨B, 1 + r.c.toNat, none⟩ = some (.int .i64 (d r.c.toNat)) := by rw [Nat.add_comm]; exact hp.num (by omega)
  have H1 := fun (o : Obj) (n : Nat) => of_any base B V l d r.c ((w.alloc o).drewN n) (hp.below (below_drewN ((Below.refl _ _).alloc (Nat.le_refl _) _) _)) (by omega)
  rw [hat.idx] at H1
  have H2 := Lib.hid H1
  obtain ⟨g, c, rfl, hg, _, hn, _⟩ := own_get hp.own hk
  have HP := Lib.hid hp
  have hk0 : (0 : Int) ≤ (k : Int) := by omega
  have hk1 : (k : Int) < (l.length : Int) := by omega
  have hge : decide ((0 : Int) ≤ (k : Int)) = true := by simp
  clear H1 hp
  go_enter Tryd.func11, Tryd.ntmps11
  go_wp2_with (go_at_call 20; refine (wrong_no _ _ _ h).mono ?_; rintro e w' ⟨rfl, rfl⟩)
  go_quiet (fail)
  go_wp2_with (go_at_call 21; refine (H2.out _ _).mono ?_; rintro e w1 ⟨rfl, hb1⟩)
  have hbw : Below (w.heap.size + 1) (w.alloc (.cells #[.int .i64 r.c, .int .i64 r.n, .string r.t] 26)) w1 := (below_drewN (Below.refl _ _) _).trans (hb1.mono (by simp))
  have hbw0 : Below w.heap.size w w1 := ((Below.refl _ _).alloc (Nat.le_refl _) _).trans (hbw.mono (by omega))
  have hc1 := (HP.out.below hbw0).head
  have hx0 : w1.cell? ⟨w.heap.size, 0, none⟩ = some (.int .i64 r.c) := (hbw.cell (p := ⟨w.heap.size, 0, none⟩) (by simp)).trans (by simp)
  have hx1 : w1.cell? ⟨w.heap.size, 1, none⟩ = some (.int .i64 r.n) := (hbw.cell (p := ⟨w.heap.size, 1, none⟩) (by simp)).trans (by simp)
  have hx2 : w1.cell? ⟨w.heap.size, 2, none⟩ = some (.string r.t) := (hbw.cell (p := ⟨w.heap.size, 2, none⟩) (by simp)).trans (by simp)
  have hn1 := (hbw0.cell (p := ⟨g, k * 3 + 1, none⟩) hg).trans hn
  have hsz := hbw.size
  simp only [World.size_alloc] at hsz
  go_quiet (fail)
  have hP1 := Lib.hid (fun n => gone_any base B _ l d k (w1.drewN n) ((HP.out.below hbw0).below (below_drewN (Below.refl _ _) _)) hk (by omega) (by simp; omega))
  go_wp2_with (go_at_call 22; refine (hP1.out _).mono ?_; rintro e w2 ⟨g1, cap1, rfl, hwg, hp1, hC1⟩)
  have hle : (l.eraseIdx k).length = l.length - 1 := List.length_eraseIdx_of_lt hk
  have HO : Hid (∀ (n : Nat) (o : Obj), ((w2.drewN n).drew.alloc o).ownsRow base 26 3 (.slice (some ⟨g1, 0, none⟩) (l.length - 1) cap1) (l.length - 1) (cellsOf (l.eraseIdx k))) := fun n o => by
    have := hp1.own
    rw [hle] at this
    exact World.ownsRow.alloc (w := (w2.drewN n).drew) this o
  have HO0 : Hid (∀ (o : Obj), (w2.drew.alloc o).ownsRow base 26 3 (.slice (some ⟨g1, 0, none⟩) (l.length - 1) cap1) (l.length - 1) (cellsOf (l.eraseIdx k))) := fun o => HO.out 0 o
  have hone : Hid (∀ u ∈ Req.cells r, u.oneCell' = true) := by intro u hu; simp [Req.cells] at hu; rcases hu with rfl | rfl | rfl <;> rfl
  have hne1 : Hid (some B ≠ (Value.slice (some ⟨g1, 0, none⟩) (l.length - 1) cap1).ownBlock) := fun e => hp1.ne_ e.symm
  have hwg : w1.heap.size ≤ g1 := hwg
  have hs2 : w1.heap.size ≤ w2.heap.size := hC1.size
  have hcx : ∀ i u, i < 3 → w1.cell? ⟨w.heap.size, i, none⟩ = some u → w2.cell? ⟨w.heap.size, i, none⟩ = some u := fun i u hi hu => hC1.cell (p := ⟨w.heap.size, i, none⟩) hu (by simp; omega)
  have hy0 := hcx 0 _ (by omega) hx0
  have hy1 := hcx 1 _ (by omega) hx1
  have hy2 := hcx 2 _ (by omega) hx2
  have hcB := hp1.head
  have hfB := hp1.free 0
  have hB2 : B < w2.heap.size := by omega
  have hcA : ∀ (n : Nat) (o : Obj), ((w2.drewN n).alloc o).cell? ⟨B, 0, none⟩ = some (.slice (some ⟨g1, 0, none⟩) (l.length - 1) cap1) := fun n o => (World.cell?_alloc_lt (w2.drewN n) o ⟨B, 0, none⟩ hB2).trans hcB
  have hcA0 : ∀ (o : Obj), (w2.drew.alloc o).cell? ⟨B, 0, none⟩ = some (.slice (some ⟨g1, 0, none⟩) (l.length - 1) cap1) := fun o => hcA 1 o
  have HQ := Lib.hid hp1
  have HC := Lib.hid hC1
  have HW := Lib.hid hwg
  clear hcx hx0 hx1 hx2 hc1 hn1 hp1 hC1 hwg hle hge
  go_region_law ((refine step_append_lies _ (by rfl) (.tmp 69) (.tmp 71) _ (by rfl) base 26 i0 _ 3 32 Tryd.underlying22 hi0 hz0 hz1 hz2 (by rfl) (by omega) (.slice (some ⟨g1, 0, none⟩) (l.length - 1) cap1) (l.length - 1) (cellsOf (l.eraseIdx k)) (by simp [Act.eval]) (HO0.out _) ⟨w2.heap.size, 0, none⟩ 1 1 (Req.cells r) (by simp [Act.eval]) (by rfl) (World.news_of_block (heap_alloc_new _ _)) hone.out (by omega) (by unfold maxLen; omega) (by omega) (by simp; omega) (w2.heap.size + 1) (by simp) ?_; intro g2 cap2 w3 hown2 hg2 hat2 hlt2; have hc2 := (hg2.cell_far ⟨B, 0, none⟩ (by simp; omega) hne1.out).trans ((World.cell?_alloc_lt _ _ _ (by simp; omega)).trans hcB); have hf2 := (hg2.frozen_far ⟨B, 0, none⟩ (by simp; omega) hne1.out).trans ((World.frozen?_alloc_old _ _ _ (by simp; omega)).trans hfB)))
  all_goals go_wp2
  all_goals go_ret2
  all_goals refine ⟨rfl, ?_⟩
  all_goals
    have hle : (l.eraseIdx k).length = l.length - 1 := List.length_eraseIdx_of_lt hk
    refine poolTo_append (n := 1) (W := w2) HQ.out (((Chg.of_below hbw0).drewN _).trans HC.out (fun i _ h => .inl h)) (fun g' h' => ?_) hg2 (by rw [hle]) hown2 ?_
    · have e : g1 = g' := by simpa [Value.ownBlock] using h'
      have := HW.out
      exact .inr (by omega)
    · rcases hat2 with h | h
      · exact .inl h
      · exact .inr (.inl h)

end Go.Proofs.YtamlfapdifocoaaDoor
