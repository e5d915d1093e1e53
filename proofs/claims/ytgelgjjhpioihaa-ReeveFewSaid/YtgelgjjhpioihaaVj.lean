/- The law's rulings as the reference's. -/
import Derived.Test.YtgelgjjhpioihaaVi
namespace Go.Proofs.Ytgelgjjhpioihaa
open Go.RowKit Go.Shelf
set_option linter.unusedVariables false
set_option linter.unusedSimpArgs false

def Rul.cells4 (r : Rul) : List Value := [.int .i64 r.x.kind, .int .i64 r.x.group, .int .i64 r.x.shard, .int .i64 r.err]
def cellsQ (l : List Rul) : List Value := l.flatMap Rul.cells4
theorem cellsQ_length (l : List Rul) : (cellsQ l).length = l.length * 4 := by
  induction l with
  | nil => rfl
  | cons p l ih => rw [cellsQ, List.flatMap_cons, List.length_append]; unfold cellsQ at ih; rw [ih]; simp [Rul.cells4]; omega
theorem cellsQ_append (a b : List Rul) : cellsQ (a ++ b) = cellsQ a ++ cellsQ b := by simp [cellsQ]
theorem cellsQ_get (l : List Rul) (k : Nat) (hk : k < l.length) (i : Nat) (hi : i < 4) : (cellsQ l)[k * 4 + i]? = (Rul.cells4 l[k])[i]? := by
  induction l generalizing k with
  | nil => simp at hk
  | cons q l ih =>
    have hq : (Rul.cells4 q).length = 4 := by simp [Rul.cells4]
    rw [cellsQ, List.flatMap_cons]
    cases k with
    | zero => rw [Nat.zero_mul, Nat.zero_add, List.getElem?_append_left (by omega)]; rfl
    | succ k =>
      rw [List.getElem?_append_right (by omega), hq, show (k + 1) * 4 + i - 4 = k * 4 + i by omega]
      exact ih k (by simpa using hk)
theorem rd_rul4 {w : World} {B : Nat} {v : Value} {l : List Rul} (h : Rd w B 4 v l.length (cellsQ l)) {k : Nat} (hk : k < l.length) :
    ∃ g off c, v = .slice (some ⟨g, off, none⟩) l.length c ∧ g < B ∧ w.cell? ⟨g, off + k * 4, none⟩ = some (.int .i64 l[k].x.kind) ∧ w.cell? ⟨g, off + k * 4 + 1, none⟩ = some (.int .i64 l[k].x.group) ∧ w.cell? ⟨g, off + k * 4 + 2, none⟩ = some (.int .i64 l[k].x.shard) ∧ w.cell? ⟨g, off + k * 4 + 3, none⟩ = some (.int .i64 l[k].err) := by
  obtain ⟨_, A, c, rfl, hnc, h0⟩ := h
  rcases h0 with h0 | ⟨g, off, rfl, hg, hc⟩
  · omega
  · have e : ∀ i, i < 4 → ∀ u, (Rul.cells4 l[k])[i]? = some u → w.cell? ⟨g, off + (k * 4 + i), none⟩ = some u := fun i hi u hu => hc _ _ ((cellsQ_get l k hk i hi).trans hu)
    have e0 := e 0 (by omega) _ rfl
    rw [Nat.add_zero] at e0
    exact ⟨g, off, c, rfl, hg, e0, by rw [Nat.add_assoc]; exact e 1 (by omega) _ rfl, by rw [Nat.add_assoc]; exact e 2 (by omega) _ rfl, by rw [Nat.add_assoc]; exact e 3 (by omega) _ rfl⟩
theorem rrul_info : (Try.prog.info? 66).map (fun i => (i.zero, i.size, i.bytes)) = some (some (.agg #[.int .i64 0, .int .i64 0, .int .i64 0, .int .i64 0]), 4, 32) := by kernel_rfl

set_option maxHeartbeats 1000000 in
set_option maxRecDepth 100000 in
theorem rulings_any (l : List Rul) (v : Value) (w : World) (hr : Rd w w.heap.size 6 v l.length (cellsU l)) (hm : l.length ≤ 1000) :
    Calls Try.prog 10 #[v] w fun e w' => ∃ v', e = .returned v' ∧ w'.ownsRow w.heap.size 66 4 v' l.length (cellsQ l) ∧ Below w.heap.size w w' := by
  have HR := Lib.hid hr
  obtain ⟨_, A, cc, rfl, hncc, _⟩ := hr
  obtain ⟨i0, hi0, hz0, hz1, hz2⟩ := info_parts rrul_info
  go_enter Try.func10, Try.ntmps10
  go_wp2_with fail
  go_loopw [3, 8] (fun v i wr => ∃ m : Nat, m ≤ l.length ∧ i = .int .i64 (m : Int) ∧ Hid (wr.ownsRow w.heap.size 66 4 v m (cellsQ (l.take m)) ∧ Below w.heap.size w wr)) (fun _ i _ => l.length - (intOf i).toNat)
  case atStart => exact ⟨0, by omega, rfl, World.ownsRow_nil _ _ _ _, Below.refl _ _⟩
  case round =>
    obtain ⟨m, hm, rfl, hM⟩ := hrel
    obtain ⟨wo, rfl⟩ : ∃ wo : World, wo = wr := ⟨_, rfl⟩
    obtain ⟨Am, cm, rfl⟩ := own_shape hM.out.1
    by_cases hlt : m < l.length
    · obtain ⟨g, off, c', hV, hgl, hx⟩ := rd_rul HR.out hlt
      injection hV with hA _ hcc
      subst hA hcc
      have htk : Hid (cellsQ (l.take (m + 1)) = cellsQ (l.take m) ++ Rul.cells4 l[m]) := by unfold Hid; rw [List.take_succ_eq_append_getElem hlt, cellsQ_append]; simp [cellsQ]
      have hx' : ∀ i, i < 6 → ∀ u, (Rul.cells l[m])[i]? = some u → wo.cell? ⟨g, off + (m * 6 + i), none⟩ = some u := fun i hi u hu => (hM.out.2.cell (p := ⟨g, off + (m * 6 + i), none⟩) hgl).trans (hx i hi u hu)
      generalize l[m] = r at *
      have y0 : wo.cell? ⟨g, off + m * 6, none⟩ = some (.int .i64 r.client) := by have := hx' 0 (by omega) _ rfl; simpa using this
      have y1 : wo.cell? ⟨g, off + m * 6 + 1, none⟩ = some (.int .i64 r.number) := hx' 1 (by omega) _ rfl
      have y2 : wo.cell? ⟨g, off + m * 6 + 2, none⟩ = some (.int .i64 r.x.kind) := hx' 2 (by omega) _ rfl
      have y3 : wo.cell? ⟨g, off + m * 6 + 3, none⟩ = some (.int .i64 r.x.group) := hx' 3 (by omega) _ rfl
      have y4 : wo.cell? ⟨g, off + m * 6 + 4, none⟩ = some (.int .i64 r.x.shard) := hx' 4 (by omega) _ rfl
      have y5 : wo.cell? ⟨g, off + m * 6 + 5, none⟩ = some (.int .i64 r.err) := hx' 5 (by omega) _ rfl
      have HRW := Lib.hid hM.out.1
      have HBW := Lib.hid hM.out.2
      have hwz := hM.out.2.size
      clear hM hx hx'
      generalize cellsQ (l.take m) = L at *
      have HO := Lib.hid (fun o o' => (HRW.out.alloc o).alloc o')
      have hone : Hid (∀ u ∈ Rul.cells4 r, u.oneCell' = true) := by intro u hu; simp [Rul.cells4] at hu; rcases hu with rfl | rfl | rfl | rfl <;> rfl
      go_wp2_with (at_builtin; refine wpList_append_lies _ rfl (.tmp 12) (.tmp 26) _ rfl w.heap.size 66 i0 _ 4 32 Try.underlying32 hi0 hz0 hz1 hz2 rfl (by omega) (.slice Am m cm) m L rfl (HO.out _ _) ⟨wo.heap.size + 1, 0, none⟩ 1 1 (Rul.cells4 r) rfl rfl (news_box (by simp)) hone.out (by omega) (by unfold maxLen; omega) (by omega) (by simp; omega) (wo.heap.size + 2) (by simp) ?_; intro g2 cap2 w4 hown4 hg4 hat4 hlt4)
      have hfin : Hid (w4.ownsRow w.heap.size 66 4 (.slice (some ⟨g2, 0, none⟩) (m + 1) cap2) (m + 1) (cellsQ (l.take (m + 1))) ∧ Below w.heap.size w w4) := by
        refine ⟨?_, ((((Chg.of_below (F := fun i => w.heap.size ≤ i) HBW.out).alloc _).alloc _).grown hg4 (fun j hj _ => (HRW.out.lt j hj).1)).to_below (fun i hi h => by omega) (Nat.le_refl _)⟩
        rw [htk.out]
        exact hown4
      clear hown4 hg4 hat4 hlt4
      go_wp2_with fail
      go_roundw
      case rel => exact ⟨m + 1, by omega, by go_num, hfin⟩
      case measure => simp [intOf]; omega
    · obtain rfl : m = l.length := by omega
      have HF : Hid (wo.ownsRow w.heap.size 66 4 (.slice Am l.length cm) l.length (cellsQ l) ∧ Below w.heap.size w wo) := by
        have h1 := hM.out
        rw [List.take_of_length_le (Nat.le_refl _)] at h1
        exact h1
      clear hM
      go_wp2_with fail
      go_ret
      exact ⟨_, rfl, HF.out.1, HF.out.2⟩

end Go.Proofs.Ytgelgjjhpioihaa
