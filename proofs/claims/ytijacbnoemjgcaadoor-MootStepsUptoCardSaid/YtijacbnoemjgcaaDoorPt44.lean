/- The document's moot in memory; what is known of a client; its text. -/
import Derived.Test.YtijacbnoemjgcaaDoorPt42
import Derived.Test.YtijacbnoemjgcaaDoorPt43
import Derived.Test.YtijacbnoemjgcaaDoorPt29
set_option linter.unusedVariables false
set_option linter.unusedSimpArgs false
set_option linter.unnecessarySimpa false
namespace Go.Proofs.YtijacbnoemjgcaaDoor
open Go.RowKit Go.Shelf

def Cli.cells (x : Cli) : List Value := [.int .i64 x.c, .int .i64 x.n, .int .i64 x.e]
def cellsC (l : List Cli) : List Value := l.flatMap Cli.cells
theorem cellsC_length (l : List Cli) : (cellsC l).length = l.length * 3 := by
  induction l with
  | nil => rfl
  | cons p l ih => rw [cellsC, List.flatMap_cons, List.length_append]; unfold cellsC at ih; rw [ih]; simp [Cli.cells]; omega
theorem cellsC_append (a b : List Cli) : cellsC (a ++ b) = cellsC a ++ cellsC b := by simp [cellsC]
theorem cellsC_get (l : List Cli) (k : Nat) (hk : k < l.length) : (cellsC l)[k * 3]? = some (.int .i64 l[k].c) ∧ (cellsC l)[k * 3 + 1]? = some (.int .i64 l[k].n) ∧ (cellsC l)[k * 3 + 2]? = some (.int .i64 l[k].e) := by
  induction l generalizing k with
  | nil => simp at hk
  | cons x l ih =>
    cases k with
    | zero => exact ⟨rfl, rfl, rfl⟩
    | succ k =>
      have := ih k (by simpa using hk)
      have e : ∀ i, (cellsC (x :: l))[(k + 1) * 3 + i]? = (cellsC l)[k * 3 + i]? := by
        intro i
        rw [cellsC, List.flatMap_cons, List.getElem?_append_right (by simp [Cli.cells]; omega)]
        rw [show (k + 1) * 3 + i - (Cli.cells x).length = k * 3 + i by simp [Cli.cells]; omega]
        rfl
      have e0 := e 0
      simp only [Nat.add_zero] at e0
      rw [e0, e 1, e 2]
      simpa using this
theorem rd_cli {w : World} {B : Nat} {v : Value} {l : List Cli} (h : Rd w B 3 v l.length (cellsC l)) {k : Nat} (hk : k < l.length) :
    ∃ g off c, v = .slice (some ⟨g, off, none⟩) l.length c ∧ g < B ∧ w.cell? ⟨g, off + k * 3, none⟩ = some (.int .i64 l[k].c) ∧ w.cell? ⟨g, off + k * 3 + 1, none⟩ = some (.int .i64 l[k].n) ∧ w.cell? ⟨g, off + k * 3 + 2, none⟩ = some (.int .i64 l[k].e) := by
  obtain ⟨_, A, c, rfl, hnc, h0⟩ := h
  rcases h0 with h0 | ⟨g, off, rfl, hg, hc⟩
  · omega
  · obtain ⟨h1, h2, h3⟩ := cellsC_get l k hk
    exact ⟨g, off, c, rfl, hg, hc _ _ h1, hc _ _ h2, hc _ _ h3⟩
/-- The document's moot at block b. -/
structure RMtP (base : Nat) (w : World) (b : Nat) (lv cv : Value) (L : List Cmd) (C : List Cli) : Prop where
  box : Blk w b 30 #[lv, cv]
  row : w.ownsRow base 41 3 lv L.length (cellsX L)
  cli : w.ownsRow base 68 3 cv C.length (cellsC C)
  hb : base ≤ b
theorem RMtP.below {base b : Nat} {w w' : World} {lv cv : Value} {L : List Cmd} {C : List Cli} (h : RMtP base w b lv cv L C) (hb : Below w.heap.size w w') : RMtP base w' b lv cv L C := ⟨h.box.below hb h.box.lt, own_below h.row hb, own_below h.cli hb, h.hb⟩
theorem blk3U {w : World} {g : Nat} {t : TypeId} {a b c : Value} (h : Blk w g t #[a, b, c]) : w.cell? ⟨g, 0, none⟩ = some a ∧ w.cell? ⟨g, 1, none⟩ = some b ∧ w.cell? ⟨g, 2, none⟩ = some c ∧ w.frozen? ⟨g, 0, none⟩ = false ∧ w.frozen? ⟨g, 1, none⟩ = false ∧ w.frozen? ⟨g, 2, none⟩ = false :=
  ⟨h.cell 0, h.cell 1, h.cell 2, h.frozen 0, h.frozen 1, h.frozen 2⟩
theorem below_set3U {w w1 : World} {B g : Nat} (h : Below B w w1) (a b c : Value) (hg : B ≤ g := by exact Nat.le_refl _) : Below B w (((w1.setCell ⟨g, 0, none⟩ a).setCell ⟨g, 1, none⟩ b).setCell ⟨g, 2, none⟩ c) :=
  ((h.setCell (p := ⟨g, 0, none⟩) hg a).setCell (p := ⟨g, 1, none⟩) hg b).setCell (p := ⟨g, 2, none⟩) hg c

set_option maxHeartbeats 2000000 in
set_option maxRecDepth 100000 in
theorem rof_any (base b : Nat) (lv cv : Value) (L : List Cmd) (C : List Cli) (i : Int) (w : World) (hp : RMtP base w b lv cv L C) (hC : C.length ≤ 1000) :
    Calls Tryd.prog 18 #[.pointer (some ⟨b, 0, none⟩), .int .i64 i] w fun e w' => e = .returned (.agg #[.int .i64 (ofC C i).c, .int .i64 (ofC C i).n, .int .i64 (ofC C i).e]) ∧ Below w.heap.size w w' := by
  have hb0 := (Below.refl w.heap.size w).alloc (Nat.le_refl _) (.cells #[.int .i64 0, .int .i64 0, .int .i64 0] 68)
  have HZ : Hid (Blk (w.alloc (.cells #[.int .i64 0, .int .i64 0, .int .i64 0] 68)) w.heap.size 68 #[.int .i64 0, .int .i64 0, .int .i64 0]) := Blk.new w _ _
  have hpW := hp.below hb0
  have HR := Lib.hid (Rd.of_own hpW.cli)
  have b1 : (w.alloc (.cells #[.int .i64 0, .int .i64 0, .int .i64 0] 68)).cell? ⟨b, 1, none⟩ = some cv := hpW.box.cell 1
  have HB := Lib.hid hb0
  obtain ⟨Ac, cc, rfl⟩ := own_shape hp.cli
  clear hp hpW hb0
  go_enter Tryd.func18, Tryd.ntmps18
  go_wp2_with fail
  generalize w.alloc (.cells #[.int .i64 0, .int .i64 0, .int .i64 0] 68) = W at *
  go_loopw [12] (fun ix wr => ∃ k : Nat, k ≤ C.length ∧ ix = .int .i64 k ∧ Hid (ofC C i = ofC (C.drop k) i) ∧ Hid (Below W.heap.size W wr)) (fun ix _ => C.length - (intOf ix).toNat)
  case atStart => exact ⟨0, Nat.zero_le _, rfl, rfl, Below.refl _ _⟩
  case round =>
    obtain ⟨k, hk, rfl, HO, HW⟩ := hrel
    have hz := HZ.out.below HW.out HZ.out.lt
    have hwsz := HW.out.size
    by_cases hlt : k < C.length
    · obtain ⟨g, off, c1, hV, hg, q0, q1, q2⟩ := rd_cli (HR.out.below HW.out) hlt
      injection hV with hA _ hcc
      subst hA
      clear hcc
      have hd := Lib.hid (HO.out.trans (ofC_drop C i k hlt))
      generalize C[k] = x at *
      obtain ⟨xc, xn, xe⟩ := x
      simp only at hd q0 q1 q2
      cases hq : (xc == i) with
      | true =>
        have he : Hid (ofC C i = ⟨xc, xn, xe⟩) := by unfold Hid; rw [hd.out, if_pos (by simpa using hq)]
        have hz2 := hz.alloc (.cells #[.int .i64 xc, .int .i64 xn, .int .i64 xe] 68)
        obtain ⟨z0, z1, z2, f0, f1, f2⟩ := blk3U hz2
        have hbf := Lib.hid (HB.out.trans ((HW.out.alloc hwsz (.cells #[.int .i64 xc, .int .i64 xn, .int .i64 xe] 68)).mono HB.out.size))
        clear hz hz2
        go_wp2_with fail
        refine bodyPost_ret (v := .agg #[.int .i64 xc, .int .i64 xn, .int .i64 xe]) (by simp [results, Tryd.results18, go_sem, z0, z1, z2]) rfl ⟨by rw [he.out], below_set3U hbf.out _ _ _⟩
      | false =>
        have he : Hid (ofC C i = ofC (C.drop (k + 1)) i) := by unfold Hid; rw [hd.out, if_neg (by simpa using hq)]
        clear hz
        go_wp2_with fail
        go_roundw
        case rel => exact ⟨k + 1, by omega, by go_num, he.out, HW.out.alloc hwsz _⟩
        case measure => simp [intOf]; omega
    · have he : Hid (ofC C i = ⟨0, 0, 0⟩) := by unfold Hid; rw [HO.out, List.drop_of_length_le (by omega)]; rfl
      obtain ⟨z0, z1, z2, f0, f1, f2⟩ := blk3U hz
      have hbf := Lib.hid (HB.out.trans (HW.out.mono HB.out.size))
      clear hz
      go_wp2_with fail
      refine bodyPost_ret (v := .agg #[.int .i64 0, .int .i64 0, .int .i64 0]) (by simp [results, Tryd.results18, go_sem, z0, z1, z2]) rfl ⟨by rw [he.out], below_set3U hbf.out _ _ _⟩

end Go.Proofs.YtijacbnoemjgcaaDoor

namespace Go.Proofs.YtijacbnoemjgcaaDoor
open Go.RowKit Go.Shelf
theorem rblkB {w1 w2 : World} (h : Below (w1.alloc (.cells #[.int .i64 0, .slice none 0 0, .int .i64 0, .int .i64 0, .int .i64 0, .int .i64 0] 53)).heap.size (w1.alloc (.cells #[.int .i64 0, .slice none 0 0, .int .i64 0, .int .i64 0, .int .i64 0, .int .i64 0] 53)) w2) :
    Blk w2 w1.heap.size 53 (cfgCells 0 (.slice none 0 0) ⟨0, 0, 0, 0⟩) := Blk.below (Blk.new w1 _ _) h (by simp)

end Go.Proofs.YtijacbnoemjgcaaDoor
