/- The document's answer: the list that a text is. -/
import Derived.Test.YtijacbnoemjgcaaGreatDoorPb44
import Derived.Test.YtijacbnoemjgcaaGreatDoorPb38
import Derived.Test.YtijacbnoemjgcaaGreatDoorPb41
import Derived.Test.YtijacbnoemjgcaaGreatDoorPb24
set_option linter.unusedVariables false
set_option linter.unusedSimpArgs false
set_option linter.unnecessarySimpa false
namespace Go.Proofs.YtijacbnoemjgcaaGreatDoor
open Go.RowKit Go.Shelf

def sizeV : Value → Nat
  | .string b => b.size
  | _ => 0
theorem sizeV_is (s : Bs) : sizeV (.string ⟨s.toArray⟩) = s.length := by show s.toArray.size = _; simp

set_option maxHeartbeats 4000000 in
set_option maxRecDepth 100000 in
theorem runpack_any (s : Bs) (hs : s.length ≤ 1000000000000) (w : World) :
    Calls Tryz.prog 16 #[.string ⟨s.toArray⟩] w fun e w' => ∃ v, e = .returned (.tuple #[v, .int .i64 (unpackB s).2]) ∧ w'.ownsRow w.heap.size 9 1 v (unpackB s).1.length (strs (unpackB s).1) ∧ Below w.heap.size w w' := by
  obtain ⟨i0, hi, hz0, hz1, hz2⟩ := info_parts infoS
  go_enter Tryz.func16, Tryz.ntmps16
  go_wp2
  go_loopw [4, 5] (fun out r wr => ∃ (pre : List Bs) (cur : Bs) (A : Option Addr) (c : Nat), out = .slice A pre.length c ∧ r = .string ⟨cur.toArray⟩ ∧ pre.length + cur.length ≤ s.length ∧
    Hid (wr.ownsRow w.heap.size 9 1 (.slice A pre.length c) pre.length (strs pre) ∧ Below w.heap.size w wr ∧ unpackO s = (unpackO cur).map (pre ++ ·))) (fun _ r _ => sizeV r)
  case atStart => exact ⟨[], s, none, 0, rfl, rfl, by simp, World.ownsRow_nil _ _ _ _, Below.refl _ _, by simp⟩
  case round =>
    obtain ⟨pre, cur, A, c, rfl, rfl, hlen, HI⟩ := hrel
    by_cases hz : cur = []
    · subst hz
      have hun : Hid (unpackB s = (pre, 0)) := by unfold Hid unpackB; rw [HI.out.2.2, unpack_nil]; simp
      go_wp2
      go_ret2
      exact ⟨_, by rw [hun.out]; rfl, by rw [hun.out]; exact HI.out.1, HI.out.2.1⟩
    · have hz' : cur.isEmpty = false := by cases cur <;> simp_all
      have HT := Lib.hid (unpack_step cur hz)
      go_wp2_with fail
      refine (rtake_any cur (by omega) _).mono ?_
      rintro e w1 ⟨rfl, hb1⟩
      by_cases hok : (takeB cur).2.2 = 0
      · have hsh := take_shorter cur hok
        have hrow := own_below HI.out.1 hb1
        have hbw := HI.out.2.1.trans (hb1.mono HI.out.2.1.size)
        have HUN : Hid (unpackO s = (unpackO (takeB cur).2.1).map ((pre ++ [(takeB cur).1]) ++ ·)) := by
          unfold Hid
          rw [HI.out.2.2, HT.out, if_pos hok, Option.map_map]
          congr 1
          funext x
          simp
        have hsz := hbw.size
        have hcl : Hid (cur.length = cur.length) := rfl
        clear HI HT
        have hb1' : pre.length + 1 ≤ maxLen := by show _ ≤ 9223372036854775807; omega
        rw [hok]
        generalize hcu : takeB cur = tk at *
        obtain ⟨t, r, e⟩ := tk
        simp only at *
        go_wp2_with (at_builtin; refine wpList_append_own _ rfl _ _ 49 rfl w.heap.size 9 i0 (.string ⟨#[]⟩) 1 16 Tryz.underlying49 hi hz0 hz1 hz2 rfl (by decide) _ _ _ rfl (hrow.alloc _) ⟨w1.heap.size, 0, none⟩ 1 1 [.string ⟨t.toArray⟩] rfl rfl (cell_one_new _ _ _) (by simp [Value.oneCell']) hb1' (by omega) (by simp; omega) ?_; intro v' w2 hown' hgrow _; obtain ⟨g', cap', rfl⟩ := ownsRow_succ hown')
        refine ⟨⟨pre ++ [t], r, some ⟨g', 0, none⟩, cap', by simp, rfl, by simp; omega, by simpa [strs] using hown', ?_, HUN.out⟩, by rw [sizeV_is, sizeV_is]; omega⟩
        exact hbw.trans (((Below.refl w.heap.size w1).alloc hsz _).grown hgrow (by simp; omega) (fun g e => (hrow.lt g e).1))
      · have et := take_err cur hok
        have hun : Hid (unpackB s = ([], 4)) := by unfold Hid unpackB; rw [HI.out.2.2, HT.out, if_neg hok]; rfl
        rw [et]
        go_wp2
        go_ret2
        exact ⟨_, by rw [hun.out]; rfl, by rw [hun.out]; exact World.ownsRow_nil _ _ _ _, HI.out.2.1.trans (hb1.mono HI.out.2.1.size)⟩

end Go.Proofs.YtijacbnoemjgcaaGreatDoor

namespace Go.Proofs.YtijacbnoemjgcaaGreatDoor
open Go.RowKit Go.Shelf

def Cli.cells (x : Cli) : List Value := [.int .i64 x.c, .int .i64 x.n, .int .i64 x.e]
def cellsC (l : List Cli) : List Value := l.flatMap Cli.cells
theorem cellsC_length (l : List Cli) : (cellsC l).length = l.length * 3 := by
  induction l with
  | nil => rfl
  | cons p l ih => rw [cellsC, List.flatMap_cons, List.length_append]; unfold cellsC at ih; rw [ih]; simp [Cli.cells]; omega
theorem cellsC_append (a b : List Cli) : cellsC (a ++ b) = cellsC a ++ cellsC b := by simp [cellsC]
theorem cellsC_get (l : List Cli) (k : Nat) (hk : k < l.length) : (cellsC l)[k * 3]? = some (.int .i64 l[k].c) ∧ (cellsC l)[k * 3 + 1]? = some (.int .i64 l[k].n) ∧ (cellsC l)[k * 3 + 2]? = some (.int .i64 l[k].e) := by
  induction l generalizing k with
  | nil => simp at hk
  | cons x l ih =>
    cases k with
    | zero => exact ⟨rfl, rfl, rfl⟩
    | succ k =>
      have := ih k (by simpa using hk)
      have e : ∀ i, (cellsC (x :: l))[(k + 1) * 3 + i]? = (cellsC l)[k * 3 + i]? := by
        intro i
        rw [cellsC, List.flatMap_cons, List.getElem?_append_right (by simp [Cli.cells]; omega)]
        rw [show (k + 1) * 3 + i - (Cli.cells x).length = k * 3 + i by simp [Cli.cells]; omega]
        rfl
      have e0 := e 0
      simp only [Nat.add_zero] at e0
      rw [e0, e 1, e 2]
      simpa using this
theorem rd_cli {w : World} {B : Nat} {v : Value} {l : List Cli} (h : Rd w B 3 v l.length (cellsC l)) {k : Nat} (hk : k < l.length) :
    ∃ g off c, v = .slice (some ⟨g, off, none⟩) l.length c ∧ g < B ∧ w.cell? ⟨g, off + k * 3, none⟩ = some (.int .i64 l[k].c) ∧ w.cell? ⟨g, off + k * 3 + 1, none⟩ = some (.int .i64 l[k].n) ∧ w.cell? ⟨g, off + k * 3 + 2, none⟩ = some (.int .i64 l[k].e) := by
  obtain ⟨_, A, c, rfl, hnc, h0⟩ := h
  rcases h0 with h0 | ⟨g, off, rfl, hg, hc⟩
  · omega
  · obtain ⟨h1, h2, h3⟩ := cellsC_get l k hk
    exact ⟨g, off, c, rfl, hg, hc _ _ h1, hc _ _ h2, hc _ _ h3⟩
/-- The document's moot at block b. -/
structure RMtP (base : Nat) (w : World) (b : Nat) (lv cv : Value) (L : List Cmd) (C : List Cli) : Prop where
  box : Blk w b 30 #[lv, cv]
  row : w.ownsRow base 68 3 lv L.length (cellsX L)
  cli : w.ownsRow base 71 3 cv C.length (cellsC C)
  hb : base ≤ b
theorem RMtP.below {base b : Nat} {w w' : World} {lv cv : Value} {L : List Cmd} {C : List Cli} (h : RMtP base w b lv cv L C) (hb : Below w.heap.size w w') : RMtP base w' b lv cv L C := ⟨h.box.below hb h.box.lt, own_below h.row hb, own_below h.cli hb, h.hb⟩
theorem blk3U {w : World} {g : Nat} {t : TypeId} {a b c : Value} (h : Blk w g t #[a, b, c]) : w.cell? ⟨g, 0, none⟩ = some a ∧ w.cell? ⟨g, 1, none⟩ = some b ∧ w.cell? ⟨g, 2, none⟩ = some c ∧ w.frozen? ⟨g, 0, none⟩ = false ∧ w.frozen? ⟨g, 1, none⟩ = false ∧ w.frozen? ⟨g, 2, none⟩ = false :=
  ⟨h.cell 0, h.cell 1, h.cell 2, h.frozen 0, h.frozen 1, h.frozen 2⟩
theorem below_set3U {w w1 : World} {B g : Nat} (h : Below B w w1) (a b c : Value) (hg : B ≤ g := by exact Nat.le_refl _) : Below B w (((w1.setCell ⟨g, 0, none⟩ a).setCell ⟨g, 1, none⟩ b).setCell ⟨g, 2, none⟩ c) :=
  ((h.setCell (p := ⟨g, 0, none⟩) hg a).setCell (p := ⟨g, 1, none⟩) hg b).setCell (p := ⟨g, 2, none⟩) hg c

set_option maxHeartbeats 2000000 in
set_option maxRecDepth 100000 in
theorem rof_any (base b : Nat) (lv cv : Value) (L : List Cmd) (C : List Cli) (i : Int) (w : World) (hp : RMtP base w b lv cv L C) (hC : C.length ≤ 1000) :
    Calls Tryz.prog 22 #[.pointer (some ⟨b, 0, none⟩), .int .i64 i] w fun e w' => e = .returned (.agg #[.int .i64 (ofC C i).c, .int .i64 (ofC C i).n, .int .i64 (ofC C i).e]) ∧ Below w.heap.size w w' := by
  have hb0 := (Below.refl w.heap.size w).alloc (Nat.le_refl _) (.cells #[.int .i64 0, .int .i64 0, .int .i64 0] 71)
  have HZ : Hid (Blk (w.alloc (.cells #[.int .i64 0, .int .i64 0, .int .i64 0] 71)) w.heap.size 71 #[.int .i64 0, .int .i64 0, .int .i64 0]) := Blk.new w _ _
  have hpW := hp.below hb0
  have HR := Lib.hid (Rd.of_own hpW.cli)
  have b1 : (w.alloc (.cells #[.int .i64 0, .int .i64 0, .int .i64 0] 71)).cell? ⟨b, 1, none⟩ = some cv := hpW.box.cell 1
  have HB := Lib.hid hb0
  obtain ⟨Ac, cc, rfl⟩ := own_shape hp.cli
  clear hp hpW hb0
  go_enter Tryz.func22, Tryz.ntmps22
  go_wp2_with fail
  generalize w.alloc (.cells #[.int .i64 0, .int .i64 0, .int .i64 0] 71) = W at *
  go_loopw [12] (fun ix wr => ∃ k : Nat, k ≤ C.length ∧ ix = .int .i64 k ∧ Hid (ofC C i = ofC (C.drop k) i) ∧ Hid (Below W.heap.size W wr)) (fun ix _ => C.length - (intOf ix).toNat)
  case atStart => exact ⟨0, Nat.zero_le _, rfl, rfl, Below.refl _ _⟩
  case round =>
    obtain ⟨k, hk, rfl, HO, HW⟩ := hrel
    have hz := HZ.out.below HW.out HZ.out.lt
    have hwsz := HW.out.size
    by_cases hlt : k < C.length
    · obtain ⟨g, off, c1, hV, hg, q0, q1, q2⟩ := rd_cli (HR.out.below HW.out) hlt
      injection hV with hA _ hcc
      subst hA
      clear hcc
      have hd := Lib.hid (HO.out.trans (ofC_drop C i k hlt))
      generalize C[k] = x at *
      obtain ⟨xc, xn, xe⟩ := x
      simp only at hd q0 q1 q2
      cases hq : (xc == i) with
      | true =>
        have he : Hid (ofC C i = ⟨xc, xn, xe⟩) := by unfold Hid; rw [hd.out, if_pos (by simpa using hq)]
        have hz2 := hz.alloc (.cells #[.int .i64 xc, .int .i64 xn, .int .i64 xe] 71)
        obtain ⟨z0, z1, z2, f0, f1, f2⟩ := blk3U hz2
        have hbf := Lib.hid (HB.out.trans ((HW.out.alloc hwsz (.cells #[.int .i64 xc, .int .i64 xn, .int .i64 xe] 71)).mono HB.out.size))
        clear hz hz2
        go_wp2_with fail
        refine bodyPost_ret (v := .agg #[.int .i64 xc, .int .i64 xn, .int .i64 xe]) (by simp [results, Tryz.results22, go_sem, z0, z1, z2]) rfl ⟨by rw [he.out], below_set3U hbf.out _ _ _⟩
      | false =>
        have he : Hid (ofC C i = ofC (C.drop (k + 1)) i) := by unfold Hid; rw [hd.out, if_neg (by simpa using hq)]
        clear hz
        go_wp2_with fail
        go_roundw
        case rel => exact ⟨k + 1, by omega, by go_num, he.out, HW.out.alloc hwsz _⟩
        case measure => simp [intOf]; omega
    · have he : Hid (ofC C i = ⟨0, 0, 0⟩) := by unfold Hid; rw [HO.out, List.drop_of_length_le (by omega)]; rfl
      obtain ⟨z0, z1, z2, f0, f1, f2⟩ := blk3U hz
      have hbf := Lib.hid (HB.out.trans (HW.out.mono HB.out.size))
      clear hz
      go_wp2_with fail
      refine bodyPost_ret (v := .agg #[.int .i64 0, .int .i64 0, .int .i64 0]) (by simp [results, Tryz.results22, go_sem, z0, z1, z2]) rfl ⟨by rw [he.out], below_set3U hbf.out _ _ _⟩

end Go.Proofs.YtijacbnoemjgcaaGreatDoor

namespace Go.Proofs.YtijacbnoemjgcaaGreatDoor
open Go.RowKit Go.Shelf
theorem rblkB {w1 w2 : World} (h : Below (w1.alloc (.cells #[.int .i64 0, .slice none 0 0, .int .i64 0, .int .i64 0, .int .i64 0, .int .i64 0] 92)).heap.size (w1.alloc (.cells #[.int .i64 0, .slice none 0 0, .int .i64 0, .int .i64 0, .int .i64 0, .int .i64 0] 92)) w2) :
    Blk w2 w1.heap.size 92 (cfgCells 0 (.slice none 0 0) ⟨0, 0, 0, 0⟩) := Blk.below (Blk.new w1 _ _) h (by simp)

end Go.Proofs.YtijacbnoemjgcaaGreatDoor
