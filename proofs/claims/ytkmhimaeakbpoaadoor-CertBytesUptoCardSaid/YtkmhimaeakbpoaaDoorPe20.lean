/- slices.Chunk of texts, two by two. -/
import Derived.Test.YtkmhimaeakbpoaaDoorPe14
import Derived.Test.YtkmhimaeakbpoaaDoorPe17
import Derived.Test.YtkmhimaeakbpoaaDoorPe19
import Derived.Shelf.Abstract
import Derived.Shelf.RegionOpen
import Derived.LoopNIn
import Derived.LoopIn
set_option linter.unusedVariables false
set_option linter.unusedSimpArgs false
set_option linter.unnecessarySimpa false
namespace Go.Proofs.YtkmhimaeakbpoaaDoor
open Go.RowKit Go.Shelf
attribute [local go_sem] Oper.semAt_some

set_option maxHeartbeats 1000000 in
theorem chunk_in (n : Nat) (A : Option Addr) (len cap : Nat) (w : World) :
    CallsIn Fence.wide n Tryd.prog 43 #[.slice A len cap, .int .i64 2] w fun e w' => e = .returned (.func (.func 57) #[] #[.pointer (some ⟨w.heap.size, 0, none⟩), .pointer (some ⟨w.heap.size + 1, 0, none⟩)]) ∧ w' = (w.alloc (.cells #[.slice A len cap] 84)).alloc (.cells #[.int .i64 2] 3) := by
  refine callsIn_of_wp Tryd.func43 rfl trivial ?_ rfl
  simp only [Tryd.ntmps43, List.size_toArray, List.length_cons, List.length_nil, Nat.reduceAdd, Nat.reduceSub, Array.replicate_succ, Array.replicate_zero, List.push_toArray, List.append_toArray, List.nil_append, List.cons_append]
  gi_wp2
  go_ret
  exact ⟨by simp, rfl⟩

def chunkV (g off : Nat) (j : Nat) : Array Value := #[.slice (some ⟨g, off + 2 * j, none⟩) 2 2]
theorem range_pre {j q : Nat} (h : j < q) : List.range j ++ [j] <+: List.range q := by
  rw [← List.range_succ]
  exact ⟨(List.range (q - (j + 1))).map (· + (j + 1)), by
    have := List.range_add (n := j + 1) (m := q - (j + 1))
    rw [show j + 1 + (q - (j + 1)) = q by omega] at this
    rw [this]
    congr 1
    apply List.map_congr_left
    intro x _
    omega⟩

set_option maxHeartbeats 1000000 in
set_option maxRecDepth 100000 in
theorem chunk0_seq (n n₀ : Nat) (hn : 1 ≤ n) (g off : Nat) (A : Option Addr) (cap lo : Nat) (w0 : World) (hs : Blk w0 lo 84 #[.slice A 0 cap]) :
    SeqKeep Fence.wide n Tryd.prog 57 #[.pointer (some ⟨lo, 0, none⟩), .pointer (some ⟨lo + 1, 0, none⟩)] (chunkV g off) n₀ lo (lo + 2) (List.range 0) w0 := by
  intro l J Jx W hW hJ hJx hY h0
  show CallsIn Fence.wide n Tryd.prog 57 #[.func (.yield l) #[] #[], .pointer (some ⟨lo, 0, none⟩), .pointer (some ⟨lo + 1, 0, none⟩)] W _
  have c1 := (hs.below hW hs.lt).cell 0
  refine callsIn_of_wp Tryd.func57 rfl trivial ?_ rfl
  simp only [Tryd.ntmps57, List.size_toArray, List.length_cons, List.length_nil, Nat.reduceAdd, Nat.reduceSub, Array.replicate_succ, Array.replicate_zero, List.push_toArray, List.append_toArray, List.nil_append, List.cons_append]
  gi_wp2
  gi_loopw [4] (fun i wr => i = .int .i64 0 ∧ wr = W) (fun i wr => 0)
  case atStart => exact ⟨rfl, rfl⟩
  case round =>
    obtain ⟨rfl, rfl⟩ := hrel
    gi_wp2
    go_end0
    exact ⟨⟨_, rfl⟩, .inl h0⟩

set_option maxHeartbeats 2000000 in
set_option maxRecDepth 100000 in
theorem chunk2_seq (n n₀ : Nat) (hn : 1 ≤ n) (g off q cap lo : Nat) (w0 : World) (hs : Blk w0 lo 84 #[.slice (some ⟨g, off, none⟩) (2 * q) cap]) (h2 : Blk w0 (lo + 1) 3 #[.int .i64 2]) (hcap : 2 * q ≤ cap) (hq : q ≤ 1000000000) (hc63 : cap ≤ 9223372036854775807) (hle : n₀ ≤ w0.heap.size) :
    SeqKeep Fence.wide n Tryd.prog 57 #[.pointer (some ⟨lo, 0, none⟩), .pointer (some ⟨lo + 1, 0, none⟩)] (chunkV g off) n₀ lo (lo + 2) (List.range q) w0 := by
  intro l J Jx W hW hJ hJx hY h0
  show CallsIn Fence.wide n Tryd.prog 57 #[.func (.yield l) #[] #[], .pointer (some ⟨lo, 0, none⟩), .pointer (some ⟨lo + 1, 0, none⟩)] W _
  refine callsIn_of_wp Tryd.func57 rfl trivial ?_ rfl
  simp only [Tryd.ntmps57, List.size_toArray, List.length_cons, List.length_nil, Nat.reduceAdd, Nat.reduceSub, Array.replicate_succ, Array.replicate_zero, List.push_toArray, List.append_toArray, List.nil_append, List.cons_append]
  gi_wp2
  gi_loopw [4] (fun i wr => ∃ j : Nat, j ≤ q ∧ i = .int .i64 (2 * (j : Int)) ∧ Hid (J (List.range j) wr ∧ Blk wr lo 84 #[.slice (some ⟨g, off, none⟩) (2 * q) cap] ∧ Blk wr (lo + 1) 3 #[.int .i64 2])) (fun i wr => 2 * q - (intOf i).toNat)
  case atStart => exact ⟨0, Nat.zero_le _, rfl, h0, hs.below hW hs.lt, h2.below hW h2.lt⟩
  case round =>
    obtain ⟨j, hj, rfl, HI⟩ := hrel
    have c1 := HI.out.2.1.cell 0
    have c2 := HI.out.2.2.cell 0
    by_cases hlt : j < q
    · have hJ1 : J (List.range j) wr.drew := hJ _ _ _ HI.out.1 (Chg.refl _ wr).drew
      obtain ⟨fn, tmps, assign, body, hy, hR⟩ := hY (List.range j) j wr.drew (range_pre hlt) hJ1
      simp only [chunkV] at hy
      have k1 : 2 * (j : Int) < 2 * (q : Int) := by omega
      have k2 : 2 * (j : Int) ≤ 2 * (q : Int) := by omega
      have k3 : (0 : Int) ≤ 2 * (j : Int) := by omega
      have k4 : (2 * (j : Int)).toNat = 2 * j := by omega
      gi_wp2_with fail
      gi_region
      have hmin : min (2 : Int) ((2 * q - 2 * j : Nat) : Int) = 2 := by omega
      have k5 : 2 * (j : Int) + 2 ≤ (cap : Int) := by omega
      have k6 : (2 * (j : Int) + 2).toNat = 2 * j + 2 := by omega
      have k7 : 2 * (j : Int) ≤ 2 * (j : Int) + 2 := by omega
      have k8 : (0 : Int) ≤ 2 * (j : Int) + 2 := by omega
      have HI2 := Lib.hid HI.out.2
      have hY2 := Lib.hid hY
      rw [hmin]
      clear hY HI hmin
      gi_wp2
      refine hR.mono ?_
      rintro e W' (⟨rfl, hJ', hk, hkb⟩ | ⟨rfl, hJx'⟩)
      · have hb1 : Blk W' lo 84 #[.slice (some ⟨g, off, none⟩) (2 * q) cap] := (hkb lo (Nat.le_refl _) (by omega)).trans HI2.out.1
        have hb2 : Blk W' (lo + 1) 3 #[.int .i64 2] := (hkb (lo + 1) (by omega) (by omega)).trans HI2.out.2
        have c1' := hb1.cell 0
        have c2' := hb2.cell 0
        have hfin := Lib.hid (And.intro hJ' (And.intro hb1 hb2))
        rw [← List.range_succ] at hfin
        clear hJ' hk hkb hb1 hb2 c1 c2 hR hy
        gi_wp2
        go_roundw
        case rel => exact ⟨j + 1, by omega, by simp; omega, hfin.out⟩
        case measure => simp [intOf]; omega
      · gi_wp2
        refine bodyPost_ret (results_none rfl _ _ _) rfl ?_
        exact ⟨⟨_, rfl⟩, .inr ⟨_, range_pre hlt, hJx'⟩⟩
    · obtain rfl : j = q := by omega
      gi_wp2
      go_end0
      exact ⟨⟨_, rfl⟩, .inl HI.out.1⟩

theorem chunkY (n n₀ : Nat) (hn : 1 ≤ n) (g q len : Nat) (A : Option Addr) (cap lo : Nat) (w0 : World) (hs : Blk w0 lo 84 #[.slice A len cap]) (h2 : Blk w0 (lo + 1) 3 #[.int .i64 2]) (hlen : len = 2 * q) (hq : q ≤ 1000000000) (hc63 : cap ≤ 9223372036854775807) (hle : n₀ ≤ w0.heap.size) (hA : (A = some ⟨g, 2, none⟩ ∧ 2 * q ≤ cap) ∨ q = 0) :
    SeqKeep Fence.wide n Tryd.prog 57 #[.pointer (some ⟨lo, 0, none⟩), .pointer (some ⟨lo + 1, 0, none⟩)] (chunkV g 2) n₀ lo (lo + 2) (List.range q) w0 := by
  subst hlen
  rcases hA with ⟨rfl, hc⟩ | rfl
  · exact chunk2_seq n n₀ hn g 2 q cap lo w0 hs h2 hc hq hc63 hle
  · exact chunk0_seq n n₀ hn g 2 A cap lo w0 hs
theorem blk_standsK {B : Nat} {g : Nat} {t : TypeId} {cs : Array Value} {A C : World} (h : Blk A g t cs) (hc : Chg (fun k => B ≤ k ∧ ∃ o : Obj, A.heap[k]? = some o ∧ o.isCells = false) A C) : Blk C g t cs := by
  refine (hc.block g h.lt ?_).trans h
  rintro ⟨_, o, ho, hoc⟩
  rw [show A.heap[g]? = _ from h] at ho
  cases ho
  cases hoc
theorem own_standsK {B base size : Nat} {e : TypeId} {v : Value} {n : Nat} {xs : List Value} {A C : World} (h : A.ownsRow base e size v n xs) (hc : Chg (fun k => B ≤ k ∧ ∃ o : Obj, A.heap[k]? = some o ∧ o.isCells = false) A C) : C.ownsRow base e size v n xs := by
  refine hc.owns h ?_
  intro g hg
  rintro ⟨_, o, ho, hoc⟩
  rcases h.2 with ⟨rfl, _⟩ | ⟨g', cap, cur, rfl, _, hgg, _⟩
  · cases hg
  · cases hg
    rw [hgg] at ho
    cases ho
    cases hoc
theorem pre_range {pre : List Nat} {x q : Nat} (h : pre ++ [x] <+: List.range q) : pre.length = x ∧ x < q := by
  have h1 := List.prefix_iff_eq_take.1 h
  have hl := h.length_le
  rw [List.length_append, List.length_singleton, List.length_range] at hl
  have h2 : (pre ++ [x])[pre.length]? = some x := by simp
  rw [h1, List.getElem?_take] at h2
  rw [if_pos (by simp), List.getElem?_range (by omega)] at h2
  injection h2 with h2
  omega

end Go.Proofs.YtkmhimaeakbpoaaDoor
