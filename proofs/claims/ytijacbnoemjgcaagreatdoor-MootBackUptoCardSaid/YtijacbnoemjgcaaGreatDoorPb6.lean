/- Laws of the builtins append (in room), append of a list that reads, clear, over rows of the call's own. -/
import Derived.Test.YtijacbnoemjgcaaGreatDoorPb1
import Derived.Maps.AppendAt
import Derived.RegionTactic
import Derived.OwnWalk
import Derived.Deep.RegionLaw
import Derived.Lib.SliceRun
import Derived.Test.YtijacbnoemjgcaaGreatDoorRows
import Derived.Shelf.Abstract
set_option linter.unusedVariables false
set_option linter.unusedSimpArgs false
set_option linter.unnecessarySimpa false
namespace Go.Proofs.YtijacbnoemjgcaaGreatDoor
open Go.RowKit

section
variable {P : Program}

theorem own_shrink {w : World} {base : Nat} {e : TypeId} {size g n cap k : Nat} {xs : List Value} (h : w.ownsRow base e size (.slice (some ⟨g, 0, none⟩) n cap) n xs) (hk : k ≤ n) :
    w.ownsRow base e size (.slice (some ⟨g, 0, none⟩) k cap) k (xs.take (k * size)) := by
  obtain ⟨hl, h2⟩ := h
  have hks : k * size ≤ n * size := Nat.mul_le_mul_right _ hk
  refine ⟨by rw [List.length_take, hl]; omega, ?_⟩
  rcases h2 with ⟨h', _⟩ | ⟨g', cap', cur, h', hbg, hg, hnc, hcm, hcs, htake⟩
  · simp at h'
  · simp only [Value.slice.injEq, Option.some.injEq, Addr.mk.injEq, and_true, true_and] at h'
    obtain ⟨rfl, rfl⟩ := h'
    refine .inr ⟨g, cap, cur, rfl, hbg, hg, by omega, hcm, hcs, ?_⟩
    rw [← htake, List.take_take, Nat.min_eq_left hks]

theorem wp_append_fits {w : World} {o : Oper} {a : Act} {K : Act → World → Prop} {Q : Exit → Act → World → Prop} (s x : Operand) (t : TypeId)
    (ho : o.op = .call { callee := .builtin .append, args := #[s, x], argTypes := #[t, t] })
    (base : Nat) (e : TypeId) (i : TypeInfo) (size : Nat) (ht : P.underlying t = some (.slice e)) (hi : P.info? e = some i) (hsize : i.size = size)
    (g n cap : Nat) (xs : List Value) (hs : a.eval s = .slice (some ⟨g, 0, none⟩) n cap) (hown : w.ownsRow base e size (.slice (some ⟨g, 0, none⟩) n cap) n xs)
    (ad : Addr) (m c : Nat) (news : List Value) (hx : a.eval x = .slice (some ad) m c) (hl : news.length = m * size) (hnews : ∀ j u, news[j]? = some u → w.cell? (ad.add j) = some u) (h1 : ∀ u ∈ news, u.oneCell' = true)
    (hroom : n + m ≤ cap)
    (h : ∀ w', w'.ownsRow base e size (.slice (some ⟨g, 0, none⟩) (n + m) cap) (n + m) (xs ++ news) → w.grownBy w' (some g) → K (a.put o.dst (.slice (some ⟨g, 0, none⟩) (n + m) cap)) w') : o.wp P a w K Q := by
  obtain ⟨w', hrun, h2, h3⟩ := run_append_fits (P := P) w base t o.type e i size ht hi hsize g n cap xs hown ad m c news hl hnews h1 hroom
  unfold Oper.wp execOp
  simp only [ho, resolve, invoke, builtin, Sem.run_bind, Sem.run_pure, Result.andThen_ok, List.map_toArray, List.map_cons, List.map_nil, hs, hx, hrun]
  exact h w' h2 h3

theorem step_append_fits {w : World} {ops : Array Oper} {o : Oper} {a : Act} {K : Act → World → Prop} {Q : Exit → Act → World → Prop} {E : Prop} (hgd : o.guard = none) (s x : Operand) (t : TypeId)
    (ho : o.op = .call { callee := .builtin .append, args := #[s, x], argTypes := #[t, t] })
    (base : Nat) (e : TypeId) (i : TypeInfo) (size : Nat) (ht : P.underlying t = some (.slice e)) (hi : P.info? e = some i) (hsize : i.size = size)
    (g n cap : Nat) (xs : List Value) (hs : a.eval s = .slice (some ⟨g, 0, none⟩) n cap) (hown : w.ownsRow base e size (.slice (some ⟨g, 0, none⟩) n cap) n xs)
    (ad : Addr) (m c : Nat) (news : List Value) (hx : a.eval x = .slice (some ad) m c) (hl : news.length = m * size) (hnews : ∀ j u, news[j]? = some u → w.cell? (ad.add j) = some u) (h1 : ∀ u ∈ news, u.oneCell' = true)
    (hroom : n + m ≤ cap)
    (h : ∀ w', w'.ownsRow base e size (.slice (some ⟨g, 0, none⟩) (n + m) cap) (n + m) (xs ++ news) → w.grownBy w' (some g) → K (a.put o.dst (.slice (some ⟨g, 0, none⟩) (n + m) cap)) w') :
    if Region.wanted o (yielded ops a.tmps) = true then Oper.wp P o a w K Q else E := by
  have hw : Region.wanted o (yielded ops a.tmps) = true := by simp [Region.wanted, hgd]
  rw [if_pos hw]
  exact wp_append_fits s x t ho base e i size ht hi hsize g n cap xs hs hown ad m c news hx hl hnews h1 hroom h

/-- clear(s[k:n]) of a row of the call's own: the first k elements stay. -/
theorem run_clear_own (w : World) (t e ty : TypeId) (i : TypeInfo) (z : Value) (size : Nat) (ht : P.underlying t = some (.slice e)) (hi : P.info? e = some i) (hz : i.zero = some z) (hsize : i.size = size)
    (hzs : z.cells.size = size) (hz1 : ∀ u ∈ z.cells.toList, u.oneCell' = true) (hsz : 0 < size)
    (base g k n cap m c : Nat) (xs : List Value) (hown : w.ownsRow base e size (.slice (some ⟨g, 0, none⟩) k cap) k xs) (hkn : k + m ≤ n) (hn : n ≤ cap) (hm : 0 < m) :
    ∃ w', (Builtin.clear_ #[t] ty #[.slice (some ⟨g, k * size, none⟩) m c]).run P w = .ok (.tuple #[]) w' ∧ w'.ownsRow base e size (.slice (some ⟨g, 0, none⟩) k cap) k xs ∧ w.grownBy w' (some g) := by
  subst hsize
  have hlen := hown.1
  rcases hown.2 with ⟨h', _⟩ | ⟨g', cap', cur, h', hbg, hg, hnc, hcm, hcs, htake⟩
  · simp at h'
  · simp only [Value.slice.injEq, Option.some.injEq, Addr.mk.injEq, and_true, true_and] at h'
    obtain ⟨rfl, rfl⟩ := h'
    have hzl : (Builtin.zeroCells z.cells m).toList.length = m * i.size := by rw [Array.length_toList, size_zeroCells, hzs]
    have hone : ∀ u ∈ (Builtin.zeroCells z.cells m).toList, u.oneCell' = true := by
      intro u hu
      obtain ⟨j, hj, rfl⟩ := List.getElem_of_mem hu
      rw [hzl] at hj
      have hmod : j % z.cells.size < z.cells.size := Nat.mod_lt _ (by omega)
      simp only [Builtin.zeroCells, Array.getElem_toList, Array.getElem_map, Array.getElem_range]
      rw [getElem!_pos z.cells _ hmod]
      exact hz1 _ (by simp)
    have hfit : k * i.size + m * i.size ≤ cur.size := by rw [hcs, ← Nat.add_mul]; exact Nat.mul_le_mul_right _ (by omega)
    have hst := run_storeCells_at P g (k * i.size) e (Builtin.zeroCells z.cells m).toList 0 cur w hg (by rw [hzl]; simpa using hfit) hone
    simp only [Nat.add_zero] at hst
    obtain ⟨m', rfl⟩ : ∃ m', m = m' + 1 := ⟨m - 1, by omega⟩
    have hv : ∀ w, (zeroValue e).run P w = .ok z w := fun w => by simp [zeroValue, typeInfo, hi, hz]
    refine ⟨_, by simp [Builtin.clear_, run_underlying ht, hv, hst]; rfl, ⟨hlen, .inr ⟨g, cap, _, rfl, hbg, setRow_heap w g cur _ e _ hg, hnc, hcm, ?_, ?_⟩⟩, ⟨rfl, rfl, rfl, by simp, fun j _ hj => setRow_other w g j _ (fun e => hj (by simp [e]))⟩⟩
    · simp only [List.size_toArray, List.length_append, List.length_take, List.length_drop, Array.length_toList] at hzl ⊢
      omega
    · simp only
      rw [htake, ← hlen]
      exact List.take_left

theorem wpList_clear_own {w : World} {ops : Array Oper} {rest : List Oper} {o : Oper} {a : Act} {Q : Exit → Act → World → Prop} (hgd : o.guard = none) (s : Operand) (t : TypeId)
    (ho : o.op = .call { callee := .builtin .clear, args := #[s], argTypes := #[t] })
    (e : TypeId) (i : TypeInfo) (z : Value) (size : Nat) (ht : P.underlying t = some (.slice e)) (hi : P.info? e = some i) (hz : i.zero = some z) (hsize : i.size = size)
    (hzs : z.cells.size = size) (hz1 : ∀ u ∈ z.cells.toList, u.oneCell' = true) (hsz : 0 < size)
    (base g k n cap m c : Nat) (xs : List Value) (hs : a.eval s = .slice (some ⟨g, k * size, none⟩) m c) (hown : w.ownsRow base e size (.slice (some ⟨g, 0, none⟩) k cap) k xs) (hkn : k + m ≤ n) (hn : n ≤ cap) (hm : 0 < m)
    (h : ∀ w', w'.ownsRow base e size (.slice (some ⟨g, 0, none⟩) k cap) k xs → w.grownBy w' (some g) → wpList P ops Q rest (a.put o.dst (.tuple #[])) w') : wpList P ops Q (o :: rest) a w :=
  wpList_plain hgd fun K hK => by
    obtain ⟨w', hrun, h2, h3⟩ := run_clear_own (P := P) w t e o.type i z size ht hi hz hsize hzs hz1 hsz base g k n cap m c xs hown hkn hn hm
    unfold Oper.wp execOp
    simp only [ho, resolve, invoke, builtin, Sem.run_bind, Sem.run_pure, Result.andThen_ok, List.map_toArray, List.map_cons, List.map_nil, hs, hrun]
    exact hK _ _ (h w' h2 h3)
end

end Go.Proofs.YtijacbnoemjgcaaGreatDoor

namespace Go.Proofs.YtijacbnoemjgcaaGreatDoor
open Go.RowKit Go.Shelf

def ints (l : List Int) : List Value := l.map (.int .i64)
theorem ints_length (l : List Int) : (ints l).length = l.length := by simp [ints]
theorem ints_append (l m : List Int) : ints (l ++ m) = ints l ++ ints m := by simp [ints]
theorem ints_get (l : List Int) (k : Nat) (hk : k < l.length) : (ints l)[k]? = some (.int .i64 l[k]) := by simp [ints, hk]
theorem ints_one (l : List Int) : ∀ u ∈ ints l, u.oneCell' = true := by intro u hu; simp [ints] at hu; obtain ⟨x, _, rfl⟩ := hu; rfl

theorem rd_get1 {w : World} {B : Nat} {v : Value} {l : List Int} (h : Rd w B 1 v l.length (ints l)) {k : Nat} (hk : k < l.length) :
    ∃ g off c, v = .slice (some ⟨g, off, none⟩) l.length c ∧ g < B ∧ w.cell? ⟨g, off + k, none⟩ = some (.int .i64 l[k]) := by
  obtain ⟨_, A, c, rfl, _, h0 | ⟨g, off, rfl, hg, hc⟩⟩ := h
  · omega
  · exact ⟨g, off, c, rfl, hg, hc _ _ (ints_get l k hk)⟩

/-- where a number stands first -/
def idxS (x : Int) : List Int → Int
  | [] => -1
  | r :: l => if x = r then 0 else (if idxS x l = -1 then -1 else idxS x l + 1)

theorem idxS_at (x : Int) (l : List Int) (k : Nat) (hk : k < l.length) (h : x = l[k]) (hb : ∀ j (hj : j < k), x ≠ l[j]) : idxS x l = k := by
  induction l generalizing k with
  | nil => simp at hk
  | cons a l ih =>
    cases k with
    | zero => simp at h; simp [idxS, h]
    | succ k =>
      have h0 := hb 0 (by omega)
      have hi := ih k (by simpa using hk) (by simpa using h) (fun j hj => by simpa using hb (j + 1) (by omega))
      simp at h0
      rw [idxS, if_neg h0, hi, if_neg (by omega)]; rfl
theorem idxS_none (x : Int) (l : List Int) (h : ∀ j (hj : j < l.length), x ≠ l[j]) : idxS x l = -1 := by
  induction l with
  | nil => rfl
  | cons a l ih =>
    have h0 := h 0 (by simp)
    simp at h0
    rw [idxS, if_neg h0, ih (fun j hj => by have := h (j + 1) (by simpa using hj); simpa using this), if_pos rfl]

def inS (x : Int) (l : List Int) : Bool := l.contains x
theorem idxS_in (x : Int) (l : List Int) : decide (0 ≤ idxS x l) = inS x l := by
  induction l with
  | nil => rfl
  | cons a l ih =>
    unfold inS at ih ⊢
    rw [idxS, List.contains_cons]
    by_cases h : x = a
    · simp [h]
    · rw [if_neg h]
      have hb : (x == a) = false := by simpa using h
      rw [hb, Bool.false_or, ← ih]
      by_cases h2 : idxS x l = -1
      · rw [if_pos h2, h2]
      · rw [if_neg h2]
        have : ∀ l : List Int, -1 ≤ idxS x l := by
          intro l
          induction l with
          | nil => simp [idxS]
          | cons b l ih =>
            rw [idxS]
            split
            · omega
            · split <;> omega
        have := this l
        rw [decide_eq_true (by omega), decide_eq_true (by omega)]

set_option maxHeartbeats 400000 in
theorem index_any (v : Value) (l : List Int) (x : Int) (w : World) (B : Nat) (hr : Rd w B 1 v l.length (ints l)) (hm : l.length ≤ 9223372036854775807) :
    Calls Tryz.prog 77 #[v, .int .i64 x] w fun e w' => e = .returned (.int .i64 (idxS x l)) ∧ w = w' := by
  have HR := Lib.hid hr
  obtain ⟨_, A, c, rfl, _, _⟩ := hr
  go_enter Tryz.func77, Tryz.ntmps77
  go_wp2
  go_loopw [5, 8] (fun _ s wr => ∃ k : Nat, k ≤ l.length ∧ s = .int .i64 k ∧ wr = w ∧ Hid (∀ j (hj : j < k) (hj' : j < l.length), x ≠ l[j])) (fun _ i _ => l.length - (intOf i).toNat)
  case atStart => exact ⟨0, Nat.zero_le _, rfl, rfl, fun j hj => by omega⟩
  case round =>
    obtain ⟨k, hk, rfl, rfl, hno⟩ := hrel
    by_cases hlt : k < l.length
    · obtain ⟨g, off, c', hV, hg, hc⟩ := rd_get1 HR.out hlt
      injection hV with hA _ hcc
      subst hA
      clear hcc
      cases hq : (x == l[k]) with
      | true =>
        have HQ := Lib.hid hq
        go_wp2
        go_ret
        refine ⟨?_, rfl⟩
        rw [idxS_at x l k hlt (by simpa using HQ.out) (fun j hj => hno.out j hj (by omega))]; rfl
      | false =>
        have HQ := Lib.hid hq
        go_wp2
        go_roundw
        case rel =>
          refine ⟨k + 1, by omega, by go_num, by trivial, ?_⟩
          intro j hj hj'
          rcases Nat.lt_or_ge j k with h | h
          · exact hno.out j h hj'
          · obtain rfl : j = k := by omega
            simpa using HQ.out
        case measure => simp [intOf]; omega
    · go_wp2
      go_ret
      refine ⟨?_, rfl⟩
      rw [idxS_none x l (fun j hj => hno.out j (by omega) hj)]; rfl

theorem contains_any (v : Value) (l : List Int) (x : Int) (w : World) (B : Nat) (hr : Rd w B 1 v l.length (ints l)) (hm : l.length ≤ 9223372036854775807) :
    Calls Tryz.prog 72 #[v, .int .i64 x] w fun e w' => e = .returned (.bool (inS x l)) ∧ w = w' := by
  go_enter Tryz.func72, Tryz.ntmps72
  go_wp2_with (go_at_call 77; refine (index_any v l x _ B hr hm).mono ?_; rintro e w' ⟨rfl, rfl⟩)
  go_ret
  refine ⟨?_, rfl⟩
  rw [idxS_in]
  rfl

def groupB (g : Int) : Bool := decide (1 ≤ g) && decide (g ≤ 4)
theorem group_any (g : Int) (w : World) :
    Calls Tryz.prog 71 #[.int .i64 g] w fun e w' => e = .returned (.bool (groupB g)) ∧ w = w' := by
  cases h : decide (1 ≤ g) with
  | false =>
    go_enter Tryz.func71, Tryz.ntmps71
    go_wp2
    go_ret
    refine ⟨by simp [groupB, h], rfl⟩
  | true =>
    go_enter Tryz.func71, Tryz.ntmps71
    go_wp2
    go_ret
    refine ⟨by simp [groupB, h], rfl⟩

theorem isNaN_any (g : Int) (w : World) :
    Calls Tryz.prog 113 #[.int .i64 g] w fun e w' => e = .returned (.bool false) ∧ w = w' := by
  go_enter Tryz.func113, Tryz.ntmps113
  go_wp2
  go_ret
  exact ⟨by simp, rfl⟩
theorem less_any (a b : Int) (w : World) :
    Calls Tryz.prog 93 #[.int .i64 a, .int .i64 b] w fun e w' => e = .returned (.bool (decide (a < b))) ∧ w = w' := by
  go_enter Tryz.func93, Tryz.ntmps93
  go_wp2_with (go_at_call 113; refine (isNaN_any _ _).mono ?_; rintro e w' ⟨rfl, rfl⟩)
  go_ret
  exact ⟨rfl, rfl⟩

end Go.Proofs.YtijacbnoemjgcaaGreatDoor
