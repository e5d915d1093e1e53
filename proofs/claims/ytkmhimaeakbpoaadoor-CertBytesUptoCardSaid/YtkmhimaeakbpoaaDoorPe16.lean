/- The iterator over the texts of a list's text. -/
import Derived.Test.YtkmhimaeakbpoaaDoorPe7
import Derived.Test.YtkmhimaeakbpoaaDoorPe15
import Derived.Shelf.Abstract
import Derived.Shelf.RegionOpen
import Derived.LoopNIn
import Derived.LoopIn
set_option linter.unusedVariables false
set_option linter.unusedSimpArgs false
set_option linter.unnecessarySimpa false
namespace Go.Proofs.YtkmhimaeakbpoaaDoor
open Go.RowKit Go.Shelf
attribute [local go_sem] Oper.semAt_some

/-- What the iterator tells, one by one: each text, or at last that there is none. -/
def traceF : Nat → Bs → List (Bs × Bool)
  | _, [] => []
  | 0, _ :: _ => []
  | k + 1, c :: s => if (takeB (c :: s)).2.2 = 0 then ((takeB (c :: s)).1, false) :: traceF k (takeB (c :: s)).2.1 else [([], true)]
def traceB (s : Bs) : List (Bs × Bool) := traceF s.length s
theorem traceF_more : ∀ (k : Nat) (s : Bs), s.length ≤ k → traceF k s = traceB s := by
  intro k
  induction k using Nat.strongRecOn with
  | ind k ih =>
    intro s hs
    unfold traceB
    cases s with
    | nil => cases k <;> rfl
    | cons c s =>
      cases k with
      | zero => simp at hs
      | succ k =>
        simp only [List.length_cons, traceF]
        by_cases h : (takeB (c :: s)).2.2 = 0
        · rw [if_pos h, if_pos h]
          have hl := take_shorter _ h
          simp only [List.length_cons] at hl hs
          rw [ih k (by omega) _ (by omega)]
          rcases Nat.lt_or_ge s.length (k + 1) with h2 | h2
          · rw [ih s.length h2 _ (by omega)]
          · omega
        · rw [if_neg h, if_neg h]
theorem trace_nil : traceB [] = [] := rfl
theorem trace_step (s : Bs) (h0 : s ≠ []) : traceB s = if (takeB s).2.2 = 0 then ((takeB s).1, false) :: traceB (takeB s).2.1 else [([], true)] := by
  cases s with
  | nil => exact absurd rfl h0
  | cons c s =>
    show traceF (s.length + 1) (c :: s) = _
    rw [traceF]
    split
    · rename_i h
      have hl := take_shorter _ h
      simp only [List.length_cons] at hl
      rw [traceF_more _ _ (by omega)]
    · rfl
theorem take_err (s : Bs) (h : ¬ (takeB s).2.2 = 0) : takeB s = ([], [], 4) := by
  rcases take_cases s with e | ⟨e, _⟩
  · exact e
  · exact absurd e h
/-- A list it is where no error is told. -/
theorem unpack_trace : ∀ (n : Nat) (s : Bs), s.length ≤ n → unpackO s = if (traceB s).all (fun x => !x.2) then some ((traceB s).map (·.1)) else none := by
  intro n
  induction n with
  | zero =>
    intro s hs
    have : s = [] := List.eq_nil_of_length_eq_zero (by omega)
    subst this
    rfl
  | succ n ih =>
    intro s hs
    by_cases h0 : s = []
    · subst h0; rfl
    · rw [unpack_step s h0, trace_step s h0]
      by_cases h : (takeB s).2.2 = 0
      · have hsh := take_shorter s h
        rw [if_pos h, if_pos h, ih _ (by omega)]
        by_cases ha : (traceB (takeB s).2.1).all (fun x => !x.2) = true
        · rw [if_pos ha, if_pos (by simp [ha])]
          rfl
        · rw [if_neg ha, if_neg (by simpa using ha)]
          rfl
      · rw [if_neg h, if_neg h, if_neg (by simp)]

def encT (x : Bs × Bool) : Array Value := #[.string ⟨x.1.toArray⟩, .int .i64 (if x.2 then 4 else 0)]

theorem trace_shorter : ∀ (n : Nat) (s : Bs), s.length ≤ n → (traceB s).length ≤ s.length ∧ ∀ x ∈ traceB s, x.1.length ≤ s.length ∧ (x.2 = false → x.1.length < s.length) := by
  intro n
  induction n with
  | zero =>
    intro s hs
    have : s = [] := List.eq_nil_of_length_eq_zero (by omega)
    subst this
    simp [trace_nil]
  | succ n ih =>
    intro s hs
    by_cases h0 : s = []
    · subst h0; simp [trace_nil]
    · have hpos : 0 < s.length := List.length_pos_iff.2 h0
      rw [trace_step s h0]
      by_cases h : (takeB s).2.2 = 0
      · have hsh := take_shorter s h
        rw [if_pos h]
        obtain ⟨i1, i2⟩ := ih (takeB s).2.1 (by omega)
        refine ⟨by simp; omega, ?_⟩
        intro x hx
        rcases List.mem_cons.1 hx with rfl | hx
        · rcases take_cases s with e | ⟨_, e, _⟩
          · rw [e] at h; simp at h
          · have := congrArg List.length e
            simp at this
            exact ⟨by simp only; omega, fun _ => by simp only; omega⟩
        · obtain ⟨j1, j2⟩ := i2 x hx
          exact ⟨by omega, fun hb => by have := j2 hb; omega⟩
      · rw [if_neg h]
        simp
        omega

/-- How long the text in the cell is. -/
def leftAt (bs : Nat) (w : World) : Nat := match w.cell? ⟨bs, 0, none⟩ with
  | some (.string b) => b.size
  | _ => 0
theorem leftAt_is {bs : Nat} {w : World} {s : Bs} (h : w.cell? ⟨bs, 0, none⟩ = some (.string ⟨s.toArray⟩)) : leftAt bs w = s.length := by
  unfold leftAt; rw [h]; show s.toArray.size = _; simp

set_option maxHeartbeats 4000000 in
set_option maxRecDepth 100000 in
theorem texts_seq (n n₀ : Nat) (hn : 1 ≤ n) (hn0 : Low n₀) (s : Bs) (hs : s.length < 4294967281) (bs : Nat) (w0 : World) (hl : Lay w0) (hb : Blk w0 bs 9 #[.string ⟨s.toArray⟩]) (hf : Far bs) (hle : n₀ ≤ w0.heap.size) :
    SeqCell Fence.wide n Tryd.prog 65 #[.pointer (some ⟨bs, 0, none⟩)] encT n₀ bs (traceB s) w0 := by
  intro l J Jx W hW hJ hJx hY h0
  show CallsIn Fence.wide n Tryd.prog 65 #[.func (.yield l) #[] #[], .pointer (some ⟨bs, 0, none⟩)] W _
  refine callsIn_of_wp Tryd.func65 rfl trivial ?_ rfl
  simp only [Tryd.ntmps65, List.size_toArray, List.length_cons, List.length_nil, Nat.reduceAdd, Nat.reduceSub, Array.replicate_succ, Array.replicate_zero, List.push_toArray, List.append_toArray, List.nil_append, List.cons_append]
  gi_wp2
  gi_loopw [] (fun wr => ∃ (pre : List (Bs × Bool)) (cur : Bs), Hid (cur.length ≤ s.length ∧ Blk wr bs 9 #[.string ⟨cur.toArray⟩] ∧ traceB s = pre ++ traceB cur ∧ J pre wr ∧ Lay wr ∧ w0.heap.size ≤ wr.heap.size)) (fun wr => leftAt bs wr)
  case atStart => exact ⟨[], s, Nat.le_refl _, hb.below hW hb.lt, rfl, h0, hl.later hW, hW.size⟩
  case round =>
    obtain ⟨pre, cur, HI⟩ := hrel
    have hc : wr.cell? ⟨bs, 0, none⟩ = some (.string ⟨cur.toArray⟩) := HI.out.2.1.cell 0
    by_cases hz : cur = []
    · subst hz
      gi_wp2
      go_end0
      have hT : traceB s = pre := by rw [HI.out.2.2.1, trace_nil, List.append_nil]
      exact ⟨⟨_, rfl⟩, .inl (by rw [hT]; exact HI.out.2.2.2.1)⟩
    · have hz' : cur.isEmpty = false := by cases cur <;> simp_all
      have HT := trace_step cur hz
      have hct := HI.out.1
      gi_wp2_with fail
      refine ⟨trivial, ?_⟩
      refine (callsIn_wide.2 (take_any cur (by omega) _ HI.out.2.2.2.2.1)).mono ?_
      rintro e w1 ⟨rfl, hb1⟩
      have hl1 : Lay w1 := HI.out.2.2.2.2.1.later hb1
      have hJ1 : J pre w1 := hJ _ _ _ HI.out.2.2.2.1 (Chg.of_below hb1)
      have hB1 : Blk w1 bs 9 #[.string ⟨cur.toArray⟩] := HI.out.2.1.below hb1 HI.out.2.1.lt
      by_cases hok : (takeB cur).2.2 = 0
      · rw [if_pos hok] at HT
        obtain ⟨fn, tmps, assign, body, hy, hR⟩ := hY pre ((takeB cur).1, false) w1 ⟨traceB (takeB cur).2.1, by rw [HI.out.2.2.1, HT]; simp⟩ hJ1
        simp only [encT, if_neg Bool.false_ne_true] at hy
        rw [hok]
        have hsh := take_shorter cur hok
        have hlc : leftAt bs wr = cur.length := leftAt_is hc
        have hls := HI.out.2.2.2.2.2
        have HTr : traceB s = pre ++ traceB cur := HI.out.2.2.1
        clear HI hc
        gi_wp2
        refine hR.mono ?_
        rintro e W' (⟨rfl, hJ', hk, hkb⟩ | ⟨rfl, hJx'⟩)
        · have hB' : Blk W' bs 9 #[.string ⟨cur.toArray⟩] := hkb.trans hB1
          have hc' := hB'.cell 0
          have hf' := hB'.frozen 0
          gi_wp2
          have hS : ∀ u, Blk (W'.setCell ⟨bs, 0, none⟩ u) bs 9 #[u] := fun u => hB'.set_ 0 u
          have hC : ∀ u, Chg (fun k => k = bs) W' (W'.setCell ⟨bs, 0, none⟩ u) := fun u => (Chg.refl (fun k => k = bs) W').setCell (p := ⟨bs, 0, none⟩) (fun _ => rfl) u
          have hlW : Lay W' := hl1.keep hk hn0
          go_roundw
          case rel => exact ⟨pre ++ [((takeB cur).1, false)], (takeB cur).2.1, by omega, hS _, by rw [HTr, HT]; simp, hJ _ _ _ hJ' (hC _), hlW.chg (hC _) hf, by have := (hC (.string ⟨(takeB cur).2.1.toArray⟩)).size; have := hk.size; have := hb1.size; omega⟩
          case measure => rw [leftAt_is ((hS _).cell 0), hlc]; omega
        · gi_wp2
          refine bodyPost_ret (results_none rfl _ _ _) rfl ?_
          exact ⟨⟨_, rfl⟩, .inr ⟨pre ++ [((takeB cur).1, false)], ⟨traceB (takeB cur).2.1, by rw [HTr, HT]; simp⟩, hJx'⟩⟩
      · rw [if_neg hok] at HT
        have et := take_err cur hok
        obtain ⟨fn, tmps, assign, body, hy, hR⟩ := hY pre ([], true) w1 ⟨[], by rw [HI.out.2.2.1, HT]; simp⟩ hJ1
        simp only [encT, if_true] at hy
        rw [et]
        have HTr : traceB s = pre ++ traceB cur := HI.out.2.2.1
        clear HI hc
        gi_wp2
        refine hR.mono ?_
        rintro e W' (⟨rfl, hJ', hk, hkb⟩ | ⟨rfl, hJx'⟩)
        · gi_wp2
          refine bodyPost_ret (results_none rfl _ _ _) rfl ?_
          exact ⟨⟨_, rfl⟩, .inl (by rw [HTr, HT]; exact hJ')⟩
        · gi_wp2
          refine bodyPost_ret (results_none rfl _ _ _) rfl ?_
          exact ⟨⟨_, rfl⟩, .inr ⟨pre ++ [([], true)], ⟨[], by rw [HTr, HT]; simp⟩, hJx'⟩⟩

end Go.Proofs.YtkmhimaeakbpoaaDoor
