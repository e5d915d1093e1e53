/- Last, Has, Forget. -/
import Derived.Test.YtemldlfolacekaaBi
namespace Go.Proofs.Ytemldlfolacekaa
open Go.RowKit Go.Shelf

def hasS (l : List Req) (c n : Int) : Bool := l.any fun r => r.c == c && r.n == n

set_option maxHeartbeats 400000 in
theorem has1_any (r : Req) (x y : Int) (b b2 : Nat) (w : World) (hb : b < w.heap.size) (hb2 : b2 < w.heap.size) (hc : w.cell? ⟨b, 0, none⟩ = some (.int .i64 x)) (hc2 : w.cell? ⟨b2, 0, none⟩ = some (.int .i64 y)) :
    Calls Try.prog 29 #[.agg #[.int .i64 r.c, .int .i64 r.n, .string r.t], .pointer (some ⟨b, 0, none⟩), .pointer (some ⟨b2, 0, none⟩)] w fun e w' => e = .returned (.bool (r.c == x && r.n == y)) ∧ Below w.heap.size w w' := by
  cases hq : (r.c == x) with
  | true =>
    go_enter Try.func29, Try.ntmps29
    go_wp2
    go_ret
    exact ⟨rfl, (Below.refl _ _).alloc (Nat.le_refl _) _⟩
  | false =>
    go_enter Try.func29, Try.ntmps29
    go_wp2
    go_ret
    exact ⟨rfl, (Below.refl _ _).alloc (Nat.le_refl _) _⟩

def idxP (p : Req → Bool) : List Req → Int
  | [] => -1
  | r :: l => if p r = true then 0 else (if idxP p l = -1 then -1 else idxP p l + 1)
theorem idxP_at (p : Req → Bool) (l : List Req) (k : Nat) (hk : k < l.length) (h : p l[k] = true) (hb : ∀ j (hj : j < k), p l[j] = false) : idxP p l = k := by
  induction l generalizing k with
  | nil => simp at hk
  | cons a l ih =>
    cases k with
    | zero => simp at h; simp [idxP, h]
    | succ k =>
      have h0 := hb 0 (by omega)
      have hi := ih k (by simpa using hk) (by simpa using h) (fun j hj => by simpa using hb (j + 1) (by omega))
      simp at h0
      rw [idxP, h0, if_neg (by simp), hi, if_neg (by omega)]; rfl
theorem idxP_none (p : Req → Bool) (l : List Req) (h : ∀ j (hj : j < l.length), p l[j] = false) : idxP p l = -1 := by
  induction l with
  | nil => rfl
  | cons a l ih =>
    have h0 := h 0 (by simp)
    simp at h0
    rw [idxP, h0, if_neg (by simp), ih (fun j hj => by have := h (j + 1) (by simpa using hj); simpa using this), if_pos rfl]
theorem idxP_ge (p : Req → Bool) (l : List Req) : -1 ≤ idxP p l := by
  induction l with
  | nil => simp [idxP]
  | cons a l ih => rw [idxP]; split <;> (try split) <;> omega
theorem idxP_any (p : Req → Bool) (l : List Req) : decide (0 ≤ idxP p l) = l.any p := by
  induction l with
  | nil => simp [idxP]
  | cons a l ih =>
    have hg := idxP_ge p l
    rw [idxP, List.any_cons, ← ih]
    cases p a with
    | true => simp
    | false =>
      simp only [Bool.false_eq_true, if_false, Bool.false_or, decide_eq_decide]
      split <;> omega

set_option maxHeartbeats 800000 in
theorem indexP_any (v : Value) (l : List Req) (p : Req → Bool) (g : Nat) (lb : Array Value) (eg : ∀ (args : Array Value) (w : World), (callFunc g args).run Try.prog w = .ok (.enter g args) w) (w : World)
    (hp : ∀ (W : World) (r : Req), Below w.heap.size w W → Calls Try.prog g (#[.agg #[.int .i64 r.c, .int .i64 r.n, .string r.t]] ++ lb) W fun e w' => e = .returned (.bool (p r)) ∧ Below W.heap.size W w')
    (hr : Rd w w.heap.size 3 v l.length (cellsOf l)) (hm : l.length ≤ 1000000000) :
    Calls Try.prog 30 #[v, .func (.func g) #[] lb] w fun e w' => e = .returned (.int .i64 (idxP p l)) ∧ Below w.heap.size w w' := by
  obtain ⟨hl, A, c, rfl, hnc, hA⟩ := hr
  have HPX := Lib.hid hp
  clear hp
  go_enter Try.func30, Try.ntmps30
  go_wp2
  go_loopw [5, 8] (fun i s wr => ∃ k : Nat, k ≤ l.length ∧ s = .int .i64 k ∧ Below w.heap.size w wr ∧ Hid (∀ j (hj : j < k) (hj' : j < l.length), p l[j] = false)) (fun _ i _ => l.length - (intOf i).toNat)
  case atStart => exact ⟨0, Nat.zero_le _, rfl, Below.refl _ _, fun j hj => by omega⟩
  case round =>
    obtain ⟨k, hk, rfl, hbw, hno⟩ := hrel
    by_cases hlt : k < l.length
    · rcases hA with hA | ⟨g', off, rfl, hg, hcell⟩
      · omega
      obtain ⟨h1, h2, h3⟩ := cellsOf_get l k hlt
      have c1 := (hbw.cell (p := ⟨g', off + k * 3, none⟩) hg).trans (hcell _ _ h1)
      have c2 := (hbw.cell (p := ⟨g', off + k * 3 + 1, none⟩) hg).trans (hcell _ _ h2)
      have c3 := (hbw.cell (p := ⟨g', off + k * 3 + 2, none⟩) hg).trans (hcell _ _ h3)
      have hsz := hbw.size
      clear h1 h2 h3 hcell
      have hcall := HPX.out wr l[k] hbw
      cases hq : p l[k] with
      | true =>
        rw [hq] at hcall
        have HQ := Lib.hid hq
        clear hq
        go_wp2_with (go_at_fn g; refine hcall.mono ?_; rintro e w' ⟨rfl, hb'⟩)
        go_ret
        refine ⟨?_, hbw.trans (hb'.mono hsz)⟩
        rw [idxP_at p l k hlt HQ.out (fun j hj => hno.out j hj (by omega))]; rfl
      | false =>
        rw [hq] at hcall
        have HQ := Lib.hid hq
        clear hq
        go_wp2_with (go_at_fn g; refine hcall.mono ?_; rintro e w' ⟨rfl, hb'⟩)
        go_roundw
        case rel =>
          refine ⟨k + 1, by omega, by go_num, hbw.trans (hb'.mono hsz), ?_⟩
          intro j hj hj'
          rcases Nat.lt_or_ge j k with h | h
          · exact hno.out j h hj'
          · obtain rfl : j = k := by omega
            exact HQ.out
        case measure => simp [intOf]; omega
    · go_wp2
      go_ret
      refine ⟨?_, hbw⟩
      rw [idxP_none p l (fun j hj => hno.out j (by omega) hj)]; rfl

set_option maxHeartbeats 400000 in
theorem containsP_any (v : Value) (l : List Req) (p : Req → Bool) (g : Nat) (lb : Array Value) (eg : ∀ (args : Array Value) (w : World), (callFunc g args).run Try.prog w = .ok (.enter g args) w) (w : World)
    (hp : ∀ (W : World) (r : Req), Below w.heap.size w W → Calls Try.prog g (#[.agg #[.int .i64 r.c, .int .i64 r.n, .string r.t]] ++ lb) W fun e w' => e = .returned (.bool (p r)) ∧ Below W.heap.size W w')
    (hr : Rd w w.heap.size 3 v l.length (cellsOf l)) (hm : l.length ≤ 1000000000) :
    Calls Try.prog 28 #[v, .func (.func g) #[] lb] w fun e w' => e = .returned (.bool (l.any p)) ∧ Below w.heap.size w w' := by
  have HC := Lib.hid (indexP_any v l p g lb eg w hp hr hm)
  have HE := Lib.hid (idxP_any p l)
  obtain ⟨_, A, c, rfl, _⟩ := hr
  clear hp
  go_enter Try.func28, Try.ntmps28
  go_wp2_with (go_at_call 30; refine HC.out.mono ?_; rintro e w' ⟨rfl, hb'⟩)
  all_goals
    go_ret
    refine ⟨?_, hb'⟩
    rw [← HE.out]
    first | rfl | (congr 2; simp; omega)

set_option maxHeartbeats 400000 in
theorem last_any (base B : Nat) (V : Value) (l : List Req) (d : Nat → Int) (c : Int) (w : World) (hp : PoolAt w base B V l d) :
    Calls Try.prog 21 #[.pointer (some ⟨B, 0, none⟩), .int .i64 c] w fun e w' => e = .returned (.int .i64 (if wrongB c 1 = true then 0 else d c.toNat)) ∧ Below w.heap.size w w' := by
  by_cases h : wrongB c 1 = true
  · rw [if_pos h]
    go_enter Try.func21, Try.ntmps21
    go_wp2_with (go_at_call 23; refine (wrong_yes _ _ _ h).mono ?_; rintro e w' ⟨rfl, rfl⟩)
    go_ret
    exact ⟨rfl, Below.refl _ _⟩
  · rw [if_neg h]
    have h' : wrongB c 1 = false := by simpa using h
    obtain ⟨b1, b2, b3, b4⟩ := wrong_bounds h'
    have hd : w.cell? ⟨B, 1 + c.toNat, none⟩ = some (.int .i64 (d c.toNat)) := by rw [Nat.add_comm]; exact hp.num (by omega)
    clear hp h
    go_enter Try.func21, Try.ntmps21
    go_wp2_with (go_at_call 23; refine (wrong_no _ _ _ h').mono ?_; rintro e w' ⟨rfl, rfl⟩)
    try go_quiet (fail)
    try go_wp2
    go_ret
    exact ⟨rfl, Below.refl _ _⟩

set_option maxHeartbeats 400000 in
theorem last_nil (c : Int) (w : World) :
    Calls Try.prog 21 #[.pointer none, .int .i64 c] w fun e w' => e = .returned (.int .i64 0) ∧ w = w' := by
  go_enter Try.func21, Try.ntmps21
  go_wp2
  go_ret
  exact ⟨rfl, rfl⟩

end Go.Proofs.Ytemldlfolacekaa
