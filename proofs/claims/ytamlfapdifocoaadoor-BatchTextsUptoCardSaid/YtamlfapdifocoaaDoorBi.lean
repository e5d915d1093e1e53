/- What Add and Done come to, in one word each. -/
import Derived.Test.YtamlfapdifocoaaDoorBf
import Derived.Test.YtamlfapdifocoaaDoorBh
set_option linter.unusedVariables false
set_option linter.unusedSimpArgs false
set_option linter.unnecessarySimpa false
namespace Go.Proofs.YtamlfapdifocoaaDoor
open Go.RowKit Go.Shelf

def findC (x : Int) : List Req → Option Nat
  | [] => none
  | r :: l => if r.c = x then some 0 else (findC x l).map (· + 1)

theorem findC_some {x : Int} {l : List Req} {k : Nat} (h : findC x l = some k) : AtC x l k := by
  induction l generalizing k with
  | nil => simp [findC] at h
  | cons a l ih =>
    rw [findC] at h
    by_cases e : a.c = x
    · rw [if_pos e] at h
      injection h with h
      subst h
      exact ⟨by simp, by simpa using e, fun j hj => absurd hj (by omega)⟩
    · rw [if_neg e] at h
      cases hf : findC x l with
      | none => rw [hf] at h; simp at h
      | some m =>
        rw [hf] at h
        simp at h
        subst h
        obtain ⟨h1, h2, h3⟩ := ih hf
        refine ⟨by simpa using h1, by simpa using h2, fun j hj => ?_⟩
        cases j with
        | zero => simpa using e
        | succ j => simpa using h3 j (by omega)
theorem findC_none {x : Int} {l : List Req} (h : findC x l = none) : NoC x l := by
  induction l with
  | nil => intro j hj; simp at hj
  | cons a l ih =>
    rw [findC] at h
    by_cases e : a.c = x
    · rw [if_pos e] at h; simp at h
    · rw [if_neg e] at h
      have hf : findC x l = none := by
        cases hf : findC x l with
        | none => rfl
        | some m => rw [hf] at h; simp at h
      intro j hj
      cases j with
      | zero => simpa using e
      | succ j => simpa using ih hf j (by simpa using hj)

/-- What Add comes to: its results, the new list. -/
def addS (l : List Req) (d : Nat → Int) (r : Req) : Bool × Int × List Req :=
  if wrongB r.c r.n = true then (false, 1, l)
  else if 4000 < r.t.size then (false, 2, l)
  else if r.n ≤ d r.c.toNat then (false, 0, l)
  else match findC r.c l with
    | none => if l.length = 24 then (false, 5, l) else (true, 0, l ++ [r])
    | some k => if r.n ≤ (l[k]?.map (·.n)).getD 0 then (false, 0, l) else (true, 0, l.eraseIdx k ++ [r])

/-- What Done comes to. -/
def doneS (l : List Req) (d : Nat → Int) (c n : Int) : Bool × Int × List Req × (Nat → Int) :=
  if wrongB c n = true then (false, 1, l, d)
  else match findC c l with
    | none => (false, 0, l, upD d c.toNat n)
    | some k => if n < (l[k]?.map (·.n)).getD 0 then (false, 0, l, upD d c.toNat n) else (true, 0, l.eraseIdx k, upD d c.toNat n)

theorem PoolTo.of_below {w w' : World} {base B : Nat} {V : Value} {l : List Req} {d : Nat → Int} (hp : PoolAt w base B V l d) (hb : Below w.heap.size w w') : PoolTo w w' base B V l d :=
  ⟨V, hp.below hb, Chg.of_below hb, fun _ h => .inl h⟩

theorem add_any (base B : Nat) (V : Value) (l : List Req) (d : Nat → Int) (r : Req) (w : World) (hp : PoolAt w base B V l d) (hl : l.length ≤ 24) (hbase : base ≤ w.heap.size) :
    Calls Tryd.prog 11 #[.pointer (some ⟨B, 0, none⟩), .agg #[.int .i64 r.c, .int .i64 r.n, .string r.t]] w fun e w' =>
      e = .returned (.tuple #[.bool (addS l d r).1, .int .i64 (addS l d r).2.1]) ∧ PoolTo w w' base B V (addS l d r).2.2 d := by
  by_cases hw : wrongB r.c r.n = true
  · have e : addS l d r = (false, 1, l) := by rw [addS, if_pos hw]
    rw [e]
    exact (add_wrong _ r w hw).mono fun _ _ ⟨h1, h2⟩ => ⟨h1, PoolTo.of_below hp h2⟩
  · have hw' : wrongB r.c r.n = false := by simpa using hw
    by_cases hs : 4000 < r.t.size
    · have e : addS l d r = (false, 2, l) := by rw [addS, if_neg hw, if_pos hs]
      rw [e]
      exact (add_long _ r w hw' hs).mono fun _ _ ⟨h1, h2⟩ => ⟨h1, PoolTo.of_below hp h2⟩
    · by_cases hd : r.n ≤ d r.c.toNat
      · have e : addS l d r = (false, 0, l) := by rw [addS, if_neg hw, if_neg hs, if_pos hd]
        rw [e]
        exact (add_done base B V l d r w hp hw' (by omega) hd).mono fun _ _ ⟨h1, h2⟩ => ⟨h1, PoolTo.of_below hp h2⟩
      · cases hf : findC r.c l with
        | none =>
          by_cases h24 : l.length = 24
          · have e : addS l d r = (false, 5, l) := by rw [addS, if_neg hw, if_neg hs, if_neg hd, hf]; simp [h24]
            rw [e]
            exact (add_full base B V l d r w hp hw' (by omega) (by omega) (findC_none hf) h24).mono fun _ _ ⟨h1, h2⟩ => ⟨h1, PoolTo.of_below hp h2⟩
          · have e : addS l d r = (true, 0, l ++ [r]) := by rw [addS, if_neg hw, if_neg hs, if_neg hd, hf]; simp [h24]
            rw [e]
            exact add_new base B V l d r w hp hw' (by omega) (by omega) (findC_none hf) (by omega) hbase
        | some k =>
          have hat := findC_some hf
          have hk := hat.1
          have hg : (l[k]?.map (·.n)).getD 0 = l[k].n := by simp [hk]
          by_cases hn : r.n ≤ l[k].n
          · have e : addS l d r = (false, 0, l) := by rw [addS, if_neg hw, if_neg hs, if_neg hd, hf]; simp only [hg, if_pos hn]
            rw [e]
            exact (add_older base B V l d r w hp hw' (by omega) (by omega) k hk hat (by omega) hn).mono fun _ _ ⟨h1, h2⟩ => ⟨h1, PoolTo.of_below hp h2⟩
          · have e : addS l d r = (true, 0, l.eraseIdx k ++ [r]) := by rw [addS, if_neg hw, if_neg hs, if_neg hd, hf]; simp only [hg, if_neg hn]
            rw [e]
            exact add_replace base B V l d r w hp hw' (by omega) (by omega) k hk hat (by omega) (by omega) hbase

theorem done_any (base B : Nat) (V : Value) (l : List Req) (d : Nat → Int) (c n : Int) (w : World) (hp : PoolAt w base B V l d) (hl : l.length ≤ 24) (hbase : base ≤ w.heap.size) :
    Calls Tryd.prog 12 #[.pointer (some ⟨B, 0, none⟩), .int .i64 c, .int .i64 n] w fun e w' =>
      e = .returned (.tuple #[.bool (doneS l d c n).1, .int .i64 (doneS l d c n).2.1]) ∧ PoolTo w w' base B V (doneS l d c n).2.2.1 (doneS l d c n).2.2.2 := by
  by_cases hw : wrongB c n = true
  · have e : doneS l d c n = (false, 1, l, d) := by rw [doneS, if_pos hw]
    rw [e]
    exact (done_wrong _ c n w hw).mono fun _ _ ⟨h1, h2⟩ => ⟨h1, h2 ▸ PoolTo.of_below hp (Below.refl _ _)⟩
  · have hw' : wrongB c n = false := by simpa using hw
    cases hf : findC c l with
    | none =>
      have e : doneS l d c n = (false, 0, l, upD d c.toNat n) := by rw [doneS, if_neg hw, hf]
      rw [e]
      exact (done_none base B V l d c n w hp hw' (findC_none hf) (by omega)).mono fun _ _ ⟨h1, h2, h3⟩ => ⟨h1, V, h2, h3.mono (fun _ _ h => .inl h), fun _ h => .inl h⟩
    | some k =>
      have hat := findC_some hf
      have hk := hat.1
      have hg : (l[k]?.map (·.n)).getD 0 = l[k].n := by simp [hk]
      by_cases hn : n < l[k].n
      · have e : doneS l d c n = (false, 0, l, upD d c.toNat n) := by rw [doneS, if_neg hw, hf]; simp only [hg, if_pos hn]
        rw [e]
        exact (done_later base B V l d c n w hp hw' k hk hat hn (by omega)).mono fun _ _ ⟨h1, h2, h3⟩ => ⟨h1, V, h2, h3.mono (fun _ _ h => .inl h), fun _ h => .inl h⟩
      · have e : doneS l d c n = (true, 0, l.eraseIdx k, upD d c.toNat n) := by rw [doneS, if_neg hw, hf]; simp only [hg, if_neg hn]
        rw [e]
        refine (done_gone base B V l d c n w hp hw' k hk hat (by omega) hbase (by omega)).mono fun _ _ ⟨g, cap, h1, h2, h3, h4⟩ => ⟨h1, _, h3, h4.mono (fun _ _ h => .inl h), fun g' h => .inr ?_⟩
        have : g = g' := by simpa [Value.ownBlock] using h
        omega

end Go.Proofs.YtamlfapdifocoaaDoor
