/- BatchSteps: the pool and the reference's pool agree, on lists. -/
import Derived.Test.YtemldlfolacekaaRe
import Derived.Test.YtemldlfolacekaaBm
namespace Go.Proofs.Ytemldlfolacekaa
open Go.RowKit Go.Shelf

theorem dropS_none {L : List Req} {c n : Int} (h : NoC c L) : dropS L c n = L := by
  unfold dropS
  rw [List.filter_eq_self]
  intro r hr
  obtain ⟨j, hj, rfl⟩ := List.getElem_of_mem hr
  have := h j hj
  simp [keepR, this]

theorem only_at {L : List Req} {x : Int} {k : Nat} (hp : L.Pairwise (fun a b => a.c ≠ b.c)) (hat : AtC x L k) {j : Nat} (hj : j < L.length) (h : L[j].c = x) : j = k := by
  obtain ⟨hk, hx, hb⟩ := hat
  rcases Nat.lt_trichotomy j k with h1 | h1 | h1
  · exact absurd h (hb j h1)
  · exact h1
  · have := List.pairwise_iff_getElem.1 hp k j hk hj h1
    rw [hx] at this
    exact absurd h.symm this

theorem dropS_keep {L : List Req} {c n : Int} {k : Nat} (hp : L.Pairwise (fun a b => a.c ≠ b.c)) (hat : AtC c L k) (h : ∀ hk : k < L.length, n < L[k].n) : dropS L c n = L := by
  unfold dropS
  rw [List.filter_eq_self]
  intro r hr
  obtain ⟨j, hj, rfl⟩ := List.getElem_of_mem hr
  by_cases e : L[j].c = c
  · obtain rfl := only_at hp hat hj e
    simp [keepR, h hj]
  · simp [keepR, e]

theorem dropS_gone {L : List Req} {c n : Int} {k : Nat} (hp : L.Pairwise (fun a b => a.c ≠ b.c)) (hat : AtC c L k) (h : ∀ hk : k < L.length, L[k].n ≤ n) : dropS L c n = L.eraseIdx k := by
  have hk := hat.1
  have hno := noC_erase hp hat
  unfold dropS
  have e : L = L.take k ++ L[k] :: L.drop (k + 1) := by rw [← List.drop_eq_getElem_cons hk, List.take_append_drop]
  have hk0 : keepR c n L[k] = false := by
    have := h hk
    simp [keepR, hat.2.1]
    omega
  rw [List.eraseIdx_eq_take_drop_succ] at hno ⊢
  rw [show L.filter (keepR c n) = (L.take k ++ L[k] :: L.drop (k + 1)).filter (keepR c n) by rw [← e], List.filter_append, List.filter_cons, hk0]
  simp only [Bool.false_eq_true, if_false]
  rw [← List.filter_append, List.filter_eq_self]
  intro r hr
  have := hno r hr
  simp [keepR, this]

/-- What the law's loop keeps, said of lists: both have the requests L; d and D say the same of what is done. -/
structure Agree (L : List Req) (d : Nat → Int) (D : List Req) : Prop where
  ok : Ok L
  apart : L.Pairwise (fun a b => a.c ≠ b.c)
  valid : ∀ q ∈ D, 0 ≤ q.c ∧ q.c ≤ 63
  last : ∀ c : Int, 0 ≤ c → c ≤ 63 → d c.toNat = lastS D c

theorem Agree.nil : Agree [] d0 [] := ⟨Ok.nil, List.Pairwise.nil, by simp, by intro c _ _; rfl⟩

theorem agree_add {L : List Req} {d : Nat → Int} {D : List Req} (r : Req) (h : Agree L d D) : raddS L D r = addS L d r ∧ Agree (addS L d r).2.2 d D := by
  have hok := addS_ok (d := d) (r := r) h.ok
  by_cases hw : wrongB r.c r.n = true
  · have e : addS L d r = (false, 1, L) := by rw [addS, if_pos hw]
    rw [e, raddS, if_pos hw]; exact ⟨rfl, h⟩
  · have hw' : wrongB r.c r.n = false := by simpa using hw
    obtain ⟨b1, b2, b3, b4⟩ := wrong_bounds hw'
    by_cases hs : 4000 < r.t.size
    · have e : addS L d r = (false, 2, L) := by rw [addS, if_neg hw, if_pos hs]
      rw [e, raddS, if_neg hw, if_pos hs]; exact ⟨rfl, h⟩
    · have hl := h.last r.c b1 b2
      by_cases hd : r.n ≤ d r.c.toNat
      · have e : addS L d r = (false, 0, L) := by rw [addS, if_neg hw, if_neg hs, if_pos hd]
        rw [e, raddS, if_neg hw, if_neg hs, if_pos (by rw [← hl]; exact hd)]; exact ⟨rfl, h⟩
      · have hd2 : ¬ r.n ≤ lastS D r.c := by rw [← hl]; exact hd
        cases hf : findC r.c L with
        | none =>
          have hno := findC_none hf
          have hnw : newerS L r.c r.n = false := by
            unfold newerS
            rw [List.any_eq_false]
            intro x hx
            obtain ⟨j, hj, rfl⟩ := List.getElem_of_mem hx
            simp [hno j hj]
          have hth : thereS L r.c = false := by
            unfold thereS
            rw [List.any_eq_false]
            intro x hx
            obtain ⟨j, hj, rfl⟩ := List.getElem_of_mem hx
            simp [hno j hj]
          by_cases h24 : L.length = 24
          · have e : addS L d r = (false, 5, L) := by rw [addS, if_neg hw, if_neg hs, if_neg hd, hf]; simp [h24]
            rw [e, raddS, if_neg hw, if_neg hs, if_neg hd2, if_neg (by rw [hnw]; simp), if_pos ⟨hth, by omega⟩]; exact ⟨rfl, h⟩
          · have hlt : L.length < 24 := by have := h.ok.1; omega
            have e : addS L d r = (true, 0, L ++ [r]) := by rw [addS, if_neg hw, if_neg hs, if_neg hd, hf]; simp [h24]
            rw [e] at hok ⊢
            rw [raddS, if_neg hw, if_neg hs, if_neg hd2, if_neg (by rw [hnw]; simp), if_neg (fun hh => by have := hh.2; omega), dropS_none hno]
            refine ⟨rfl, hok, ?_, h.valid, h.last⟩
            rw [List.pairwise_append]
            refine ⟨h.apart, by simp, fun a ha b hb => ?_⟩
            rw [List.mem_singleton] at hb
            subst hb
            obtain ⟨j, hj, rfl⟩ := List.getElem_of_mem ha
            exact hno j hj
        | some k =>
          have hat := findC_some hf
          have hk := hat.1
          have hg : (L[k]?.map (·.n)).getD 0 = L[k].n := by simp [hk]
          by_cases hn : r.n ≤ L[k].n
          · have e : addS L d r = (false, 0, L) := by rw [addS, if_neg hw, if_neg hs, if_neg hd, hf]; simp only [hg, if_pos hn]
            rw [e, raddS, if_neg hw, if_neg hs, if_neg hd2, if_pos (newerS_at L r.c r.n k hk (by simp [hat.2.1, hn]))]; exact ⟨rfl, h⟩
          · have e : addS L d r = (true, 0, L.eraseIdx k ++ [r]) := by rw [addS, if_neg hw, if_neg hs, if_neg hd, hf]; simp only [hg, if_neg hn]
            have hnw : newerS L r.c r.n = false := by
              unfold newerS
              rw [List.any_eq_false]
              intro x hx
              obtain ⟨j, hj, rfl⟩ := List.getElem_of_mem hx
              by_cases e : L[j].c = r.c
              · obtain rfl := only_at h.apart hat hj e
                simp [hn]
              · simp [e]
            have hth : thereS L r.c = true := by
              unfold thereS
              rw [List.any_eq_true]
              exact ⟨L[k], List.getElem_mem _, by simp [hat.2.1]⟩
            rw [e] at hok ⊢
            rw [raddS, if_neg hw, if_neg hs, if_neg hd2, if_neg (by rw [hnw]; simp), if_neg (by rw [hth]; simp), dropS_gone h.apart hat (fun _ => by omega)]
            refine ⟨rfl, hok, ?_, h.valid, h.last⟩
            rw [List.pairwise_append]
            refine ⟨h.apart.sublist (List.eraseIdx_sublist _ _), by simp, fun a ha b hb => ?_⟩
            rw [List.mem_singleton] at hb
            subst hb
            exact noC_erase h.apart hat a ha

theorem ok_erase {L : List Req} {k : Nat} (h : Ok L) : Ok (L.eraseIdx k) :=
  ⟨Nat.le_trans (List.eraseIdx_sublist _ _).length_le h.1, fun x hx => h.2 x (List.mem_of_mem_eraseIdx hx)⟩

theorem agree_done {L : List Req} {d : Nat → Int} {D : List Req} (c n : Int) (h : Agree L d D) (hw : wrongB c n = false) :
    doneS L d c n = (decide ((dropS L c n).length < L.length), 0, dropS L c n, upD d c.toNat n) ∧ Agree (dropS L c n) (upD d c.toNat n) (D ++ [nq c n]) := by
  obtain ⟨b1, b2, b3, b4⟩ := wrong_bounds hw
  have hw' : ¬ wrongB c n = true := by rw [hw]; simp
  have hv : ∀ q ∈ D ++ [nq c n], 0 ≤ q.c ∧ q.c ≤ 63 := by
    intro q hq
    rw [List.mem_append, List.mem_singleton] at hq
    rcases hq with hq | rfl
    · exact h.valid q hq
    · exact ⟨b1, b2⟩
  have hl : ∀ x : Int, 0 ≤ x → x ≤ 63 → upD d c.toNat n x.toNat = lastS (D ++ [nq c n]) x := by
    intro x h1 h2
    rw [lastS_snoc, upD, ← h.last x h1 h2]
    by_cases e : x.toNat = c.toNat
    · have e2 : c = x := by omega
      subst e2
      rw [if_pos e]
      simp only [nq, true_and]
      split <;> omega
    · rw [if_neg e, if_neg (fun hh => e (by rw [← hh.1]; rfl))]
  cases hf : findC c L with
  | none =>
    have e : doneS L d c n = (false, 0, L, upD d c.toNat n) := by rw [doneS, if_neg hw', hf]
    rw [e, dropS_none (findC_none hf)]
    exact ⟨by simp, h.ok, h.apart, hv, hl⟩
  | some k =>
    have hat := findC_some hf
    have hk := hat.1
    have hg : (L[k]?.map (·.n)).getD 0 = L[k].n := by simp [hk]
    by_cases hn : n < L[k].n
    · have e : doneS L d c n = (false, 0, L, upD d c.toNat n) := by rw [doneS, if_neg hw', hf]; simp only [hg, if_pos hn]
      rw [e, dropS_keep h.apart hat (fun _ => hn)]
      exact ⟨by simp, h.ok, h.apart, hv, hl⟩
    · have e : doneS L d c n = (true, 0, L.eraseIdx k, upD d c.toNat n) := by rw [doneS, if_neg hw', hf]; simp only [hg, if_neg hn]
      rw [e, dropS_gone h.apart hat (fun _ => by omega)]
      refine ⟨?_, ok_erase h.ok, h.apart.sublist (List.eraseIdx_sublist _ _), hv, hl⟩
      rw [List.length_eraseIdx_of_lt hk, decide_eq_true (by omega)]

/-- What Forget comes to. -/
def forgetS (L : List Req) (c n : Int) : Bool × List Req :=
  if hasS L c n = true then match findC c L with
    | some k => (true, L.eraseIdx k)
    | none => (false, L)
  else (false, L)

theorem has_find {L : List Req} {c n : Int} (h : hasS L c n = true) : ∃ k, findC c L = some k := by
  unfold hasS at h
  rw [List.any_eq_true] at h
  obtain ⟨r, hr, e⟩ := h
  simp at e
  cases hf : findC c L with
  | none =>
    obtain ⟨j, hj, rfl⟩ := List.getElem_of_mem hr
    exact absurd e.1 (findC_none hf j hj)
  | some k => exact ⟨k, rfl⟩

theorem agree_forget {L : List Req} {d : Nat → Int} {D : List Req} (c n : Int) (h : Agree L d D) : rforgetS L c n = forgetS L c n ∧ Agree (forgetS L c n).2 d D := by
  unfold rforgetS forgetS
  by_cases hh : hasS L c n = true
  · obtain ⟨k, hf⟩ := has_find hh
    have hat := findC_some hf
    have hk := hat.1
    rw [if_pos hh, if_pos hh, hf]
    have hn : L[k].n = n := by
      unfold hasS at hh
      rw [List.any_eq_true] at hh
      obtain ⟨r, hr, e⟩ := hh
      simp at e
      obtain ⟨j, hj, rfl⟩ := List.getElem_of_mem hr
      obtain rfl := only_at h.apart hat hj e.1
      exact e.2
    rw [dropS_gone h.apart hat (fun _ => by omega)]
    refine ⟨?_, ok_erase h.ok, h.apart.sublist (List.eraseIdx_sublist _ _), h.valid, h.last⟩
    rw [List.length_eraseIdx_of_lt hk, decide_eq_true (by omega)]
  · rw [if_neg hh, if_neg hh]
    exact ⟨rfl, h⟩

theorem agree_last {L : List Req} {d : Nat → Int} {D : List Req} (c : Int) (h : Agree L d D) : (if wrongB c 1 = true then 0 else d c.toNat) = lastS D c := by
  by_cases hw : wrongB c 1 = true
  · rw [if_pos hw]
    have hc : c < 0 ∨ 63 < c := by
      simp only [wrongB, Bool.or_eq_true, decide_eq_true_eq] at hw
      omega
    have : ∀ D : List Req, (∀ q ∈ D, 0 ≤ q.c ∧ q.c ≤ 63) → ∀ x : Int, D.foldl (fun n q => if q.c = c ∧ n < q.n then q.n else n) x = x := by
      intro D
      induction D with
      | nil => intro _ _; rfl
      | cons a D ih =>
        intro hv x
        have ha := hv a (by simp)
        rw [List.foldl_cons, if_neg (by omega)]
        exact ih (fun q hq => hv q (by simp [hq])) x
    exact (this D h.valid 0).symm
  · rw [if_neg hw]
    have hw' : wrongB c 1 = false := by simpa using hw
    obtain ⟨b1, b2, _⟩ := wrong_bounds hw'
    exact h.last c b1 b2

end Go.Proofs.Ytemldlfolacekaa
