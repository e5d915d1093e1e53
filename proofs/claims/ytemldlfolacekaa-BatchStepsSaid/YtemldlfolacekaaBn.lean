/- BatchOnce: what its loop keeps, on lists and in memory. -/
import Derived.Test.YtemldlfolacekaaBl
import Derived.Laws.StructEq
namespace Go.Proofs.Ytemldlfolacekaa
open Go.RowKit Go.Shelf

/-- What the law's loop keeps, said of lists: the pool's requests, what is done, what was added, what was done. -/
structure Once (L : List Req) (d : Nat → Int) (al dl : List Req) : Prop where
  ok : Ok L
  sub : ∀ r ∈ L, r ∈ al
  later : ∀ r ∈ L, ∀ q ∈ dl, q.c = r.c → q.n < r.n
  apart : L.Pairwise (fun a b => a.c ≠ b.c)
  done : ∀ q ∈ dl, 0 ≤ q.c ∧ q.c ≤ 63 ∧ q.n ≤ d q.c.toNat

theorem Once.nil : Once [] d0 [] [] := ⟨Ok.nil, by simp, by simp, List.Pairwise.nil, by simp⟩

theorem noC_erase {L : List Req} {x : Int} {k : Nat} (hp : L.Pairwise (fun a b => a.c ≠ b.c)) (hat : AtC x L k) : ∀ r ∈ L.eraseIdx k, r.c ≠ x := by
  obtain ⟨hk, hx, hb⟩ := hat
  intro r hr
  rw [List.eraseIdx_eq_take_drop_succ, List.mem_append] at hr
  rcases hr with hr | hr
  · obtain ⟨j, hj, rfl⟩ := List.getElem_of_mem hr
    simp only [List.length_take] at hj
    rw [List.getElem_take]
    exact hb j (by omega)
  · obtain ⟨j, hj, rfl⟩ := List.getElem_of_mem hr
    simp only [List.length_drop] at hj
    rw [List.getElem_drop]
    have := List.pairwise_iff_getElem.1 hp k (k + 1 + j) hk (by omega) (by omega)
    rw [hx] at this
    exact fun e => this e.symm

theorem once_add {L : List Req} {d : Nat → Int} {al dl : List Req} (r : Req) (h : Once L d al dl) :
    (addS L d r).1 = true ∧ (addS L d r).2.1 = 0 ∧ Once (addS L d r).2.2 d (al ++ [r]) dl ∨ (addS L d r).1 = false ∧ (addS L d r).2.2 = L := by
  have hok := addS_ok (d := d) (r := r) h.ok
  by_cases hw : wrongB r.c r.n = true
  · right; rw [addS, if_pos hw]; exact ⟨rfl, rfl⟩
  · have hw' : wrongB r.c r.n = false := by simpa using hw
    obtain ⟨b1, b2, b3, b4⟩ := wrong_bounds hw'
    by_cases hs : 4000 < r.t.size
    · right; rw [addS, if_neg hw, if_pos hs]; exact ⟨rfl, rfl⟩
    · by_cases hd : r.n ≤ d r.c.toNat
      · right; rw [addS, if_neg hw, if_neg hs, if_pos hd]; exact ⟨rfl, rfl⟩
      · have hnew : ∀ q ∈ dl, q.c = r.c → q.n < r.n := fun q hq e => by
          have := (h.done q hq).2.2
          rw [e] at this
          omega
        cases hf : findC r.c L with
        | none =>
          by_cases h24 : L.length = 24
          · right; rw [addS, if_neg hw, if_neg hs, if_neg hd, hf]; simp [h24]
          · left
            have e : addS L d r = (true, 0, L ++ [r]) := by rw [addS, if_neg hw, if_neg hs, if_neg hd, hf]; simp [h24]
            rw [e] at hok ⊢
            have hno := findC_none hf
            refine ⟨rfl, rfl, hok, ?_, ?_, ?_, h.done⟩
            · intro x hx
              rw [List.mem_append] at hx ⊢
              rcases hx with hx | hx
              · exact .inl (h.sub x hx)
              · exact .inr hx
            · intro x hx q hq e'
              rw [List.mem_append, List.mem_singleton] at hx
              rcases hx with hx | rfl
              · exact h.later x hx q hq e'
              · exact hnew q hq e'
            · rw [List.pairwise_append]
              refine ⟨h.apart, by simp, fun a ha b hb => ?_⟩
              rw [List.mem_singleton] at hb
              subst hb
              obtain ⟨j, hj, rfl⟩ := List.getElem_of_mem ha
              exact hno j hj
        | some k =>
          have hat := findC_some hf
          have hk := hat.1
          have hg : (L[k]?.map (·.n)).getD 0 = L[k].n := by simp [hk]
          by_cases hn : r.n ≤ L[k].n
          · right; rw [addS, if_neg hw, if_neg hs, if_neg hd, hf]; simp only [hg, if_pos hn, and_self]
          · left
            have e : addS L d r = (true, 0, L.eraseIdx k ++ [r]) := by rw [addS, if_neg hw, if_neg hs, if_neg hd, hf]; simp only [hg, if_neg hn]
            rw [e] at hok ⊢
            have hno := noC_erase h.apart hat
            refine ⟨rfl, rfl, hok, ?_, ?_, ?_, h.done⟩
            · intro x hx
              rw [List.mem_append] at hx ⊢
              rcases hx with hx | hx
              · exact .inl (h.sub x (List.mem_of_mem_eraseIdx hx))
              · exact .inr hx
            · intro x hx q hq e'
              rw [List.mem_append, List.mem_singleton] at hx
              rcases hx with hx | rfl
              · exact h.later x (List.mem_of_mem_eraseIdx hx) q hq e'
              · exact hnew q hq e'
            · rw [List.pairwise_append]
              refine ⟨h.apart.sublist (List.eraseIdx_sublist _ _), by simp, fun a ha b hb => ?_⟩
              rw [List.mem_singleton] at hb
              subst hb
              exact hno a ha

theorem once_done {L : List Req} {d : Nat → Int} {al dl : List Req} (r : Req) (h : Once L d al dl) :
    (doneS L d r.c r.n).2.1 = 0 ∧ Once (doneS L d r.c r.n).2.2.1 (doneS L d r.c r.n).2.2.2 al (dl ++ [r]) ∨ (doneS L d r.c r.n).2.1 = 1 ∧ (doneS L d r.c r.n).2.2 = (L, d) := by
  by_cases hw : wrongB r.c r.n = true
  · right; rw [doneS, if_pos hw]; exact ⟨rfl, rfl⟩
  · left
    have hw' : wrongB r.c r.n = false := by simpa using hw
    obtain ⟨b1, b2, b3, b4⟩ := wrong_bounds hw'
    have hd : ∀ q ∈ dl ++ [r], 0 ≤ q.c ∧ q.c ≤ 63 ∧ q.n ≤ upD d r.c.toNat r.n q.c.toNat := by
      intro q hq
      rw [List.mem_append, List.mem_singleton] at hq
      rcases hq with hq | rfl
      · obtain ⟨h1, h2, h3⟩ := h.done q hq
        refine ⟨h1, h2, ?_⟩
        unfold upD
        split
        · rename_i e; rw [← e]; omega
        · exact h3
      · refine ⟨b1, b2, ?_⟩
        unfold upD
        rw [if_pos rfl]; omega
    cases hf : findC r.c L with
    | none =>
      have e : doneS L d r.c r.n = (false, 0, L, upD d r.c.toNat r.n) := by rw [doneS, if_neg hw, hf]
      rw [e]
      refine ⟨rfl, h.ok, h.sub, fun x hx q hq e' => ?_, h.apart, hd⟩
      rw [List.mem_append, List.mem_singleton] at hq
      rcases hq with hq | rfl
      · exact h.later x hx q hq e'
      · obtain ⟨j, hj, rfl⟩ := List.getElem_of_mem hx
        exact absurd e'.symm (findC_none hf j hj)
    | some k =>
      have hat := findC_some hf
      have hk := hat.1
      have hg : (L[k]?.map (·.n)).getD 0 = L[k].n := by simp [hk]
      have hno := noC_erase h.apart hat
      by_cases hn : r.n < L[k].n
      · have e : doneS L d r.c r.n = (false, 0, L, upD d r.c.toNat r.n) := by rw [doneS, if_neg hw, hf]; simp only [hg, if_pos hn]
        rw [e]
        refine ⟨rfl, h.ok, h.sub, fun x hx q hq e' => ?_, h.apart, hd⟩
        rw [List.mem_append, List.mem_singleton] at hq
        rcases hq with hq | rfl
        · exact h.later x hx q hq e'
        · obtain ⟨j, hj, rfl⟩ := List.getElem_of_mem hx
          have : j = k := by
            rcases Nat.lt_trichotomy j k with hjk | hjk | hjk
            · exact absurd e'.symm (hat.2.2 j hjk)
            · exact hjk
            · have := List.pairwise_iff_getElem.1 h.apart k j hk hj hjk
              rw [hat.2.1] at this
              exact absurd e' this
          subst this
          exact hn
      · have e : doneS L d r.c r.n = (true, 0, L.eraseIdx k, upD d r.c.toNat r.n) := by rw [doneS, if_neg hw, hf]; simp only [hg, if_neg hn]
        rw [e]
        refine ⟨rfl, ⟨?_, fun x hx => h.ok.2 x (List.mem_of_mem_eraseIdx hx)⟩, fun x hx => h.sub x (List.mem_of_mem_eraseIdx hx), fun x hx q hq e' => ?_, h.apart.sublist (List.eraseIdx_sublist _ _), hd⟩
        · have := h.ok.1
          rw [List.length_eraseIdx_of_lt hk]; omega
        · rw [List.mem_append, List.mem_singleton] at hq
          rcases hq with hq | rfl
          · exact h.later x (List.mem_of_mem_eraseIdx hx) q hq e'
          · exact absurd e'.symm (hno x hx)

theorem takeFrom_prefix (l : List Req) (k s : Nat) : ∃ m, takeFrom l k s = l.take m := by
  induction l generalizing k s with
  | nil => exact ⟨0, by simp [takeFrom]⟩
  | cons r l ih =>
    rw [takeFrom]
    split
    · exact ⟨0, by simp⟩
    · obtain ⟨m, hm⟩ := ih (k + 1) (s + r.t.size)
      exact ⟨m + 1, by rw [hm]; simp⟩

/-- What is taken has what the law asks. -/
theorem once_take {L : List Req} {d : Nat → Int} {al dl : List Req} (h : Once L d al dl) :
    (∀ r ∈ takeS L, r ∈ al) ∧ (∀ r ∈ takeS L, ∀ q ∈ dl, q.c = r.c → q.n < r.n) ∧ (takeS L).Pairwise (fun a b => a.c ≠ b.c) := by
  obtain ⟨m, hm⟩ := takeFrom_prefix L 0 0
  have e : takeS L = L.take m := hm
  rw [e]
  exact ⟨fun r hr => h.sub r (List.mem_of_mem_take hr), fun r hr => h.later r (List.mem_of_mem_take hr), h.apart.sublist (List.take_sublist _ _)⟩

/-- Go's '==' of two requests. -/
def reqEq (a b : Req) : Bool := a.c == b.c && (a.n == b.n && a.t.toList == b.t.toList)
theorem reqEq_refl (a : Req) : reqEq a a = true := by simp [reqEq]

theorem eqf_one {P : Program} {d : Nat} {xs ys : Array Value} {f : Field} {fs : List Field} {a b : Value} {r s : Bool} {w : World} (hn : (f.name == "_") = false)
    (ha : (part f.type xs f.offset).run P w = .ok a w) (hb : (part f.type ys f.offset).run P w = .ok b w) (he : (Op.equalIn d f.type a b).run P w = .ok r w) (hr : (Op.eqFields d xs ys fs).run P w = .ok s w) :
    (Op.eqFields d xs ys (f :: fs)).run P w = .ok (r && s) w := by
  have hn' : f.name ≠ "_" := by simpa using hn
  rw [Op.eqFields]
  simp only [if_pos hn', Sem.run_bind, ha, hb, he, Result.andThen_ok]
  cases r
  · simp
  · simpa using hr

theorem eql_req (a b : Req) (w : World) :
    (binOp .eql 28 (.agg #[.int .i64 a.c, .int .i64 a.n, .string a.t]) (.agg #[.int .i64 b.c, .int .i64 b.n, .string b.t])).run Try.prog w = .ok (.bool (reqEq a b)) w := by
  have hs : Try.prog.stoodInHeld 28 = false := by kernel_rfl
  have hf : Try.prog.underlying 28 = some (.struct (Try.prog.fieldsOf 28)) := by simp [Program.fieldsOf, Try.underlying28]
  rw [run_eql_struct, run_equalIn_agg w 9999 28 _ _ hf hs]
  simp only [Program.fieldsOf, Try.underlying28]
  have h3 := fun (d : Nat) (a b : Int) => run_equalIn_int (P := Try.prog) w d 3 .i64 .i64 a b Try.underlying3
  have h9 := fun (d : Nat) (a b : ByteArray) => run_equalIn_string (P := Try.prog) w d 9 a b Try.underlying9
  have p0 : ∀ x : Req, (part 3 #[.int .i64 x.c, .int .i64 x.n, .string x.t] 0).run Try.prog w = .ok (.int .i64 x.c) w := fun x => by kernel_rfl
  have p1 : ∀ x : Req, (part 3 #[.int .i64 x.c, .int .i64 x.n, .string x.t] 1).run Try.prog w = .ok (.int .i64 x.n) w := fun x => by kernel_rfl
  have p2 : ∀ x : Req, (part 9 #[.int .i64 x.c, .int .i64 x.n, .string x.t] 2).run Try.prog w = .ok (.string x.t) w := fun x => by kernel_rfl
  have e2 : ∀ f : Field, (f.name == "_") = false → f.type = 9 → f.offset = 2 → (Op.eqFields 9999 #[.int .i64 a.c, .int .i64 a.n, .string a.t] #[.int .i64 b.c, .int .i64 b.n, .string b.t] [f]).run Try.prog w = .ok (a.t.toList == b.t.toList) w := fun f hn ht ho => by
    have := eqf_one (f := f) (fs := []) (s := true) hn (by rw [ht, ho]; exact p2 a) (by rw [ht, ho]; exact p2 b) (by rw [ht]; exact h9 9998 a.t b.t) (by simp [Op.eqFields])
    rwa [Bool.and_true] at this
  have E := eqf_one (f := { name := "Caller", type := 3, offset := 0, embedded := false, tag := "", pkgPath := "", byteOffset := 0 }) (by decide) (p0 a) (p0 b) (h3 9998 a.c b.c)
    (eqf_one (f := { name := "Number", type := 3, offset := 1, embedded := false, tag := "", pkgPath := "", byteOffset := 8 }) (by decide) (p1 a) (p1 b) (h3 9998 a.n b.n)
      (e2 { name := "Text", type := 9, offset := 2, embedded := false, tag := "", pkgPath := "", byteOffset := 16 } (by decide) rfl rfl))
  rw [E]
  rfl

end Go.Proofs.Ytemldlfolacekaa
