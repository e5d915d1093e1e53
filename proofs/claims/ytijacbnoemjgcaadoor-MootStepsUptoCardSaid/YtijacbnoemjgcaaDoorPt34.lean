/- Steps of clients: their cells; plain laws of Do. -/
import Derived.Test.YtijacbnoemjgcaaDoorPt33
set_option linter.unusedVariables false
set_option linter.unusedSimpArgs false
set_option linter.unnecessarySimpa false
namespace Go.Proofs.YtijacbnoemjgcaaDoor
open Go.RowKit Go.Shelf

structure Stp where
  c : Int
  n : Int
  x : Cmd
def Stp.cells (s : Stp) : List Value := [.int .i64 s.c, .int .i64 s.n, .int .i64 s.x.kind, .int .i64 s.x.group, .int .i64 s.x.shard]
def cellsS (l : List Stp) : List Value := l.flatMap Stp.cells
theorem cellsS_length (l : List Stp) : (cellsS l).length = l.length * 5 := by
  induction l with
  | nil => rfl
  | cons p l ih => rw [cellsS, List.flatMap_cons, List.length_append]; unfold cellsS at ih; rw [ih]; simp [Stp.cells]; omega
theorem cellsS_append (a b : List Stp) : cellsS (a ++ b) = cellsS a ++ cellsS b := by simp [cellsS]
theorem cellsS_get (l : List Stp) (k : Nat) (hk : k < l.length) (i : Nat) (hi : i < 5) : (cellsS l)[k * 5 + i]? = (Stp.cells l[k])[i]? := by
  induction l generalizing k with
  | nil => simp at hk
  | cons q l ih =>
    have hq : (Stp.cells q).length = 5 := by simp [Stp.cells]
    rw [cellsS, List.flatMap_cons]
    cases k with
    | zero => rw [Nat.zero_mul, Nat.zero_add, List.getElem?_append_left (by omega)]; rfl
    | succ k =>
      rw [List.getElem?_append_right (by omega), hq, show (k + 1) * 5 + i - 5 = k * 5 + i by omega]
      exact ih k (by simpa using hk)
theorem rd_stp {w : World} {B : Nat} {v : Value} {l : List Stp} (h : Rd w B 5 v l.length (cellsS l)) {k : Nat} (hk : k < l.length) :
    ∃ g off c, v = .slice (some ⟨g, off, none⟩) l.length c ∧ g < B ∧ w.cell? ⟨g, off + k * 5, none⟩ = some (.int .i64 l[k].c) ∧ w.cell? ⟨g, off + k * 5 + 1, none⟩ = some (.int .i64 l[k].n) ∧ w.cell? ⟨g, off + k * 5 + 2, none⟩ = some (.int .i64 l[k].x.kind) ∧ w.cell? ⟨g, off + k * 5 + 3, none⟩ = some (.int .i64 l[k].x.group) ∧ w.cell? ⟨g, off + k * 5 + 4, none⟩ = some (.int .i64 l[k].x.shard) := by
  obtain ⟨_, A, c, rfl, hnc, h0⟩ := h
  rcases h0 with h0 | ⟨g, off, rfl, hg, hc⟩
  · omega
  · have e : ∀ i, i < 5 → ∀ u, (Stp.cells l[k])[i]? = some u → w.cell? ⟨g, off + (k * 5 + i), none⟩ = some u := fun i hi u hu => hc _ _ ((cellsS_get l k hk i hi).trans hu)
    have e0 := e 0 (by omega) _ rfl
    rw [Nat.add_zero] at e0
    exact ⟨g, off, c, rfl, hg, e0, by rw [Nat.add_assoc]; exact e 1 (by omega) _ rfl, by rw [Nat.add_assoc]; exact e 2 (by omega) _ rfl, by rw [Nat.add_assoc]; exact e 3 (by omega) _ rfl, by rw [Nat.add_assoc]; exact e 4 (by omega) _ rfl⟩
theorem stp_info : (Tryd.prog.info? 34).map (fun i => (i.zero, i.size, i.bytes)) = some (some (.agg #[.int .i64 0, .int .i64 0, .int .i64 0, .int .i64 0, .int .i64 0]), 5, 40) := by kernel_rfl

theorem mm_stp {base : Nat} {w w' : World} {b : Nat} {cs : Array Value} (h : Chg (MMine base w) w w') (hb : Blk w b 34 cs) : Blk w' b 34 cs :=
  hb.chg h (fun hF => by
    obtain ⟨_, t, cs', hb', ht | ht | ht | ht⟩ := hF <;> subst ht
    · exact Blk.ne_ hb hb' (by decide) rfl
    · exact Blk.ne_ hb hb' (by decide) rfl
    · exact Blk.ne_ hb hb' (by decide) rfl
    · exact Blk.ne_ hb hb' (by decide) rfl)
theorem mm_srow {base : Nat} {w w' : World} {base' n : Nat} {v : Value} {xs : List Value} (h : Chg (MMine base w) w w') (ho : w.ownsRow base' 34 5 v n xs) : w'.ownsRow base' 34 5 v n xs :=
  h.owns ho (fun g hg hF => by
    obtain ⟨_, t, cs, hb, ht | ht | ht | ht⟩ := hF <;> subst ht
    · exact own_blk_ne ho hb (by decide) hg
    · exact own_blk_ne ho hb (by decide) hg
    · exact own_blk_ne ho hb (by decide) hg
    · exact own_blk_ne ho hb (by decide) hg)
/-- A moot is left alone where blocks of other types turn. -/
theorem Moot.chg {base m : Nat} {w w' : World} {cs : List Cfg} {tk : List Cmd} {cl : Cls} {F : Nat → Prop} (hp : Moot base w m cs tk cl) (hc : Chg F w w') (hF : ∀ i, i < w.heap.size → F i → ∃ t cs, Blk w i t cs ∧ t ≠ 64 ∧ t ≠ 32 ∧ t ≠ 78 ∧ t ≠ 49 ∧ t ≠ 3) : Moot base w' m cs tk cl := by
  obtain ⟨h, tv, hm, hcn⟩ := hp
  refine ⟨h, tv, ⟨hm.box.chg hc (fun hf => ?_), hc.owns hm.row (fun g hg hf => ?_), hm.hm, hm.hh⟩, hcn.chg hc (fun i hi hf => ?_)⟩
  · obtain ⟨t, cs, hb, h1, _⟩ := hF m hm.box.lt hf
    exact Blk.ne_ hb hm.box h1 rfl
  · obtain ⟨t, cs, hb, _, h2, _⟩ := hF g (hm.row.lt g hg).2 hf
    exact own_blk_ne hm.row hb (fun e => h2 e.symm) hg
  · obtain ⟨t, cs, hb, _, _, h3, h4, h5⟩ := hF i hi hf
    exact ⟨t, cs, hb, h3, h4, h5⟩

/-- Do comes to one of four ends. -/
theorem md_ends (s : Mt) (c n : Int) (x : Cmd) :
    (badA c n = true ∧ mdS s c n x = ((0, false, 1), s)) ∨
    (badA c n = false ∧ n < (s.cl c.toNat).1 ∧ mdS s c n x = ((0, false, 6), s)) ∨
    (badA c n = false ∧ n = (s.cl c.toNat).1 ∧ mdS s c n x = (((s.cl c.toNat).2, false, 0), s)) ∨
    (badA c n = false ∧ (s.cl c.toNat).1 < n ∧ mdS s c n x = (((doS s.cs x).2, true, 0), ⟨(doS s.cs x).1, tkS s.cs s.tk x, upd s.cl c.toNat (n, (doS s.cs x).2)⟩)) := by
  unfold mdS
  by_cases h1 : badA c n = true
  · exact .inl ⟨h1, by rw [if_pos h1]⟩
  · have h1' : badA c n = false := by simpa using h1
    rw [if_neg h1]
    by_cases h2 : n < (s.cl c.toNat).1
    · exact .inr (.inl ⟨h1', h2, by rw [if_pos h2]⟩)
    · rw [if_neg h2]
      by_cases h3 : n = (s.cl c.toNat).1
      · exact .inr (.inr (.inl ⟨h1', h3, by rw [if_pos h3]⟩))
      · exact .inr (.inr (.inr ⟨h1', by omega, by rw [if_neg h3]⟩))
theorem bad_in {c n : Int} (h : badA c n = false) : 0 ≤ c ∧ c < 8 ∧ 1 ≤ n ∧ n ≤ 1099511627776 := by
  simp [badA] at h
  omega
theorem tkS_len (cs : List Cfg) (tk : List Cmd) (x : Cmd) : (tkS cs tk x).length ≤ tk.length + 1 := by
  unfold tkS
  split
  · simp
  · omega
/-- Again: the same answer. -/
theorem md_again (s : Mt) (c n : Int) (x y : Cmd) (h : (mdS s c n x).1.2.2 = 0) : mdS (mdS s c n x).2 c n y = (((mdS s c n x).1.1, false, 0), (mdS s c n x).2) := by
  rcases md_ends s c n x with ⟨_, e⟩ | ⟨_, _, e⟩ | ⟨hb, hn, e⟩ | ⟨hb, hn, e⟩
  · rw [e] at h; simp at h
  · rw [e] at h; simp at h
  · rw [e]
    unfold mdS
    rw [if_neg (by simp [hb]), if_neg (by simp only; omega), if_pos (by simpa using hn)]
  · rw [e]
    unfold mdS
    rw [if_neg (by simp [hb]), if_neg (by simp [upd]), if_pos (by simp [upd])]
    simp [upd]

/-- Of what was done no number is greater than its client's last. -/
def Known (s : Mt) (D : List Stp) : Prop := ∀ d ∈ D, d.n ≤ (s.cl d.c.toNat).1 ∧ 0 ≤ d.c
theorem known_do {s : Mt} {D : List Stp} (hk : Known s D) (c n : Int) (x : Cmd) : Known (mdS s c n x).2 D := by
  rcases md_ends s c n x with ⟨_, e⟩ | ⟨_, _, e⟩ | ⟨hb, hn, e⟩ | ⟨hb, hn, e⟩
  · rw [e]; exact hk
  · rw [e]; exact hk
  · rw [e]; exact hk
  · rw [e]
    intro d hd
    obtain ⟨h1, h2⟩ := hk d hd
    refine ⟨?_, h2⟩
    show d.n ≤ (upd s.cl c.toNat (n, (doS s.cs x).2) d.c.toNat).1
    unfold upd
    split
    · rename_i he; rw [he] at h1; simp only; omega
    · exact h1
theorem known_add {s : Mt} {D : List Stp} (hk : Known s D) (c n : Int) (x z : Cmd) (h : (mdS s c n x).1.2.2 = 0) : Known (mdS s c n x).2 (D ++ [⟨c, n, z⟩]) := by
  intro d hd
  rcases List.mem_append.1 hd with hd | hd
  · exact known_do hk c n x d hd
  · rw [List.mem_singleton] at hd
    subst hd
    rcases md_ends s c n x with ⟨_, e⟩ | ⟨_, _, e⟩ | ⟨hb, hn, e⟩ | ⟨hb, hn, e⟩
    · rw [e] at h; simp at h
    · rw [e] at h; simp at h
    · rw [e]; have := bad_in hb; exact ⟨by simp only; omega, by simp only; omega⟩
    · rw [e]; have := bad_in hb; refine ⟨?_, by simp only; omega⟩
      show n ≤ (upd s.cl c.toNat (n, (doS s.cs x).2) c.toNat).1
      simp [upd]
theorem md_len {s : Mt} (c n : Int) (x : Cmd) (h : s.cs.length ≤ 41) (h0 : 0 < s.cs.length) : (mdS s c n x).2.cs.length ≤ 41 ∧ 0 < (mdS s c n x).2.cs.length ∧ (mdS s c n x).2.tk.length ≤ s.tk.length + 1 := by
  rcases md_ends s c n x with ⟨_, e⟩ | ⟨_, _, e⟩ | ⟨hb, hn, e⟩ | ⟨hb, hn, e⟩
  · rw [e]; exact ⟨h, h0, Nat.le_succ _⟩
  · rw [e]; exact ⟨h, h0, Nat.le_succ _⟩
  · rw [e]; exact ⟨h, h0, Nat.le_succ _⟩
  · rw [e]; exact ⟨(doS_len s.cs x h h0).1, (doS_len s.cs x h h0).2, tkS_len _ _ _⟩
/-- What was done stands in no other's way. -/
theorem known_no {s : Mt} {D : List Stp} (hk : Known s D) {d : Stp} (hd : d ∈ D) {c n : Int} (hc : d.c = c) :
    ((s.cl c.toNat).1 < n → d.n < n) ∧ (n = (s.cl c.toNat).1 → d.n ≤ n) := by
  subst hc
  have := (hk d hd).1
  exact ⟨fun h => by omega, fun h => by omega⟩

end Go.Proofs.YtijacbnoemjgcaaDoor
