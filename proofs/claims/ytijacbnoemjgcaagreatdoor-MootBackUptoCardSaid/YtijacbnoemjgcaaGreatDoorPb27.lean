/- The moot: Get, Last; the small case: one. -/
import Derived.Test.YtijacbnoemjgcaaGreatDoorPb26
set_option linter.unusedVariables false
set_option linter.unusedSimpArgs false
set_option linter.unnecessarySimpa false
namespace Go.Proofs.YtijacbnoemjgcaaGreatDoor
open Go.RowKit Go.Shelf

set_option maxHeartbeats 1000000 in
set_option maxRecDepth 100000 in
theorem mlast_any (base m : Nat) (cs : List Cfg) (tk : List Cmd) (cl : Cls) (w : World) (hp : Moot base w m cs tk cl) (h41 : cs.length ≤ 1000) :
    GivesC 12 #[.pointer (some ⟨m, 0, none⟩)] w (cs.getLastD cfg0) := by
  obtain ⟨h, tv, hm, hc⟩ := hp
  have hal : Below w.heap.size w (w.alloc (.cells #[.int .i64 0, .slice none 0 0, .int .i64 0, .int .i64 0, .int .i64 0, .int .i64 0] 46)) := (Below.refl _ w).alloc (Nat.le_refl _) _
  have b0 : (w.alloc (.cells #[.int .i64 0, .slice none 0 0, .int .i64 0, .int .i64 0, .int .i64 0, .int .i64 0] 46)).cell? ⟨m, 0, none⟩ = some (.pointer (some ⟨h, 0, none⟩)) := (hm.below hal).box.cell 0
  have HC := lastcfg_any base h cs _ (hc.below hal) h41
  have HZ : Hid (Blk (w.alloc (.cells #[.int .i64 0, .slice none 0 0, .int .i64 0, .int .i64 0, .int .i64 0, .int .i64 0] 46)) w.heap.size 46 (cfgCells 0 (.slice none 0 0) ⟨0, 0, 0, 0⟩)) := Blk.new w _ _
  have HB := Lib.hid hal
  have hsz : w.heap.size ≤ (w.alloc (.cells #[.int .i64 0, .slice none 0 0, .int .i64 0, .int .i64 0, .int .i64 0, .int .i64 0] 46)).heap.size := hal.size
  unfold GivesC at HC ⊢
  generalize cs.getLastD cfg0 = c at *
  have HCC := Lib.hid HC
  clear HC hal hm hc
  go_enter Tryz.func12, Tryz.ntmps12
  go_wp2_with fail
  generalize w.alloc (.cells #[.int .i64 0, .slice none 0 0, .int .i64 0, .int .i64 0, .int .i64 0, .int .i64 0] 46) = W at *
  refine HCC.out.mono ?_
  rintro e w2 ⟨s', rfl, hown, hb⟩
  obtain ⟨As, c2, rfl⟩ := own_shape hown
  have hz := HZ.out.below hb HZ.out.lt
  have HB2 := Lib.hid (HB.out.trans (hb.mono hsz))
  obtain ⟨z0, z1, z2, z3, z4, z5⟩ := keep6 hz (Below.refl _ _)
  have f0 := hz.frozen 0
  have f1 := hz.frozen 1
  have f2 := hz.frozen 2
  have f3 := hz.frozen 3
  have f4 := hz.frozen 4
  have f5 := hz.frozen 5
  have HZ2 := Lib.hid hz
  have HO := Lib.hid hown
  clear hz hown hb b0
  unfold Cfg.val
  go_wp2_with fail
  refine bodyPost_ret (v := c.val (.slice As c.gs.length c2)) (by simp [results, Tryz.results12, go_sem, z0, z1, z2, z3, z4, z5, Cfg.val]) rfl ?_
  exact ⟨_, rfl, put6 HB2.out HO.out hsz _ HZ2.out (Nat.le_refl _) _ (((((((Chg.refl (fun i => i = w.heap.size) w2).setCell (fun _ => rfl) _).setCell (fun _ => rfl) _).setCell (fun _ => rfl) _).setCell (fun _ => rfl) _).setCell (fun _ => rfl) _).setCell (fun _ => rfl) _)⟩

theorem field_num (n a b c d : Int) (A : Option Addr) (l m : Nat) (w : World) : (Instr.field 46 (.agg #[.int .i64 n, .slice A l m, .int .i64 a, .int .i64 b, .int .i64 c, .int .i64 d]) 0).run Tryz.prog w = .ok (.int .i64 n) w := by kernel_rfl

def s1 : Mt := (mdS mt0 0 1 ⟨1, 1, 0⟩).2
theorem one1 : (mdS mt0 0 1 ⟨1, 1, 0⟩).1 = (0, true, 0) := by rfl
theorem one2 : (mdS s1 0 1 ⟨1, 2, 0⟩).1 = (0, false, 0) ∧ (mdS s1 0 1 ⟨1, 2, 0⟩).2 = s1 := by exact ⟨rfl, rfl⟩
theorem one3 : (mdS s1 0 2 ⟨1, 1, 0⟩).1 = (150, true, 0) := by rfl
def s2 : Mt := (mdS s1 0 2 ⟨1, 1, 0⟩).2
theorem one4 : s1.cs.length ≤ 41 ∧ s1.tk.length ≤ 1000 ∧ s2.cs.length ≤ 1000 := by decide
theorem one5 : (s2.cs.getLastD cfg0).num = 1 := by rfl

set_option maxHeartbeats 1000000 in
set_option maxRecDepth 100000 in
theorem one_any (w : World) : Calls Tryz.prog 5 #[] w fun e w' => e = .returned (.bool true) ∧ Below w.heap.size w w' := by
  have hfld := fun (w : World) (n a b c d : Int) (A : Option Addr) (l m : Nat) => field_num n a b c d A l m w
  have HF := Lib.hid hfld
  clear hfld
  go_enter Tryz.func5, Tryz.ntmps5
  go_wp2_with fail
  refine (mnew_any w).mono ?_
  rintro e w1 ⟨m, rfl, hp1, hb1⟩
  have HP1 := Lib.hid hp1
  have HB1 := Lib.hid hb1
  clear hp1 hb1
  go_wp2_with fail
  refine (mdo_any w.heap.size m mt0 0 1 ⟨1, 1, 0⟩ w1 HP1.out (by simp [mt0]) (by simp [mt0])).mono ?_
  rintro e w2 ⟨rfl, hp2, hc2⟩
  have HP2 : Hid (Moot w.heap.size w2 m s1.cs s1.tk s1.cl) := hp2
  have HB2 := Lib.hid (HB1.out.trans (mmine_below hc2 HB1.out.size))
  rw [one1]
  clear hp2 hc2 HP1 HB1
  go_wp2_with fail
  refine (mdo_any w.heap.size m s1 0 1 ⟨1, 2, 0⟩ w2 HP2.out one4.1 one4.2.1).mono ?_
  rintro e w3 ⟨rfl, hp3, hc3⟩
  have HP3 : Hid (Moot w.heap.size w3 m s1.cs s1.tk s1.cl) := hp3
  have HB3 := Lib.hid (HB2.out.trans (mmine_below hc3 HB2.out.size))
  rw [one2.1]
  clear hp3 hc3 HP2 HB2
  go_wp2_with fail
  refine (mdo_any w.heap.size m s1 0 2 ⟨1, 1, 0⟩ w3 HP3.out one4.1 one4.2.1).mono ?_
  rintro e w4 ⟨rfl, hp4, hc4⟩
  have HP4 : Hid (Moot w.heap.size w4 m s2.cs s2.tk s2.cl) := hp4
  have HB4 := Lib.hid (HB3.out.trans (mmine_below hc4 HB3.out.size))
  rw [one3]
  clear hp4 hc4 HP3 HB3
  go_wp2_with fail
  have hl := mlast_any w.heap.size m s2.cs s2.tk s2.cl w4 HP4.out one4.2.2
  unfold GivesC at hl
  refine hl.mono ?_
  rintro e w5 ⟨s5, rfl, ho5, hb5⟩
  obtain ⟨A5, c5, rfl⟩ := own_shape ho5
  have hn := one5
  generalize s2.cs.getLastD cfg0 = c at *
  obtain ⟨cn, cg, co⟩ := c
  simp only at hn
  subst hn
  have HB5 := Lib.hid (HB4.out.trans (hb5.mono HB4.out.size))
  have hfld := HF.out
  clear ho5 hb5 hl
  unfold Cfg.val
  go_wp2_with fail
  go_ret
  exact ⟨rfl, HB5.out⟩

end Go.Proofs.YtijacbnoemjgcaaGreatDoor

namespace Go.Proofs.YtijacbnoemjgcaaGreatDoor
open Go.RowKit Go.Shelf

structure Stp where
  c : Int
  n : Int
  x : Cmd
def Stp.cells (s : Stp) : List Value := [.int .i64 s.c, .int .i64 s.n, .int .i64 s.x.kind, .int .i64 s.x.group, .int .i64 s.x.shard]
def cellsS (l : List Stp) : List Value := l.flatMap Stp.cells
theorem cellsS_length (l : List Stp) : (cellsS l).length = l.length * 5 := by
  induction l with
  | nil => rfl
  | cons p l ih => rw [cellsS, List.flatMap_cons, List.length_append]; unfold cellsS at ih; rw [ih]; simp [Stp.cells]; omega
theorem cellsS_append (a b : List Stp) : cellsS (a ++ b) = cellsS a ++ cellsS b := by simp [cellsS]
theorem cellsS_get (l : List Stp) (k : Nat) (hk : k < l.length) (i : Nat) (hi : i < 5) : (cellsS l)[k * 5 + i]? = (Stp.cells l[k])[i]? := by
  induction l generalizing k with
  | nil => simp at hk
  | cons q l ih =>
    have hq : (Stp.cells q).length = 5 := by simp [Stp.cells]
    rw [cellsS, List.flatMap_cons]
    cases k with
    | zero => rw [Nat.zero_mul, Nat.zero_add, List.getElem?_append_left (by omega)]; rfl
    | succ k =>
      rw [List.getElem?_append_right (by omega), hq, show (k + 1) * 5 + i - 5 = k * 5 + i by omega]
      exact ih k (by simpa using hk)
theorem rd_stp {w : World} {B : Nat} {v : Value} {l : List Stp} (h : Rd w B 5 v l.length (cellsS l)) {k : Nat} (hk : k < l.length) :
    ∃ g off c, v = .slice (some ⟨g, off, none⟩) l.length c ∧ g < B ∧ w.cell? ⟨g, off + k * 5, none⟩ = some (.int .i64 l[k].c) ∧ w.cell? ⟨g, off + k * 5 + 1, none⟩ = some (.int .i64 l[k].n) ∧ w.cell? ⟨g, off + k * 5 + 2, none⟩ = some (.int .i64 l[k].x.kind) ∧ w.cell? ⟨g, off + k * 5 + 3, none⟩ = some (.int .i64 l[k].x.group) ∧ w.cell? ⟨g, off + k * 5 + 4, none⟩ = some (.int .i64 l[k].x.shard) := by
  obtain ⟨_, A, c, rfl, hnc, h0⟩ := h
  rcases h0 with h0 | ⟨g, off, rfl, hg, hc⟩
  · omega
  · have e : ∀ i, i < 5 → ∀ u, (Stp.cells l[k])[i]? = some u → w.cell? ⟨g, off + (k * 5 + i), none⟩ = some u := fun i hi u hu => hc _ _ ((cellsS_get l k hk i hi).trans hu)
    have e0 := e 0 (by omega) _ rfl
    rw [Nat.add_zero] at e0
    exact ⟨g, off, c, rfl, hg, e0, by rw [Nat.add_assoc]; exact e 1 (by omega) _ rfl, by rw [Nat.add_assoc]; exact e 2 (by omega) _ rfl, by rw [Nat.add_assoc]; exact e 3 (by omega) _ rfl, by rw [Nat.add_assoc]; exact e 4 (by omega) _ rfl⟩
theorem stp_info : (Tryz.prog.info? 40).map (fun i => (i.zero, i.size, i.bytes)) = some (some (.agg #[.int .i64 0, .int .i64 0, .int .i64 0, .int .i64 0, .int .i64 0]), 5, 40) := by kernel_rfl

theorem mm_stp {base : Nat} {w w' : World} {b : Nat} {cs : Array Value} (h : Chg (MMine base w) w w') (hb : Blk w b 40 cs) : Blk w' b 40 cs :=
  hb.chg h (fun hF => by
    obtain ⟨_, t, cs', hb', ht | ht | ht | ht⟩ := hF <;> subst ht
    · exact Blk.ne_ hb hb' (by decide) rfl
    · exact Blk.ne_ hb hb' (by decide) rfl
    · exact Blk.ne_ hb hb' (by decide) rfl
    · exact Blk.ne_ hb hb' (by decide) rfl)
theorem mm_srow {base : Nat} {w w' : World} {base' n : Nat} {v : Value} {xs : List Value} (h : Chg (MMine base w) w w') (ho : w.ownsRow base' 40 5 v n xs) : w'.ownsRow base' 40 5 v n xs :=
  h.owns ho (fun g hg hF => by
    obtain ⟨_, t, cs, hb, ht | ht | ht | ht⟩ := hF <;> subst ht
    · exact own_blk_ne ho hb (by decide) hg
    · exact own_blk_ne ho hb (by decide) hg
    · exact own_blk_ne ho hb (by decide) hg
    · exact own_blk_ne ho hb (by decide) hg)
/-- A moot is left alone where blocks of other types turn. -/
theorem Moot.chg {base m : Nat} {w w' : World} {cs : List Cfg} {tk : List Cmd} {cl : Cls} {F : Nat → Prop} (hp : Moot base w m cs tk cl) (hc : Chg F w w') (hF : ∀ i, i < w.heap.size → F i → ∃ t cs, Blk w i t cs ∧ t ≠ 63 ∧ t ≠ 38 ∧ t ≠ 105 ∧ t ≠ 46 ∧ t ≠ 3) : Moot base w' m cs tk cl := by
  obtain ⟨h, tv, hm, hcn⟩ := hp
  refine ⟨h, tv, ⟨hm.box.chg hc (fun hf => ?_), hc.owns hm.row (fun g hg hf => ?_), hm.hm, hm.hh⟩, hcn.chg hc (fun i hi hf => ?_)⟩
  · obtain ⟨t, cs, hb, h1, _⟩ := hF m hm.box.lt hf
    exact Blk.ne_ hb hm.box h1 rfl
  · obtain ⟨t, cs, hb, _, h2, _⟩ := hF g (hm.row.lt g hg).2 hf
    exact own_blk_ne hm.row hb (fun e => h2 e.symm) hg
  · obtain ⟨t, cs, hb, _, _, h3, h4, h5⟩ := hF i hi hf
    exact ⟨t, cs, hb, h3, h4, h5⟩

/-- Do comes to one of four ends. -/
theorem md_ends (s : Mt) (c n : Int) (x : Cmd) :
    (badA c n = true ∧ mdS s c n x = ((0, false, 1), s)) ∨
    (badA c n = false ∧ n < (s.cl c.toNat).1 ∧ mdS s c n x = ((0, false, 6), s)) ∨
    (badA c n = false ∧ n = (s.cl c.toNat).1 ∧ mdS s c n x = (((s.cl c.toNat).2, false, 0), s)) ∨
    (badA c n = false ∧ (s.cl c.toNat).1 < n ∧ mdS s c n x = (((doS s.cs x).2, true, 0), ⟨(doS s.cs x).1, tkS s.cs s.tk x, upd s.cl c.toNat (n, (doS s.cs x).2)⟩)) := by
  unfold mdS
  by_cases h1 : badA c n = true
  · exact .inl ⟨h1, by rw [if_pos h1]⟩
  · have h1' : badA c n = false := by simpa using h1
    rw [if_neg h1]
    by_cases h2 : n < (s.cl c.toNat).1
    · exact .inr (.inl ⟨h1', h2, by rw [if_pos h2]⟩)
    · rw [if_neg h2]
      by_cases h3 : n = (s.cl c.toNat).1
      · exact .inr (.inr (.inl ⟨h1', h3, by rw [if_pos h3]⟩))
      · exact .inr (.inr (.inr ⟨h1', by omega, by rw [if_neg h3]⟩))
theorem bad_in {c n : Int} (h : badA c n = false) : 0 ≤ c ∧ c < 8 ∧ 1 ≤ n ∧ n ≤ 1099511627776 := by
  simp [badA] at h
  omega
theorem tkS_len (cs : List Cfg) (tk : List Cmd) (x : Cmd) : (tkS cs tk x).length ≤ tk.length + 1 := by
  unfold tkS
  split
  · simp
  · omega
/-- Again: the same answer. -/
theorem md_again (s : Mt) (c n : Int) (x y : Cmd) (h : (mdS s c n x).1.2.2 = 0) : mdS (mdS s c n x).2 c n y = (((mdS s c n x).1.1, false, 0), (mdS s c n x).2) := by
  rcases md_ends s c n x with ⟨_, e⟩ | ⟨_, _, e⟩ | ⟨hb, hn, e⟩ | ⟨hb, hn, e⟩
  · rw [e] at h; simp at h
  · rw [e] at h; simp at h
  · rw [e]
    unfold mdS
    rw [if_neg (by simp [hb]), if_neg (by simp only; omega), if_pos (by simpa using hn)]
  · rw [e]
    unfold mdS
    rw [if_neg (by simp [hb]), if_neg (by simp [upd]), if_pos (by simp [upd])]
    simp [upd]

/-- Of what was done no number is greater than its client's last. -/
def Known (s : Mt) (D : List Stp) : Prop := ∀ d ∈ D, d.n ≤ (s.cl d.c.toNat).1 ∧ 0 ≤ d.c
theorem known_do {s : Mt} {D : List Stp} (hk : Known s D) (c n : Int) (x : Cmd) : Known (mdS s c n x).2 D := by
  rcases md_ends s c n x with ⟨_, e⟩ | ⟨_, _, e⟩ | ⟨hb, hn, e⟩ | ⟨hb, hn, e⟩
  · rw [e]; exact hk
  · rw [e]; exact hk
  · rw [e]; exact hk
  · rw [e]
    intro d hd
    obtain ⟨h1, h2⟩ := hk d hd
    refine ⟨?_, h2⟩
    show d.n ≤ (upd s.cl c.toNat (n, (doS s.cs x).2) d.c.toNat).1
    unfold upd
    split
    · rename_i he; rw [he] at h1; simp only; omega
    · exact h1
theorem known_add {s : Mt} {D : List Stp} (hk : Known s D) (c n : Int) (x z : Cmd) (h : (mdS s c n x).1.2.2 = 0) : Known (mdS s c n x).2 (D ++ [⟨c, n, z⟩]) := by
  intro d hd
  rcases List.mem_append.1 hd with hd | hd
  · exact known_do hk c n x d hd
  · rw [List.mem_singleton] at hd
    subst hd
    rcases md_ends s c n x with ⟨_, e⟩ | ⟨_, _, e⟩ | ⟨hb, hn, e⟩ | ⟨hb, hn, e⟩
    · rw [e] at h; simp at h
    · rw [e] at h; simp at h
    · rw [e]; have := bad_in hb; exact ⟨by simp only; omega, by simp only; omega⟩
    · rw [e]; have := bad_in hb; refine ⟨?_, by simp only; omega⟩
      show n ≤ (upd s.cl c.toNat (n, (doS s.cs x).2) c.toNat).1
      simp [upd]
theorem md_len {s : Mt} (c n : Int) (x : Cmd) (h : s.cs.length ≤ 41) (h0 : 0 < s.cs.length) : (mdS s c n x).2.cs.length ≤ 41 ∧ 0 < (mdS s c n x).2.cs.length ∧ (mdS s c n x).2.tk.length ≤ s.tk.length + 1 := by
  rcases md_ends s c n x with ⟨_, e⟩ | ⟨_, _, e⟩ | ⟨hb, hn, e⟩ | ⟨hb, hn, e⟩
  · rw [e]; exact ⟨h, h0, Nat.le_succ _⟩
  · rw [e]; exact ⟨h, h0, Nat.le_succ _⟩
  · rw [e]; exact ⟨h, h0, Nat.le_succ _⟩
  · rw [e]; exact ⟨(doS_len s.cs x h h0).1, (doS_len s.cs x h h0).2, tkS_len _ _ _⟩
/-- What was done stands in no other's way. -/
theorem known_no {s : Mt} {D : List Stp} (hk : Known s D) {d : Stp} (hd : d ∈ D) {c n : Int} (hc : d.c = c) :
    ((s.cl c.toNat).1 < n → d.n < n) ∧ (n = (s.cl c.toNat).1 → d.n ≤ n) := by
  subst hc
  have := (hk d hd).1
  exact ⟨fun h => by omega, fun h => by omega⟩

end Go.Proofs.YtijacbnoemjgcaaGreatDoor
