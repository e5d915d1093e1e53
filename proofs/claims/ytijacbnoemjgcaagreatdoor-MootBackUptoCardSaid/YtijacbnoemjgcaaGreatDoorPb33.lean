/- A moot's text loaded again gives the moot; the document's moot goes alike; plain. -/
import Derived.Test.YtijacbnoemjgcaaGreatDoorPb32
set_option linter.unusedVariables false
set_option linter.unusedSimpArgs false
set_option linter.unnecessarySimpa false
namespace Go.Proofs.YtijacbnoemjgcaaGreatDoor
open Go.Lib

theorem groupB_in {g : Int} (h : groupB g = true) : 1 ≤ g ∧ g ≤ 4 := by
  simp [groupB] at h
  omega
theorem refusedS_bd (c : Cfg) (x : Cmd) : 0 ≤ refusedS c x ∧ refusedS c x ≤ 151 := by
  unfold refusedS
  split
  · omega
  · split
    · omega
    · split
      · omega
      · split <;> omega
theorem nextS_bd (c : Cfg) (x : Cmd) : 0 ≤ (nextS c x).2 ∧ (nextS c x).2 ≤ 151 := by
  unfold nextS
  split
  · simp
  · split
    · exact refusedS_bd c x
    · simp
theorem doS_bd (cs : List Cfg) (x : Cmd) : 0 ≤ (doS cs x).2 ∧ (doS cs x).2 ≤ 151 := by
  rw [doS_is]
  split
  · exact nextS_bd _ x
  · split <;> simp
theorem next_cmd {c : Cfg} {x : Cmd} (h : (nextS c x).2 = 0) : 1 ≤ x.kind ∧ x.kind ≤ 3 ∧ 1 ≤ x.group ∧ x.group ≤ 4 ∧ 0 ≤ x.shard ∧ x.shard ≤ 3 := by
  obtain ⟨_, hr, _⟩ := next_is h
  unfold refusedS at hr
  split at hr
  · simp at hr
  · rename_i h1
    split at hr
    · simp at hr
    · rename_i h2
      have hg : groupB x.group = true := by
        cases hh : groupB x.group
        · exact absurd (.inr (.inr hh)) h1
        · rfl
      have := groupB_in hg
      omega
theorem doS_notU {cs : List Cfg} {x : Cmd} (h : (doS cs x).2 ≠ 0) : (doS cs x).1 = cs := by
  rw [doS_is] at h ⊢
  by_cases h1 : (nextS (cs.getLastD cfg0) x).2 ≠ 0
  · rw [if_pos h1]
  · rw [if_neg h1] at h ⊢
    by_cases h2 : 40 < cs.length
    · rw [if_pos h2]
    · rw [if_neg h2] at h; simp at h
theorem do_cmd {cs : List Cfg} {x : Cmd} (h : (doS cs x).2 = 0) : triIn (cmdT x) := by
  have hn : (nextS (cs.getLastD cfg0) x).2 = 0 := by
    rw [doS_is] at h
    split at h
    · rename_i h1; exact absurd h h1
    · rename_i h1; simpa using h1
  have := next_cmd hn
  unfold triIn cmdT
  simp only
  omega
theorem takeAll_snoc (l : List Tri) (x : Tri) : ∀ (cs : List Cfg) (tk : List Cmd), takeAll (l ++ [x]) cs tk = match takeAll l cs tk with
    | some (cs', tk') => takeAll [x] cs' tk'
    | none => none := by
  induction l with
  | nil => intro cs tk; rfl
  | cons y l ih =>
    intro cs tk
    rw [List.cons_append, takeAll]
    conv => rhs; rw [takeAll]
    split
    · exact ih _ _
    · rfl

/-- What holds of each moot that is reached. -/
structure MtOk (s : Mt) : Prop where
  run : s.cs = runS s.tk
  len : s.cs.length = s.tk.length + 1
  l41 : s.cs.length ≤ 41
  all : takeAll (s.tk.map cmdT) [cfg0] [] = some (s.cs, s.tk)
  cl : ∀ i, s.cl i = (0, 0) ∨ (i < 8 ∧ 1 ≤ (s.cl i).1 ∧ (s.cl i).1 ≤ 1099511627776 ∧ 0 ≤ (s.cl i).2 ∧ (s.cl i).2 ≤ 999)
  tin : ∀ x ∈ s.tk, triIn (cmdT x)
theorem mt0_ok : MtOk mt0 := ⟨rfl, rfl, by simp [mt0], rfl, fun i => .inl rfl, by simp [mt0]⟩
theorem md_ok {s : Mt} (h : MtOk s) (c n : Int) (x : Cmd) : MtOk (mdS s c n x).2 := by
  rcases md_ends s c n x with ⟨_, e⟩ | ⟨_, _, e⟩ | ⟨_, _, e⟩ | ⟨hb, hn, e⟩
  · rw [e]; exact h
  · rw [e]; exact h
  · rw [e]; exact h
  · rw [e]
    have hbd := doS_bd s.cs x
    have hin := bad_in hb
    have hcl : ∀ i, upd s.cl c.toNat (n, (doS s.cs x).2) i = (0, 0) ∨ (i < 8 ∧ 1 ≤ (upd s.cl c.toNat (n, (doS s.cs x).2) i).1 ∧ (upd s.cl c.toNat (n, (doS s.cs x).2) i).1 ≤ 1099511627776 ∧ 0 ≤ (upd s.cl c.toNat (n, (doS s.cs x).2) i).2 ∧ (upd s.cl c.toNat (n, (doS s.cs x).2) i).2 ≤ 999) := by
      intro i
      unfold upd
      split
      · right; simp only; omega
      · exact h.cl i
    by_cases h0 : (doS s.cs x).2 = 0
    · have hl : (doS s.cs x).1.length = s.cs.length + 1 ∧ (doS s.cs x).1.length ≤ 41 := by
        have h0' := h0
        rw [doS_is] at h0' ⊢
        split at h0'
        · rename_i hn'; exact absurd h0' hn'
        · rename_i hn'
          rw [if_neg hn']
          split at h0'
          · simp at h0'
          · rename_i hl
            rw [if_neg hl]
            simp
            omega
      have htk : tkS s.cs s.tk x = s.tk ++ [x] := by unfold tkS; rw [if_pos h0]
      refine ⟨?_, ?_, hl.2, ?_, hcl, ?_⟩
      · simp only [htk]; rw [runS_snoc, ← h.run]
      · simp only [htk]; rw [hl.1, h.len]; simp
      · simp only [htk]
        rw [List.map_append, List.map_singleton, takeAll_snoc, h.all]
        show takeAll [cmdT x] s.cs s.tk = _
        rw [takeAll]
        show (if (doS s.cs x).2 = 0 then _ else _) = _
        rw [if_pos h0]; rfl
      · simp only [htk]
        intro y hy
        rcases List.mem_append.1 hy with hy | hy
        · exact h.tin y hy
        · rw [List.mem_singleton] at hy; subst hy; exact do_cmd h0
    · have htk : tkS s.cs s.tk x = s.tk := by unfold tkS; rw [if_neg h0]
      have hcs := doS_notU h0
      exact ⟨by simp only [htk, hcs]; exact h.run, by simp only [htk, hcs]; exact h.len, by simp only [hcs]; exact h.l41, by simp only [htk, hcs]; exact h.all, hcl, by simp only [htk]; exact h.tin⟩

/-- The clients that are known, from one on. -/
def cliT (cl : Cls) (i : Nat) : List Tri := if 0 < (cl i).1 then [((i : Int), (cl i).1, (cl i).2)] else []
theorem cliB_tri (cl : Cls) (k : Nat) : clisB cl k = ((List.range k).flatMap (cliT cl)).flatMap triB := by
  unfold clisB
  rw [List.flatMap_assoc]
  congr 1
  funext i
  unfold cliB cliT
  split <;> simp
theorem cliAll_of (cl : Cls) (h : ∀ i, cl i = (0, 0) ∨ (i < 8 ∧ 1 ≤ (cl i).1 ∧ (cl i).1 ≤ 1099511627776 ∧ 0 ≤ (cl i).2 ∧ (cl i).2 ≤ 999)) :
    ∀ (n k : Nat) (before : Int), k + n = 8 → before < (k : Int) → cliAll ((List.range' k n).flatMap (cliT cl)) before (fun i => if i < k then cl i else (0, 0)) = some cl := by
  intro n
  induction n with
  | zero =>
    intro k before hk _
    rw [List.range'_zero, List.flatMap_nil, cliAll]
    congr 1
    funext i
    split
    · rfl
    · rcases h i with e | e
      · exact e.symm
      · omega
  | succ n ih =>
    intro k before hk hb
    rw [List.range'_succ, List.flatMap_cons]
    rcases h k with e | ⟨e0, e1, e2, e3, e4⟩
    · have : cliT cl k = [] := by unfold cliT; rw [if_neg (by rw [e]; simp)]
      rw [this, List.nil_append]
      have hf : (fun i => if i < k then cl i else (0, 0)) = (fun i => if i < k + 1 then cl i else ((0, 0) : Int × Int)) := by
        funext i
        by_cases hi : i < k
        · rw [if_pos hi, if_pos (by omega)]
        · rw [if_neg hi]
          split
          · have : i = k := by omega
            subst this; exact e.symm
          · rfl
      rw [hf]
      exact ih (k + 1) before (by omega) (by omega)
    · have : cliT cl k = [((k : Int), (cl k).1, (cl k).2)] := by unfold cliT; rw [if_pos (by omega)]
      rw [this, List.singleton_append, cliAll, if_neg (by simp [badT]; omega)]
      have hf : upd (fun i => if i < k then cl i else (0, 0)) ((k : Int), (cl k).1, (cl k).2).1.toNat ((cl k).1, (cl k).2) = (fun i => if i < k + 1 then cl i else ((0, 0) : Int × Int)) := by
        funext i
        unfold upd
        simp only [Int.toNat_natCast]
        by_cases hi : i = k
        · subst hi; rw [if_pos rfl, if_pos (by omega)]
        · rw [if_neg hi]
          by_cases hik : i < k
          · rw [if_pos hik, if_pos (by omega)]
          · rw [if_neg hik, if_neg (by omega)]
      rw [hf]
      exact ih (k + 1) _ (by omega) (by simp only; omega)
theorem packB_le2 (l : List Bs) (m : Nat) (h : ∀ s ∈ l, s.length ≤ m) (hm : m ≤ 999999999) : (packB l).length ≤ l.length * (m + 30) := by
  induction l with
  | nil => simp [packB]
  | cons s l ih =>
    have h1 := h s (by simp)
    have h2 := ih (fun x hx => h x (by simp [hx]))
    have h3 := itoa_length_le (s.length : Int) (by omega) (by omega)
    rw [packB_cons, List.length_cons, Nat.add_mul]
    simp only [List.length_append, List.length_cons]
    omega
theorem cliT_in {s : Mt} (h : MtOk s) : ∀ x ∈ (List.range 8).flatMap (cliT s.cl), triIn x := by
  intro x hx
  simp only [List.mem_flatMap, List.mem_range] at hx
  obtain ⟨i, hi, hx⟩ := hx
  unfold cliT at hx
  split at hx
  · rename_i h0
    rw [List.mem_singleton] at hx
    subst hx
    rcases h.cl i with e | ⟨e0, e1, e2, e3, e4⟩
    · rw [e] at h0; simp at h0
    · unfold triIn; simp only; omega
  · cases hx
theorem two_len (a b : Bs) (m : Nat) (ha : a.length ≤ m) (hb : b.length ≤ m) (hm : m ≤ 999999999) : (packB [a, b]).length ≤ 2 * (m + 30) := by
  refine packB_le2 [a, b] m (fun x hx => ?_) hm
  simp only [List.mem_cons, List.not_mem_nil, or_false] at hx
  rcases hx with e | e
  · rw [e]; exact ha
  · rw [e]; exact hb
theorem cmds_len {s : Mt} (h : MtOk s) : (packB (cmdsB s.tk)).length ≤ 6240 := by
  have hl : s.tk.length ≤ 40 := by have := h.len; have := h.l41; omega
  have h1 := packB_le2 (cmdsB s.tk) 21 (by rw [cmdsB_eq]; exact tri_small (fun x hx => by obtain ⟨y, hy, rfl⟩ := List.mem_map.1 hx; exact h.tin y hy)) (by omega)
  rw [cmdsB_length] at h1
  omega
theorem clis_len {s : Mt} (h : MtOk s) : (packB (clisB s.cl 8)).length ≤ 1248 := by
  have h2 := packB_le2 (clisB s.cl 8) 21 (by rw [cliB_tri]; exact tri_small (cliT_in h)) (by omega)
  have h3 := clisB_length s.cl 8
  generalize clisB s.cl 8 = x at *
  omega
/-- How long the parts of a moot's text are. -/
theorem mtxt_parts {s : Mt} (h : MtOk s) : (packB (cmdsB s.tk)).length ≤ 6240 ∧ (packB (clisB s.cl 8)).length ≤ 1248 ∧ (mtxt s.tk s.cl).length ≤ 12540 :=
  ⟨cmds_len h, clis_len h, two_len _ _ 6240 (cmds_len h) (Nat.le_trans (clis_len h) (by omega)) (by omega)⟩
theorem mtxt_unpack (a b : Bs) (ha : a.length ≤ 999999999) (hb : b.length ≤ 999999999) : unpackB (packB [a, b]) = ([a, b], 0) := by
  unfold unpackB
  rw [unpack_pack [a, b] (fun x hx => by
    simp only [List.mem_cons, List.not_mem_nil, or_false] at hx
    rcases hx with e | e
    · rw [e]; exact ha
    · rw [e]; exact hb)]
theorem loadS_two (t a b : Bs) (h : unpackB t = ([a, b], 0)) (na nb : List Int) (ha : thrO a = some na) (hb : thrO b = some nb) (cs : List Cfg) (tk : List Cmd) (ht : takeAll (trisO na) [cfg0] [] = some (cs, tk)) (cl : Cls) (hc : cliAll (trisO nb) (-1) (fun _ => (0, 0)) = some cl) : loadS t = some ⟨cs, tk, cl⟩ := by
  unfold loadS
  rw [h]
  simp only [if_true]
  rw [ha, hb]
  simp only
  rw [ht]
  simp only
  rw [hc]
/-- What is loaded of a moot's text is that moot. -/
theorem load_back {s : Mt} (h : MtOk s) : loadS (mtxt s.tk s.cl) = some s := by
  obtain ⟨p1, p2, p3⟩ := mtxt_parts h
  obtain ⟨na, ha, ta⟩ := thr_of (s.tk.map cmdT) (fun x hx => by obtain ⟨y, hy, rfl⟩ := List.mem_map.1 hx; exact h.tin y hy)
  obtain ⟨nb, hb, tb⟩ := thr_of ((List.range 8).flatMap (cliT s.cl)) (cliT_in h)
  rw [← cmdsB_eq] at ha
  rw [← cliB_tri] at hb
  have hc := cliAll_of s.cl h.cl 8 0 (-1) rfl (by omega)
  rw [← List.range_eq_range'] at hc
  have hz : (fun i => if i < 0 then s.cl i else ((0, 0) : Int × Int)) = fun _ => (0, 0) := by funext i; rw [if_neg (by omega)]
  rw [hz] at hc
  exact loadS_two _ _ _ (mtxt_unpack _ _ (Nat.le_trans p1 (by omega)) (Nat.le_trans p2 (by omega))) na nb ha hb s.cs s.tk (by rw [ta]; exact h.all) s.cl (by rw [tb]; exact hc)

/-- A client that the document's moot knows. -/
structure Cli where
  c : Int
  n : Int
  e : Int
def ofC : List Cli → Int → Cli
  | [], _ => ⟨0, 0, 0⟩
  | x :: l, i => if x.c = i then x else ofC l i
theorem ofC_filter (l : List Cli) (c i : Int) (h : i ≠ c) (x : Cli) (hx : x.c = c) : ofC (l.filter (fun y => y.c != c) ++ [x]) i = ofC l i := by
  induction l with
  | nil => show (if x.c = i then x else ofC [] i) = _; rw [if_neg (by omega)]
  | cons y l ih =>
    by_cases hy : y.c = c
    · rw [List.filter_cons_of_neg (by simp [hy]), ih, ofC, if_neg (by omega)]
    · rw [List.filter_cons_of_pos (by simp [hy]), List.cons_append, ofC, ofC, ih]
theorem ofC_new (l : List Cli) (c : Int) (x : Cli) (hx : x.c = c) : ofC (l.filter (fun y => y.c != c) ++ [x]) c = x := by
  induction l with
  | nil => show (if x.c = c then x else ofC [] c) = _; rw [if_pos hx]
  | cons y l ih =>
    by_cases hy : y.c = c
    · rw [List.filter_cons_of_neg (by simp [hy]), ih]
    · rw [List.filter_cons_of_pos (by simp [hy]), List.cons_append, ofC, if_neg hy, ih]
theorem ofC_drop (l : List Cli) (i : Int) (k : Nat) (hk : k < l.length) : ofC (l.drop k) i = if l[k].c = i then l[k] else ofC (l.drop (k + 1)) i := by
  rw [List.drop_eq_getElem_cons hk]; rfl
/-- The document's clients and the moot's. -/
def AgC (cl : Cls) (C : List Cli) : Prop := ∀ i : Nat, i < 8 → (ofC C (i : Int)).n = (cl i).1 ∧ (ofC C (i : Int)).e = (cl i).2
theorem agC_upd {cl : Cls} {C : List Cli} (h : AgC cl C) (c n e : Int) (h0 : 0 ≤ c) : AgC (upd cl c.toNat (n, e)) (C.filter (fun y => y.c != c) ++ [⟨c, n, e⟩]) := by
  intro i hi
  unfold upd
  by_cases hc : i = c.toNat
  · rw [if_pos hc, show (i : Int) = c by omega, ofC_new C c ⟨c, n, e⟩ rfl]
    exact ⟨rfl, rfl⟩
  · rw [if_neg hc, ofC_filter C c i (by omega) ⟨c, n, e⟩ rfl]
    exact h i hi
theorem agC_nil : AgC (fun _ => (0, 0)) [] := fun _ _ => ⟨rfl, rfl⟩

end Go.Proofs.YtijacbnoemjgcaaGreatDoor
