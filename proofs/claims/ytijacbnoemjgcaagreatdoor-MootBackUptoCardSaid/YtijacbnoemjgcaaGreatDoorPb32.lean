/- A moot's text, plain: what is loaded of a text; there and back; the document's moot. -/
import Derived.Test.YtijacbnoemjgcaaGreatDoorPb30
import Derived.Test.YtijacbnoemjgcaaGreatDoorPb27
import Derived.Test.YtijacbnoemjgcaaGreatDoorPb31
import Derived.Lib.ItoaLen
set_option linter.unusedVariables false
set_option linter.unusedSimpArgs false
set_option linter.unnecessarySimpa false
namespace Go.Proofs.YtijacbnoemjgcaaGreatDoor
open Go.Lib

abbrev Tri := Int × Int × Int
def triB (x : Tri) : List Bs := [itoa x.1, itoa x.2.1, itoa x.2.2]
def cmdT (x : Cmd) : Tri := (x.kind, x.group, x.shard)
def cmdsB (l : List Cmd) : List Bs := l.flatMap fun x => triB (cmdT x)
def cliB (cl : Cls) (i : Nat) : List Bs := if 0 < (cl i).1 then triB ((i : Int), (cl i).1, (cl i).2) else []
def clisB (cl : Cls) (k : Nat) : List Bs := (List.range k).flatMap (cliB cl)
/-- A moot's text. -/
def mtxt (tk : List Cmd) (cl : Cls) : Bs := packB [packB (cmdsB tk), packB (clisB cl 8)]

theorem cmdsB_take (l : List Cmd) (k : Nat) (hk : k < l.length) : cmdsB (l.take (k + 1)) = cmdsB (l.take k) ++ triB (cmdT l[k]) := by
  unfold cmdsB; rw [List.take_succ_eq_append_getElem hk, List.flatMap_append]; simp
theorem cmdsB_length (l : List Cmd) : (cmdsB l).length = l.length * 3 := by
  induction l with
  | nil => rfl
  | cons x l ih => unfold cmdsB at ih ⊢; rw [List.flatMap_cons, List.length_append, ih]; simp [triB]; omega
theorem clisB_succ (cl : Cls) (k : Nat) : clisB cl (k + 1) = clisB cl k ++ cliB cl k := by
  unfold clisB; rw [List.range_succ, List.flatMap_append]; simp
theorem clisB_length (cl : Cls) (k : Nat) : (clisB cl k).length ≤ k * 3 := by
  induction k with
  | zero => simp [clisB]
  | succ k ih => rw [clisB_succ, List.length_append]; unfold cliB; split <;> simp [triB] <;> omega

/-- Numbers, three by three. -/
def trisO : List Int → List Tri
  | a :: b :: c :: l => (a, b, c) :: trisO l
  | _ => []
theorem tris_flat : ∀ (n : Nat) (l : List Int), l.length ≤ n → l.length % 3 = 0 → (trisO l).flatMap triB = l.map itoa
  | _, [], _, _ => rfl
  | _, [_], _, h => by simp at h
  | _, [_, _], _, h => by simp at h
  | 0, _ :: _ :: _ :: _, h, _ => by simp at h
  | n + 1, a :: b :: c :: l, h, h3 => by
    rw [trisO, List.flatMap_cons, tris_flat n l (by simp at h; omega) (by simp at h3; omega)]
    rfl
theorem tris_of (l : List Tri) : trisO (l.flatMap fun x => [x.1, x.2.1, x.2.2]) = l := by
  induction l with
  | nil => rfl
  | cons x l ih =>
    rw [List.flatMap_cons, List.cons_append, List.cons_append, List.cons_append, List.nil_append, trisO, ih]
theorem tris_length : ∀ (n : Nat) (l : List Int), l.length ≤ n → l.length % 3 = 0 → (trisO l).length * 3 = l.length
  | _, [], _, _ => rfl
  | _, [_], _, h => by simp at h
  | _, [_, _], _, h => by simp at h
  | 0, _ :: _ :: _ :: _, h, _ => by simp at h
  | n + 1, a :: b :: c :: l, h, h3 => by
    have := tris_length n l (by simp at h; omega) (by simp at h3; omega)
    rw [trisO, List.length_cons, List.length_cons, List.length_cons, List.length_cons]
    omega
/-- The numbers of a list's text, if they are three by three. -/
def thrO (t : Bs) : Option (List Int) := if (unpackB t).2 = 0 ∧ (unpackB t).1.length % 3 = 0 then toNums (unpackB t).1 else none
theorem toNums_length {l : List Bs} {ns : List Int} (h : toNums l = some ns) : ns.length = l.length := by
  have := congrArg List.length (toNums_some l ns h)
  simpa using this
theorem thr_some {t : Bs} {ns : List Int} (h : thrO t = some ns) : ns.length % 3 = 0 ∧ packB ((trisO ns).flatMap triB) = t := by
  unfold thrO at h
  split at h
  · rename_i h0
    have hl := toNums_length h
    have h3 : ns.length % 3 = 0 := by rw [hl]; exact h0.2
    refine ⟨h3, ?_⟩
    rw [tris_flat ns.length ns (Nat.le_refl _) h3, toNums_some _ ns h]
    have h1 := h0.1
    unfold unpackB at h1 ⊢
    cases hu : unpackO t with
    | none => rw [hu] at h1; simp at h1
    | some l => exact (pack_unpack t.length t l (Nat.le_refl _) hu).1
  · cases h
def triIn (x : Tri) : Prop := (-9223372036854775808 ≤ x.1 ∧ x.1 ≤ 9223372036854775807) ∧ (-9223372036854775808 ≤ x.2.1 ∧ x.2.1 ≤ 9223372036854775807) ∧ (-9223372036854775808 ≤ x.2.2 ∧ x.2.2 ≤ 9223372036854775807)
theorem tri_small {l : List Tri} (h : ∀ x ∈ l, triIn x) : ∀ s ∈ l.flatMap triB, s.length ≤ 21 := by
  intro s hs
  simp only [List.mem_flatMap] at hs
  obtain ⟨x, hx, hs⟩ := hs
  obtain ⟨h1, h2, h3⟩ := h x hx
  simp [triB] at hs
  rcases hs with rfl | rfl | rfl
  · have := itoa_length_le x.1 (by omega) (by omega); omega
  · have := itoa_length_le x.2.1 (by omega) (by omega); omega
  · have := itoa_length_le x.2.2 (by omega) (by omega); omega
theorem thr_of (l : List Tri) (h : ∀ x ∈ l, triIn x) : ∃ ns, thrO (packB (l.flatMap triB)) = some ns ∧ trisO ns = l := by
  refine ⟨l.flatMap fun x => [x.1, x.2.1, x.2.2], ?_, tris_of l⟩
  have hu : unpackB (packB (l.flatMap triB)) = (l.flatMap triB, 0) := by
    unfold unpackB
    rw [unpack_pack _ (fun s hs => by have := tri_small h s hs; omega)]
  have he : l.flatMap triB = (l.flatMap fun x => [x.1, x.2.1, x.2.2]).map itoa := by
    rw [List.map_flatMap]; rfl
  have hl : (l.flatMap triB).length % 3 = 0 := by
    clear hu he h
    induction l with
    | nil => rfl
    | cons x l ih =>
      have h3 : (triB x).length = 3 := rfl
      rw [List.flatMap_cons, List.length_append, h3]
      omega
  unfold thrO
  rw [hu, if_pos ⟨rfl, hl⟩, he]
  refine toNums_itoa _ (fun n hn => ?_)
  simp only [List.mem_flatMap] at hn
  obtain ⟨x, hx, hn⟩ := hn
  obtain ⟨h1, h2, h3⟩ := h x hx
  simp at hn
  rcases hn with rfl | rfl | rfl <;> assumption

/-- Commands taken one behind the other, if each is. -/
def takeAll : List Tri → List Cfg → List Cmd → Option (List Cfg × List Cmd)
  | [], cs, tk => some (cs, tk)
  | x :: l, cs, tk => if (doS cs ⟨x.1, x.2.1, x.2.2⟩).2 = 0 then takeAll l (doS cs ⟨x.1, x.2.1, x.2.2⟩).1 (tk ++ [⟨x.1, x.2.1, x.2.2⟩]) else none
def badT (before : Int) (x : Tri) : Bool := decide (x.1 ≤ before) || decide (8 ≤ x.1) || decide (x.2.1 < 1) || decide (1099511627776 < x.2.1) || decide (x.2.2 < 0) || decide (999 < x.2.2)
/-- Clients, one behind the other. -/
def cliAll : List Tri → Int → Cls → Option Cls
  | [], _, cl => some cl
  | x :: l, before, cl => if badT before x = true then none else cliAll l x.1 (upd cl x.1.toNat (x.2.1, x.2.2))
/-- The moot of a text. -/
def loadS (t : Bs) : Option Mt :=
  match (unpackB t).1 with
  | [a, b] => if (unpackB t).2 = 0 then
      match thrO a, thrO b with
      | some na, some nb => match takeAll (trisO na) [cfg0] [] with
        | some (cs, tk) => match cliAll (trisO nb) (-1) (fun _ => (0, 0)) with
          | some cl => some ⟨cs, tk, cl⟩
          | none => none
        | none => none
      | _, _ => none
    else none
  | _ => none
theorem cmdsB_eq (l : List Cmd) : cmdsB l = (l.map cmdT).flatMap triB := by
  unfold cmdsB; rw [List.flatMap_map]
theorem take_all {l : List Tri} : ∀ {cs : List Cfg} {tk : List Cmd} {cs' : List Cfg} {tk' : List Cmd}, takeAll l cs tk = some (cs', tk') → tk'.map cmdT = tk.map cmdT ++ l ∧ (cs.length ≤ 41 → cs'.length ≤ 41) ∧ cs'.length = cs.length + l.length ∧ (cs = runS tk → cs' = runS tk') := by
  induction l with
  | nil => intro cs tk cs' tk' h; simp [takeAll] at h; obtain ⟨rfl, rfl⟩ := h; simp
  | cons x l ih =>
    intro cs tk cs' tk' h
    rw [takeAll] at h
    split at h
    · rename_i h0
      obtain ⟨h1, h2, h3, h4⟩ := ih h
      have hlen : (doS cs ⟨x.1, x.2.1, x.2.2⟩).1.length = cs.length + 1 ∧ (doS cs ⟨x.1, x.2.1, x.2.2⟩).1.length ≤ 41 := by
        rw [doS_is] at h0 ⊢
        split at h0
        · rename_i hn; exact absurd h0 hn
        · rename_i hn
          rw [if_neg hn]
          split at h0
          · simp at h0
          · rename_i hl
            rw [if_neg hl]
            simp
            omega
      refine ⟨?_, fun _ => h2 hlen.2, by rw [h3, hlen.1, List.length_cons]; omega, fun e => h4 (by rw [runS_snoc, ← e])⟩
      rw [h1]; simp [cmdT]
    · cases h
theorem clisB_congr {a b : Cls} {k : Nat} (h : ∀ i, i < k → a i = b i) : clisB a k = clisB b k := by
  induction k with
  | zero => rfl
  | succ k ih => rw [clisB_succ, clisB_succ, ih (fun i hi => h i (by omega))]; unfold cliB; rw [h k (by omega)]
theorem clisB_zeros {a : Cls} {k : Nat} : ∀ n, (∀ i, k ≤ i → i < k + n → (a i).1 = 0) → clisB a (k + n) = clisB a k := by
  intro n
  induction n with
  | zero => intro _; rfl
  | succ n ih =>
    intro h
    rw [← Nat.add_assoc, clisB_succ, ih (fun i h1 h2 => h i h1 (by omega))]
    unfold cliB
    rw [if_neg (by rw [h (k + n) (by omega) (by omega)]; omega)]
    simp
theorem cli_all {l : List Tri} : ∀ {before : Int} {cl cl' : Cls}, -1 ≤ before → before ≤ 7 → (∀ i : Nat, before < (i : Int) → cl i = (0, 0)) → cliAll l before cl = some cl' → clisB cl' 8 = clisB cl (before + 1).toNat ++ l.flatMap triB ∧ (∀ i, 8 ≤ i → cl' i = (0, 0)) ∧ (∀ i : Nat, (i : Int) ≤ before → cl' i = cl i) := by
  induction l with
  | nil =>
    intro before cl cl' h1 h7 hz h
    simp [cliAll] at h
    subst h
    refine ⟨?_, fun i hi => hz i (by omega), fun _ _ => rfl⟩
    have := clisB_zeros (a := cl) (k := (before + 1).toNat) (8 - (before + 1).toNat) (fun i h1 h2 => by rw [hz i (by omega)])
    rw [show (before + 1).toNat + (8 - (before + 1).toNat) = 8 by omega] at this
    rw [this]; simp
  | cons x l ih =>
    intro before cl cl' h1 h7 hz h
    rw [cliAll] at h
    split at h
    · cases h
    · rename_i hb
      simp [badT] at hb
      obtain ⟨⟨⟨⟨⟨b1, b2⟩, b3⟩, b4⟩, b5⟩, b6⟩ := hb
      obtain ⟨e1, e2, e3⟩ := ih (before := x.1) (by omega) (by omega) (fun i hi => by unfold upd; rw [if_neg (by omega)]; exact hz i (by omega)) h
      refine ⟨?_, e2, fun i hi => ?_⟩
      · rw [e1, show (x.1 + 1).toNat = x.1.toNat + 1 by omega, clisB_succ, List.flatMap_cons]
        have hk : clisB (upd cl x.1.toNat (x.2.1, x.2.2)) x.1.toNat = clisB cl (before + 1).toNat := by
          rw [clisB_congr (b := cl) (fun i hi => by unfold upd; rw [if_neg (by omega)])]
          have := clisB_zeros (a := cl) (k := (before + 1).toNat) (x.1.toNat - (before + 1).toNat) (fun i h1 h2 => by rw [hz i (by omega)])
          rw [show (before + 1).toNat + (x.1.toNat - (before + 1).toNat) = x.1.toNat by omega] at this
          exact this
        rw [hk]
        have hc : cliB (upd cl x.1.toNat (x.2.1, x.2.2)) x.1.toNat = triB x := by
          unfold cliB upd
          rw [if_pos rfl, if_pos (by simp only; omega)]
          simp only
          rw [Int.toNat_of_nonneg (by omega)]
        rw [hc]; simp
      · rw [e3 i (by omega)]; unfold upd; rw [if_neg (by omega)]
/-- What is loaded has that text. -/
theorem load_text {t : Bs} {s : Mt} (h : loadS t = some s) : mtxt s.tk s.cl = t ∧ s.cs = runS s.tk ∧ s.cs.length ≤ 41 ∧ s.cs.length = s.tk.length + 1 := by
  unfold loadS at h
  split at h
  · rename_i a b hl
    split at h
    · rename_i h0
      split at h
      · rename_i na nb ha hb
        split at h
        · rename_i cs tk ht
          split at h
          · rename_i cl hc
            injection h with h
            subst h
            obtain ⟨t1, t2, t3, t4⟩ := take_all ht
            obtain ⟨c1, c2, c3⟩ := cli_all (by omega) (by omega) (fun _ _ => rfl) hc
            have h1 := (thr_some ha).2
            have h2 := (thr_some hb).2
            refine ⟨?_, t4 rfl, t2 (by simp), by rw [t3]; have := congrArg List.length t1; simp at this; simp; omega⟩
            unfold mtxt
            rw [cmdsB_eq]
            simp only
            rw [t1, c1]
            simp only [List.map_nil, List.nil_append]
            rw [h1, show ((-1 : Int) + 1).toNat = 0 from rfl, show clisB (fun _ => (0, 0)) 0 = [] from rfl, List.nil_append, h2, ← hl]
            unfold unpackB at h0 ⊢
            cases hu : unpackO t with
            | none => rw [hu] at h0; simp at h0
            | some l => exact (pack_unpack t.length t l (Nat.le_refl _) hu).1
          · cases h
        · cases h
      · cases h
    · cases h
  · cases h

end Go.Proofs.YtijacbnoemjgcaaGreatDoor
