/- Certificates, plain: their form, their bytes, a tag more. -/
import Derived.Test.YtkmhimaeakbpoaaDoorPe12
import Derived.Test.YtkmhimaeakbpoaaDoorPe18
import Derived.Lib.ItoaLen
import Derived.Deep.RegionHeld3
import Derived.Deep.DrawnRows
import Derived.Deep.DeepCutAuto
import Derived.Deep.CutRange
import Derived.Deep.CutBlock
import Derived.Deep.RegionLaw
import Derived.Deep.QuietTactic
import Derived.RegionTactic
import Derived.Deep.AppendLies
import Derived.Laws.StructEq
import Derived.Laws.OwnMore
set_option linter.unusedVariables false
set_option linter.unusedSimpArgs false
set_option linter.unnecessarySimpa false
namespace Go.Proofs.YtkmhimaeakbpoaaDoor
open Go.Lib

def crt0 : Crt := ⟨[], 0, []⟩
/-- What is wrong with tags, behind a number. -/
def tagsE : Int → List TagV → Int
  | _, [] => 0
  | last, x :: l => if x.1 < 0 ∨ 15 < x.1 then 41 else if x.1 ≤ last then 42 else if x.2.length ≠ 16 then 4 else tagsE x.1 l
def formS (c : Crt) : Int := if c.g < 0 ∨ 4 < c.g then 1 else tagsE (-1) c.tags
def tagB (x : TagV) : List Bs := [itoa x.1, x.2]
/-- A certificate's list. -/
def crtL (c : Crt) : List Bs := c.t :: itoa c.g :: c.tags.flatMap tagB
def encS (c : Crt) : Bs × Int := if formS c = 0 then (packB (crtL c), 0) else ([], formS c)
/-- Tags, two by two. -/
def pairsO : List Bs → Option (List TagV)
  | a :: t :: l => if (toNumB a).2 = 0 then (pairsO l).map (((toNumB a).1, t) :: ·) else none
  | [_] => none
  | [] => some []
def crtO : List Bs → Option Crt
  | t :: g :: l => if (toNumB g).2 = 0 then (pairsO l).map (fun ps => ⟨t, (toNumB g).1, ps⟩) else none
  | _ => none
def decS (b : Bs) : Crt × Int :=
  if (unpackB b).2 = 0 then match crtO (unpackB b).1 with
    | some c => if formS c = 0 then (c, 0) else (crt0, 4)
    | none => (crt0, 4)
  else (crt0, 4)

theorem tagsE_in {l : List TagV} : ∀ {last : Int}, tagsE last l = 0 → ∀ x ∈ l, 0 ≤ x.1 ∧ x.1 ≤ 15 ∧ x.2.length = 16 ∧ last < x.1 := by
  induction l with
  | nil => intro last _ x hx; cases hx
  | cons y l ih =>
    intro last h x hx
    rw [tagsE] at h
    split at h
    · simp at h
    · rename_i h1
      split at h
      · simp at h
      · rename_i h2
        split at h
        · simp at h
        · rename_i h3
          have h3' : y.2.length = 16 := by omega
          rcases List.mem_cons.1 hx with rfl | hx
          · exact ⟨by omega, by omega, h3', by omega⟩
          · obtain ⟨a, b, c, d⟩ := ih h x hx
            exact ⟨a, b, c, by omega⟩
theorem form_in {c : Crt} (h : formS c = 0) : 0 ≤ c.g ∧ c.g ≤ 4 ∧ tagsE (-1) c.tags = 0 := by
  unfold formS at h
  split at h
  · simp at h
  · rename_i h1; exact ⟨by omega, by omega, h⟩
theorem flat_tagB (l : List TagV) : (l.flatMap tagB).length = l.length * 2 := by
  induction l with
  | nil => rfl
  | cons x l ih => rw [List.flatMap_cons, List.length_append, ih]; simp [tagB]; omega
theorem pairs_of (l : List TagV) (h : ∀ x ∈ l, -9223372036854775808 ≤ x.1 ∧ x.1 ≤ 9223372036854775807) : pairsO (l.flatMap tagB) = some l := by
  induction l with
  | nil => rfl
  | cons x l ih =>
    have hx := h x (by simp)
    rw [List.flatMap_cons]
    show pairsO (itoa x.1 :: x.2 :: l.flatMap tagB) = _
    rw [pairsO, toNum_itoa x.1 hx.1 hx.2, if_pos rfl, ih (fun y hy => h y (by simp [hy]))]
    rfl
theorem pairs_flat : ∀ (n : Nat) (l : List Bs) (ps : List TagV), l.length ≤ n → pairsO l = some ps → ps.flatMap tagB = l
  | _, [], ps, _, h => by simp [pairsO] at h; subst h; rfl
  | _, [_], _, _, h => by simp [pairsO] at h
  | 0, _ :: _ :: _, _, hn, _ => by simp at hn
  | n + 1, a :: t :: l, ps, hn, h => by
    rw [pairsO] at h
    split at h
    · rename_i h0
      cases hp : pairsO l with
      | none => rw [hp] at h; simp at h
      | some qs =>
        rw [hp] at h
        simp at h
        subst h
        rw [List.flatMap_cons, pairs_flat n l qs (by simp at hn; omega) hp]
        show itoa _ :: t :: l = _
        rw [toNum_zero' a h0]
    · cases h
theorem pairs_odd : ∀ (n : Nat) (l : List Bs), l.length ≤ n → l.length % 2 = 1 → pairsO l = none
  | _, [], _, h => by simp at h
  | _, [_], _, _ => rfl
  | 0, _ :: _ :: _, hn, _ => by simp at hn
  | n + 1, a :: t :: l, hn, h => by
    rw [pairsO, pairs_odd n l (by simp at hn; omega) (by simp at h; omega)]
    split <;> rfl
theorem crt_flat {l : List Bs} {c : Crt} (h : crtO l = some c) : crtL c = l := by
  match l, h with
  | [], h => simp [crtO] at h
  | [_], h => simp [crtO] at h
  | t :: g :: l, h =>
    rw [crtO] at h
    split at h
    · rename_i h0
      cases hp : pairsO l with
      | none => rw [hp] at h; simp at h
      | some qs =>
        rw [hp] at h
        simp at h
        subst h
        unfold crtL
        simp only
        rw [pairs_flat l.length l qs (Nat.le_refl _) hp, toNum_zero' g h0]
    · cases h
theorem crt_of (c : Crt) (h : formS c = 0) : crtO (crtL c) = some c := by
  obtain ⟨h1, h2, h3⟩ := form_in h
  unfold crtL
  rw [crtO, toNum_itoa c.g (by omega) (by omega), if_pos rfl, pairs_of c.tags (fun x hx => by obtain ⟨a, b, _⟩ := tagsE_in h3 x hx; omega)]
  rfl
theorem unpackB_pack {b : Bs} (h : (unpackB b).2 = 0) : packB (unpackB b).1 = b := by
  unfold unpackB at h ⊢
  cases hu : unpackO b with
  | none => rw [hu] at h; simp at h
  | some l => exact (pack_unpack b.length b l (Nat.le_refl _) hu).1
theorem itoa_small {n : Int} (h0 : -9223372036854775808 ≤ n) (h1 : n ≤ 9223372036854775807) : (itoa n).length ≤ 21 := by
  have := itoa_length_le n (by omega) (by omega); omega
theorem crt_small {c : Crt} (h : formS c = 0) (ht : c.t.length ≤ 999999999) : ∀ s ∈ crtL c, s.length ≤ 999999999 := by
  obtain ⟨h1, h2, h3⟩ := form_in h
  intro s hs
  unfold crtL at hs
  simp only [List.mem_cons, List.mem_flatMap] at hs
  rcases hs with rfl | rfl | ⟨x, hx, hs⟩
  · exact ht
  · have := itoa_small (n := c.g) (by omega) (by omega); omega
  · obtain ⟨a, b, d, _⟩ := tagsE_in h3 x hx
    simp [tagB] at hs
    rcases hs with rfl | rfl
    · have := itoa_small (n := x.1) (by omega) (by omega); omega
    · omega
/-- There and back. -/
theorem dec_enc {c : Crt} (h : formS c = 0) (ht : c.t.length ≤ 999999999) : decS (packB (crtL c)) = (c, 0) := by
  have hu : unpackB (packB (crtL c)) = (crtL c, 0) := by
    unfold unpackB
    rw [unpack_pack _ (crt_small h ht)]
  unfold decS
  rw [hu, if_pos rfl, crt_of c h]
  simp only
  rw [if_pos h]
theorem enc_dec {b : Bs} (h : (decS b).2 = 0) : encS (decS b).1 = (b, 0) := by
  unfold decS at h ⊢
  split at h
  · rename_i h0
    rw [if_pos h0]
    cases hc : crtO (unpackB b).1 with
    | none => rw [hc] at h; simp at h
    | some c =>
      rw [hc] at h
      simp only at h ⊢
      split at h
      · rename_i hf
        rw [if_pos hf]
        unfold encS
        rw [if_pos hf, crt_flat hc, unpackB_pack h0]
      · simp at h
  · simp at h
/-- How long a certificate's bytes are. -/
theorem tagB_le (l : List TagV) (h : ∀ x ∈ l, (-9223372036854775808 ≤ x.1 ∧ x.1 ≤ 9223372036854775807) ∧ x.2.length ≤ 1048576) : (packB (l.flatMap tagB)).length ≤ l.length * 1048700 := by
  induction l with
  | nil => simp [packB]
  | cons x l ih =>
    have h1 := h x (by simp)
    have h2 := ih (fun y hy => h y (by simp [hy]))
    have h3 := itoa_small h1.1.1 h1.1.2
    have h4 := itoa_small (n := (x.2.length : Int)) (by omega) (by omega)
    have h5 := itoa_small (n := ((itoa x.1).length : Int)) (by omega) (by omega)
    rw [List.flatMap_cons, packB_append]
    show (packB [itoa x.1, x.2] ++ _).length ≤ _
    have h6 : packB [] = [] := rfl
    rw [packB_cons, packB_cons, h6]
    simp only [List.length_append, List.length_cons, List.length_nil]
    omega

/-- A tag put in its place. -/
def insT (l : List TagV) (x : TagV) : List TagV := l.take (l.countP (fun y => decide (y.1 < x.1))) ++ x :: l.drop (l.countP (fun y => decide (y.1 < x.1)))
def isPB (g n : Int) : Bool := decide (-1 ≤ g) && decide (g ≤ 4) && decide (0 ≤ n) && decide (n ≤ 15)
def addS (c : Crt) (g n : Int) (text tag : Bs) : Crt × Int :=
  if formS c ≠ 0 then (crt0, formS c)
  else if isPB g n = false then (crt0, 1)
  else if g ≠ c.g then (crt0, 41)
  else if text ≠ c.t ∨ tag.length ≠ 16 then (crt0, 4)
  else if c.tags.any (fun y => decide (y.1 = n)) then (crt0, 42)
  else (⟨c.t, c.g, insT c.tags (n, tag)⟩, 0)

/-- The same, tag by tag. -/
def insL : List TagV → TagV → List TagV
  | [], x => [x]
  | y :: l, x => if x.1 < y.1 then x :: y :: l else y :: insL l x
theorem cnt_zero (l : List TagV) (n : Int) (h : ∀ y ∈ l, n ≤ y.1) : l.countP (fun y => decide (y.1 < n)) = 0 := by
  rw [List.countP_eq_zero]
  intro y hy
  have := h y hy
  simp only [decide_eq_true_eq]
  omega
theorem ins_is {l : List TagV} {x : TagV} : ∀ {last : Int}, tagsE last l = 0 → (∀ y ∈ l, y.1 ≠ x.1) → insL l x = insT l x := by
  induction l with
  | nil => intro last _ _; simp [insL, insT]
  | cons y l ih =>
    intro last h hne
    have hy := hne y (by simp)
    have hl : tagsE y.1 l = 0 := by
      rw [tagsE] at h
      split at h
      · simp at h
      · split at h
        · simp at h
        · split at h
          · simp at h
          · exact h
    rw [insL]
    split
    · rename_i hlt
      unfold insT
      rw [cnt_zero (y :: l) x.1 (fun z hz => by
        rcases List.mem_cons.1 hz with rfl | hz
        · omega
        · have := (tagsE_in hl z hz).2.2.2; omega)]
      rfl
    · rename_i hlt
      rw [ih hl (fun z hz => hne z (by simp [hz]))]
      unfold insT
      rw [List.countP_cons_of_pos (by simp only [decide_eq_true_eq]; omega)]
      rfl
theorem insL_length (l : List TagV) (x : TagV) : (insL l x).length = l.length + 1 := by
  induction l with
  | nil => rfl
  | cons y l ih => rw [insL]; split <;> simp [ih]
/-- Where a loop over tags stands. -/
def lastT (l : List TagV) : Nat → Int
  | 0 => -1
  | k + 1 => (l.getD k (0, [])).1
theorem lastT_succ (l : List TagV) (k : Nat) (hk : k < l.length) : lastT l (k + 1) = l[k].1 := by
  show (l.getD k (0, [])).1 = _
  rw [List.getD_eq_getElem?_getD, List.getElem?_eq_getElem hk]; rfl
theorem tagsE_drop (l : List TagV) (k : Nat) (hk : k < l.length) (last : Int) : tagsE last (l.drop k) = if l[k].1 < 0 ∨ 15 < l[k].1 then 41 else if l[k].1 ≤ last then 42 else if l[k].2.length ≠ 16 then 4 else tagsE l[k].1 (l.drop (k + 1)) := by
  rw [List.drop_eq_getElem_cons hk, tagsE]

end Go.Proofs.YtkmhimaeakbpoaaDoor
