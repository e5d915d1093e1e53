/- The document's answer: the number that a text is. -/
import Derived.Test.YtkmhimaeakbpoaaDoorPe37
import Derived.Deep.CutRange
import Derived.Deep.DeepCutAuto
set_option linter.unusedVariables false
set_option linter.unusedSimpArgs false
set_option linter.unnecessarySimpa false
namespace Go.Proofs.YtkmhimaeakbpoaaDoor
open Go.RowKit Go.Shelf

/-- The number that digits are. -/
def valD (l : Bs) : Nat := l.foldl (fun a d => 10 * a + (d.toNat - 48)) 0
theorem valD_snoc (l : Bs) (d : UInt8) : valD (l ++ [d]) = 10 * valD l + (d.toNat - 48) := by simp [valD]
theorem foldD_le (b : Bs) : ∀ a : Nat, a ≤ b.foldl (fun a d => 10 * a + (d.toNat - 48)) a := by
  induction b with
  | nil => intro a; exact Nat.le_refl _
  | cons c b ih => intro a; rw [List.foldl_cons]; exact Nat.le_trans (by omega) (ih _)
theorem valD_take_le (l : Bs) (k : Nat) : valD (l.take k) ≤ valD l := by
  have h : valD l = (l.drop k).foldl (fun a d => 10 * a + (d.toNat - 48)) (valD (l.take k)) := by
    unfold valD
    rw [← List.foldl_append, List.take_append_drop]
  rw [h]
  exact foldD_le _ _
theorem valD_dec (u : Nat) : valD (Lib.decDigits u) = u := by
  induction u using Nat.strongRecOn with
  | ind u ih =>
    rw [Lib.decDigits]
    split
    · rename_i h
      have hv := digit_val u h
      simp only [valD, List.foldl_cons, List.foldl_nil, hv]
      omega
    · rename_i h
      have hv := digit_val (u % 10) (by omega)
      rw [valD_snoc, ih (u / 10) (by omega), hv]
      omega
theorem nDigits_19 (u : Nat) (h : u ≤ 9223372036854775808) : Lib.nDigits u ≤ 19 := by
  have key : ∀ (k u : Nat), u < 10 ^ (k + 1) → Lib.nDigits u ≤ k + 1 := by
    intro k
    induction k with
    | zero => intro u hu; rw [Lib.nDigits_small (by omega)]; omega
    | succ k ih =>
      intro u hu
      by_cases h : u < 10
      · rw [Lib.nDigits_small h]; omega
      · rw [Lib.nDigits_big h]
        have := ih (u / 10) (by rw [Nat.pow_succ] at hu; omega)
        omega
  exact key 18 u (by omega)
/-- A text without its sign. -/
def dgS (s : Bs) : Bs := if s.head? = some 45 then s.tail else s
/-- What a number's text is like. -/
structure NumT (d s : Bs) (v : Int) : Prop where
  pos : 1 ≤ (d).length
  len : (d).length ≤ 19
  dig : ∀ c ∈ d, 48 ≤ c.toNat ∧ c.toNat ≤ 57
  val : valD (d) = v.natAbs
  sign : (d).length = s.length ↔ 0 ≤ v
theorem numT_of (s : Bs) (v : Int) (h0 : -9223372036854775808 ≤ v) (h1 : v ≤ 9223372036854775807) (e : Lib.itoa v = s) : NumT (dgS s) s v := by
  subst e
  unfold Lib.itoa
  split
  · rename_i hn
    have hd : dgS (45 :: Lib.decDigits v.natAbs) = Lib.decDigits v.natAbs := rfl
    have hp := Lib.nDigits_pos v.natAbs
    have h9 := nDigits_19 v.natAbs (by omega)
    have hl := Lib.decDigits_length v.natAbs
    exact ⟨by rw [hd]; omega, by rw [hd]; omega, by rw [hd]; exact dec_digit _, by rw [hd, valD_dec], by rw [hd]; simp; omega⟩
  · rename_i hn
    have hp := Lib.nDigits_pos v.toNat
    have h9 := nDigits_19 v.toNat (by omega)
    have hl := Lib.decDigits_length v.toNat
    have hd : dgS (Lib.decDigits v.toNat) = Lib.decDigits v.toNat := by
      unfold dgS
      rw [if_neg]
      intro h
      have := dec_digit v.toNat 45 (List.mem_of_mem_head? h)
      simp at this
    exact ⟨by rw [hd]; omega, by rw [hd]; omega, by rw [hd]; exact dec_digit _, by rw [hd, valD_dec]; omega, by rw [hd]; simp; omega⟩
theorem ba_get' (r : Bs) (i : Nat) (h : i < r.length) : (⟨r.toArray⟩ : ByteArray)[i]'(by show i < r.toArray.size; simpa using h) = r[i] := rfl
theorem wrap_rng (x : Int) : -9223372036854775808 ≤ wrap64 x ∧ wrap64 x ≤ 9223372036854775807 := by unfold wrap64; omega
theorem dgS_len (s : Bs) : (dgS s).length ≤ s.length := by unfold dgS; split <;> simp

set_option maxHeartbeats 4000000 in
set_option maxRecDepth 100000 in
theorem rtoNum_any (s : Bs) (hs : s.length ≤ 281474976710656) (w : World) :
    Calls Tryd.prog 45 #[.string ⟨s.toArray⟩] w fun e w' => e = .returned (.tuple #[.int .i64 (toNumB s).1, .int .i64 (toNumB s).2]) ∧ Below w.heap.size w w' := by
  have HS : Hid (∀ v : Int, -9223372036854775808 ≤ v → v ≤ 9223372036854775807 → Lib.itoa v = s → NumT (dgS s) s v) := fun v h0 h1 e => numT_of s v h0 h1 e
  have hdl := dgS_len s
  have hcase : (s = [] ∧ dgS s = []) ∨ (∃ r, s = 45 :: r ∧ dgS s = r) ∨ (∃ c r, s = c :: r ∧ c ≠ 45 ∧ dgS s = s) := by
    cases s with
    | nil => exact .inl ⟨rfl, rfl⟩
    | cons c r =>
      by_cases hc : c = 45
      · subst hc; exact .inr (.inl ⟨r, rfl, rfl⟩)
      · refine .inr (.inr ⟨c, r, rfl, hc, ?_⟩)
        unfold dgS
        rw [if_neg (by simpa using hc)]
  go_enter Tryd.func45, Tryd.ntmps45
  go_upto_region 2 with (fail)
  go_cut [15] (fun c wc => c = .bool (decide (s.head? = some 45)) ∧ wc = w)
  case first =>
    rcases hcase with ⟨rfl, hd⟩ | ⟨r, rfl, hd⟩ | ⟨c, r, rfl, hc, hd⟩
    · go_wp2
      go_meet
      case rel => exact ⟨rfl, rfl⟩
    · go_wp2
      go_meet
      case rel => exact ⟨rfl, rfl⟩
    · go_wp2
      go_meet
      case rel =>
        refine ⟨?_, rfl⟩
        congr 1
        show ((c.toNat : Int) == 45) = decide (some c = some 45)
        have h2 : c.toNat ≠ 45 := fun e => hc (UInt8.toNat_inj.1 e)
        rw [decide_eq_false (by simpa using hc)]
        simp
        omega
  case rest =>
    obtain ⟨rfl, hw⟩ := hcut
    subst hw
    clear hcase
    go_upto_if 15 with (fail)
    go_cut [4] (fun d w2 => d = .string ⟨(dgS s).toArray⟩ ∧ w2 = wc)
    case first =>
      by_cases hh : s.head? = some 45
      · obtain ⟨r, rfl⟩ : ∃ r, s = 45 :: r := by cases s <;> simp_all
        rw [decide_eq_true hh]
        go_wp2
        go_meet
        case rel =>
          refine ⟨?_, rfl⟩
          have h1 := ba_drop (45 :: r) 1
          exact congrArg Value.string h1
      · have hd : dgS s = s := if_neg hh
        rw [decide_eq_false hh]
        go_wp2
        go_meet
        case rel => exact ⟨by rw [hd], rfl⟩
    case rest =>
    obtain ⟨rfl, hw⟩ := hcut
    subst hw
    by_cases hz : 1 ≤ (dgS s).length ∧ (dgS s).length ≤ 19
    · obtain ⟨hz1, hz2⟩ := hz
      generalize dgS s = d at *
      go_wp2
      go_loopw [5, 6] (fun n i wr => ∃ (k : Nat) (nn : Int), k ≤ d.length ∧ i = .int .i64 k ∧ n = .int .i64 nn ∧ (-9223372036854775808 ≤ nn ∧ nn ≤ 9223372036854775807) ∧ Hid (∀ v : Int, -9223372036854775808 ≤ v → v ≤ 9223372036854775807 → Lib.itoa v = s → nn = -(valD (d.take k) : Int)) ∧ wr = wc) (fun _ i _ => d.length - (intOf i).toNat)
      case atStart => exact ⟨0, 0, Nat.zero_le _, rfl, rfl, by omega, fun v _ _ _ => rfl, rfl⟩
      case round =>
        obtain ⟨k, nn, hk, rfl, rfl, hb, HN, rfl⟩ := hrel
        by_cases hlt : k < d.length
        · have hbad : (d[k].toNat < 48 ∨ 57 < d[k].toNat) → toNumB s = (0, 4) := fun hq => toNum_not s fun v h0 h1 e => by
            have := (HS.out v h0 h1 e).dig d[k] (List.getElem_mem hlt)
            omega
          have HBAD := Lib.hid hbad
          clear hbad
          go_wp2
          · rename_i q1 q2
            rw [ba_get' d k hlt] at q2
            go_ret2
            exact ⟨by rw [HBAD.out (by omega)]; rfl, Below.refl _ _⟩
          · rename_i q1 q2
            rw [ba_get' d k hlt] at q1 q2 ⊢
            refine ⟨⟨k + 1, _, by omega, by simp, rfl, wrap_rng _, fun v h0 h1 e => ?_, trivial⟩, by simp [intOf]; omega⟩
            have hn := HN.out v h0 h1 e
            have hnt := HS.out v h0 h1 e
            have hv := hnt.val
            have hle := valD_take_le d (k + 1)
            have hle0 := valD_take_le d k
            rw [List.take_succ_eq_append_getElem hlt, valD_snoc] at hle ⊢
            unfold wrap64
            omega
          · rename_i q1
            rw [ba_get' d k hlt] at q1
            go_ret2
            exact ⟨by rw [HBAD.out (by omega)]; rfl, Below.refl _ _⟩
        · obtain rfl : k = d.length := by omega
          have HFIN : Hid (∀ x : Int, (-9223372036854775808 ≤ x ∧ x ≤ 9223372036854775807) → (x = if d.length = s.length then wrap64 (-nn) else nn) → toNumB s = if Lib.itoa x = s then (x, 0) else (0, 4)) := by
            intro x hx ex
            by_cases hi : Lib.itoa x = s
            · rw [if_pos hi, ← hi, toNum_itoa x hx.1 hx.2]
            · rw [if_neg hi]
              refine toNum_not s fun v h0 h1 e => hi ?_
              have hn := HN.out v h0 h1 e
              have hnt := HS.out v h0 h1 e
              have hv := hnt.val
              have hsg := hnt.sign
              rw [List.take_length] at hn
              have : x = v := by
                rw [ex]
                split
                · unfold wrap64; omega
                · omega
              rw [this]
              exact e
          by_cases hl : d.length = s.length
          · have hl1 : ((d.length : Int) == (s.length : Int)) = true := by rw [hl]; simp
            have hw := wrap_rng (-nn)
            have HF := Lib.hid (HFIN.out _ hw (by rw [if_pos hl]))
            clear HFIN hl
            go_wp2_with (go_at_call 39; refine (rnum_any _ hw.1 hw.2 _).mono ?_; rintro e w1 ⟨rfl, hb1⟩)
            all_goals go_ret2
            · rename_i q
              exact ⟨by rw [HF.out, if_neg (fun e => by rw [e] at q; simp at q)]; rfl, hb1⟩
            · rename_i q
              exact ⟨by rw [HF.out, if_pos (by simpa using q)]; rfl, hb1⟩
          · have hl1 : ((d.length : Int) == (s.length : Int)) = false := by simp; omega
            have HF := Lib.hid (HFIN.out nn hb (by rw [if_neg hl]))
            clear HFIN
            go_wp2_with (go_at_call 39; refine (rnum_any _ (by omega) (by omega) _).mono ?_; rintro e w1 ⟨rfl, hb1⟩)
            all_goals go_ret2
            · rename_i q
              exact ⟨by rw [HF.out, if_neg (fun e => by rw [e] at q; simp at q)]; rfl, hb1⟩
            · rename_i q
              exact ⟨by rw [HF.out, if_pos (by simpa using q)]; rfl, hb1⟩
    · have HB : Hid (toNumB s = (0, 4)) := toNum_not s fun v h0 h1 e => hz ⟨(HS.out v h0 h1 e).pos, (HS.out v h0 h1 e).len⟩
      by_cases h0 : (dgS s).length < 1
      · go_wp2
        go_ret2
        exact ⟨by rw [HB.out]; rfl, Below.refl _ _⟩
      · have h1 : 19 < (dgS s).length := by omega
        go_wp2
        go_ret2
        exact ⟨by rw [HB.out]; rfl, Below.refl _ _⟩

end Go.Proofs.YtkmhimaeakbpoaaDoor
