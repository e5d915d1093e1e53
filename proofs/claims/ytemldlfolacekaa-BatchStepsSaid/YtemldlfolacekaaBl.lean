/- The law BatchBounds, walked. -/
import Derived.Test.YtemldlfolacekaaBk
namespace Go.Proofs.Ytemldlfolacekaa
open Go.RowKit Go.Shelf

/-- What each pool keeps: at most 24 requests, none longer than 4000 bytes. -/
def Ok (l : List Req) : Prop := l.length ≤ 24 ∧ ∀ r ∈ l, r.t.size ≤ 4000

theorem Ok.nil : Ok [] := ⟨by simp, by simp⟩
theorem addS_ok {l : List Req} {d : Nat → Int} {r : Req} (h : Ok l) : Ok (addS l d r).2.2 := by
  obtain ⟨h1, h2⟩ := h
  unfold addS
  split
  · exact ⟨h1, h2⟩
  · split
    · exact ⟨h1, h2⟩
    · split
      · exact ⟨h1, h2⟩
      · rename_i hs _
        split
        · split
          · exact ⟨h1, h2⟩
          · refine ⟨by simp; omega, fun x hx => ?_⟩
            simp at hx
            rcases hx with hx | rfl
            · exact h2 x hx
            · omega
        · rename_i k hf
          obtain ⟨hk, _, _⟩ := findC_some hf
          split
          · exact ⟨h1, h2⟩
          · refine ⟨?_, fun x hx => ?_⟩
            · simp only [List.length_append, List.length_cons, List.length_nil, List.length_eraseIdx_of_lt hk]; omega
            · simp at hx
              rcases hx with hx | rfl
              · exact h2 x (List.mem_of_mem_eraseIdx hx)
              · omega

theorem takeFrom_len (l : List Req) (k s : Nat) (hk : k ≤ 4) : (takeFrom l k s).length + k ≤ 4 := by
  induction l generalizing k s with
  | nil => simpa [takeFrom] using hk
  | cons r l ih =>
    rw [takeFrom]
    split
    · simpa using hk
    · have := ih (k + 1) (s + r.t.size) (by omega)
      simp; omega
theorem takeFrom_sz (l : List Req) (k s : Nat) (hs : s ≤ 9000) : szOf (takeFrom l k s) + s ≤ 9000 := by
  induction l generalizing k s with
  | nil => simpa [takeFrom, szOf] using hs
  | cons r l ih =>
    rw [takeFrom]
    split
    · simpa [szOf] using hs
    · have := ih (k + 1) (s + r.t.size) (by omega)
      simp [szOf]; omega
theorem takeS_len (l : List Req) : (takeS l).length ≤ 4 := by have := takeFrom_len l 0 0 (by omega); unfold takeS; omega
theorem takeS_sz (l : List Req) : szOf (takeS l) ≤ 9000 := by have := takeFrom_sz l 0 0 (by omega); unfold takeS; omega
theorem takeS_zero {l : List Req} (h : Ok l) : (takeS l).length = 0 ↔ l.length = 0 := by
  cases l with
  | nil => simp [takeS, takeFrom]
  | cons r l =>
    have := h.2 r (by simp)
    rw [takeS, takeFrom, if_neg (by omega)]
    simp

theorem take_in (base B : Nat) (l : List Req) (d : Nat → Int) (w : World) (hp : PoolIn w base B l d) (h : Ok l) :
    Calls Try.prog 11 #[.pointer (some ⟨B, 0, none⟩)] w fun e w' => ∃ v, e = .returned v ∧ w'.ownsRow w.heap.size 28 3 v (takeS l).length (cellsOf (takeS l)) ∧ Below w.heap.size w w' := by
  obtain ⟨h1, h2, V, hp⟩ := hp
  exact take_any base B V l d w hp (by have := h.1; omega) h.2
theorem len_in (base B : Nat) (l : List Req) (d : Nat → Int) (w : World) (hp : PoolIn w base B l d) :
    Calls Try.prog 12 #[.pointer (some ⟨B, 0, none⟩)] w fun e w' => e = .returned (.int .i64 l.length) ∧ w = w' := by
  obtain ⟨h1, h2, V, hp⟩ := hp
  exact len_any base B V l d w hp

theorem rd_get {w : World} {B : Nat} {A : Option Addr} {c : Nat} {l : List Req} (h : Rd w B 3 (.slice A l.length c) l.length (cellsOf l)) {k : Nat} (hk : k < l.length) :
    ∃ g off, A = some ⟨g, off, none⟩ ∧ g < B ∧ w.cell? ⟨g, off + k * 3, none⟩ = some (.int .i64 l[k].c) ∧ w.cell? ⟨g, off + k * 3 + 1, none⟩ = some (.int .i64 l[k].n) ∧ w.cell? ⟨g, off + k * 3 + 2, none⟩ = some (.string l[k].t) := by
  obtain ⟨_, A', c', e, hnc, h0⟩ := h
  injection e with e1 _ _
  subst e1
  rcases h0 with h0 | ⟨g, off, rfl, hg, hc⟩
  · omega
  · obtain ⟨h1, h2, h3⟩ := cellsOf_get l k hk
    exact ⟨g, off, rfl, hg, hc _ _ h1, hc _ _ h2, hc _ _ h3⟩

set_option maxHeartbeats 1600000 in
theorem bounds_any (v : Value) (l : List Req) (w : World) (hr : Rd w w.heap.size 3 v l.length (cellsOf l)) (hm : l.length ≤ 9223372036854775807) :
    Calls Try.prog 4 #[v] w fun e w' => e = .returned (.bool true) ∧ Below w.heap.size w w' := by
  have HR := Lib.hid hr
  obtain ⟨hl, A, c, rfl, hnc, hA⟩ := hr
  clear hl hA
  by_cases h200 : 200 < l.length
  · go_enter Try.func4, Try.ntmps4
    go_wp2_with fail
    refine (new_any w).mono ?_
    rintro e w1 ⟨rfl, hp, hb⟩
    clear hp
    go_wp2_with (go_at_call 8; refine (one_any _).mono ?_; rintro e w2 ⟨rfl, hb2⟩)
    go_ret
    exact ⟨rfl, hb.trans (hb2.mono hb.size)⟩
  · go_enter Try.func4, Try.ntmps4
    go_wp2_with fail
    refine (new_any w).mono ?_
    rintro e w1 ⟨rfl, hp, hb⟩
    have hp1 : Hid (PoolIn w1 w.heap.size w.heap.size [] d0) := ⟨Nat.le_refl _, hb.size, _, hp⟩
    clear hp
    go_wp2_with fail
    go_loopw [25] (fun i wr => ∃ k : Nat, k ≤ l.length ∧ i = .int .i64 k ∧ Below w.heap.size w wr ∧ ∃ l' : List Req, Hid (PoolIn wr w.heap.size w.heap.size l' d0) ∧ Hid (Ok l')) (fun i _ => l.length - (intOf i).toNat)
    case atStart => exact ⟨0, Nat.zero_le _, rfl, hb, [], hp1, Ok.nil⟩
    case round =>
      obtain ⟨k, hk, rfl, hbw, l', hp, hok⟩ := hrel
      obtain ⟨wo, rfl⟩ : ∃ wo : World, wo = wr := ⟨_, rfl⟩
      have hsz := hbw.size
      by_cases hlt : k < l.length
      · obtain ⟨g, off, rfl, hg, x0, x1, x2⟩ := rd_get HR.out hlt
        have y0 := (hbw.cell (p := ⟨g, off + k * 3, none⟩) hg).trans x0
        have y1 := (hbw.cell (p := ⟨g, off + k * 3 + 1, none⟩) hg).trans x1
        have y2 := (hbw.cell (p := ⟨g, off + k * 3 + 2, none⟩) hg).trans x2
        clear x0 x1 x2
        go_wp2_with fail
        refine (add_in w.heap.size w.heap.size l' d0 _ _ _ _ (hp.out.below ((Below.refl _ _).alloc (Nat.le_refl _) _)) hok.out.1).mono ?_
        rintro e w2 ⟨rfl, hp2, hb2⟩
        have hok2 : Ok _ := addS_ok (d := d0) (r := ⟨l[k].c, l[k].n, l[k].t⟩) hok.out
        generalize (addS l' d0 ⟨l[k].c, l[k].n, l[k].t⟩) = res at hp2 hok2 ⊢
        obtain ⟨ra, re, l2⟩ := res
        simp only at hp2 hok2 ⊢
        have hbw2 : Below w.heap.size w w2 := (hbw.alloc hsz _).trans hb2
        clear y0 y1 y2 hb2
        go_wp2_with fail
        refine (take_in w.heap.size w.heap.size l2 d0 _ hp2 hok2).mono ?_
        rintro e w3 ⟨v3, rfl, hown3, hb3⟩
        have hp3 := Lib.hid (hp2.below hb3)
        have hbw3 : Below w.heap.size w w3 := hbw2.trans (hb3.mono hbw2.size)
        have hl4 := takeS_len l2
        have hs9 := takeS_sz l2
        have hz := Lib.hid (takeS_zero hok2)
        have hok3 := Lib.hid hok2
        have hrd3 := Lib.hid (Rd.of_own hown3)
        obtain ⟨A3, c3, rfl⟩ := own_shape hown3
        generalize takeS l2 = T at *
        clear hp2 hok2 hb3 hown3 hbw2
        go_wp2_with fail
        go_loopw [7, 36] (fun n i wr => ∃ j : Nat, j ≤ T.length ∧ i = .int .i64 j ∧ n = .int .i64 (szOf (T.take j)) ∧ Hid (Below w3.heap.size w3 wr)) (fun _ i _ => T.length - (intOf i).toNat)
        case atStart => exact ⟨0, Nat.zero_le _, rfl, rfl, Below.refl _ _⟩
        case round =>
          obtain ⟨j, hj, rfl, rfl, hbi⟩ := hrel
          by_cases hjt : j < T.length
          · obtain ⟨g', off', rfl, hg', x0, x1, x2⟩ := rd_get hrd3.out hjt
            have y0 := (hbi.out.cell (p := ⟨g', off' + j * 3, none⟩) hg').trans x0
            have y1 := (hbi.out.cell (p := ⟨g', off' + j * 3 + 1, none⟩) hg').trans x1
            have y2 := (hbi.out.cell (p := ⟨g', off' + j * 3 + 2, none⟩) hg').trans x2
            have e1 := Lib.hid (szOf_succ T j hjt)
            have hbd : szOf (T.take j) + T[j].t.size ≤ 9000 := by
              have h1 := szOf_succ T j hjt
              have h2 : szOf T = szOf (T.take (j + 1)) + szOf (T.drop (j + 1)) := by rw [← szOf_append, List.take_append_drop]
              omega
            clear x0 x1 x2
            go_wp2
            go_roundw
            case rel =>
              exact ⟨j + 1, by omega, by go_num, by rw [e1.out]; go_num, hbi.out.alloc hbi.out.size _⟩
            case measure => simp [intOf]; omega
          · have e0 : T.take j = T := List.take_of_length_le (by omega)
            rw [e0]
            have hp4 := Lib.hid (hp3.out.below hbi.out)
            have hb4 : Hid (Below w.heap.size w wr) := hbw3.trans (hbi.out.mono hbw3.size)
            have hL : Hid (l2.length ≤ 24) := hok3.out.1
            have hl24 := hL.out
            clear e0
            by_cases hz0 : T.length = 0
            · have t0 : ((T.length : Int) == 0) = true := by simp [hz0]
              have t1 : ((l2.length : Int) == 0) = true := by simp [hz.out.1 hz0]
              clear hz0
              go_wp2_with (go_at_call 12; refine (len_in w.heap.size w.heap.size l2 d0 _ hp4.out).mono ?_; rintro e w' ⟨rfl, rfl⟩)
              go_roundw
              case rel => exact ⟨k + 1, by omega, by go_num, hb4.out, l2, hp4, hok3⟩
              case measure => simp [intOf]; omega
            · have t0 : ((T.length : Int) == 0) = false := beq_eq_false_iff_ne.2 (by omega)
              have t1 : ((l2.length : Int) == 0) = false := by
                have : ¬ l2.length = 0 := fun h => hz0 (hz.out.2 h)
                exact beq_eq_false_iff_ne.2 (by omega)
              clear hz0
              go_wp2_with (go_at_call 12; refine (len_in w.heap.size w.heap.size l2 d0 _ hp4.out).mono ?_; rintro e w' ⟨rfl, rfl⟩)
              go_roundw
              case rel => exact ⟨k + 1, by omega, by go_num, hb4.out, l2, hp4, hok3⟩
              case measure => simp [intOf]; omega
      · go_wp2_with (go_at_call 8; refine (one_any _).mono ?_; rintro e w2 ⟨rfl, hb2⟩)
        go_ret
        exact ⟨rfl, hbw.trans (hb2.mono hsz)⟩

end Go.Proofs.Ytemldlfolacekaa
