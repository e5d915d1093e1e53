/- Lists of ints: slices.Clone, DeleteFunc. -/
import Derived.Test.YtijacbnoemjgcaaGreatDoorPb6
import Derived.BigQuiet
import Derived.Deep.RegionHeld3
import Derived.Deep.DrawnRows
import Derived.Laws.OwnMore
set_option linter.unusedVariables false
set_option linter.unusedSimpArgs false
set_option linter.unnecessarySimpa false
namespace Go.Proofs.YtijacbnoemjgcaaGreatDoor
open Go.RowKit Go.Shelf

theorem int_info : (Tryz.prog.info? 3).map (fun i => (i.zero, i.size, i.bytes)) = some (some (.int .i64 0), 1, 8) := by kernel_rfl

set_option maxHeartbeats 1000000 in
set_option maxRecDepth 100000 in
theorem clone_any (v : Value) (l : List Int) (w : World) (B : Nat) (hB : B ≤ w.heap.size) (hr : Rd w B 1 v l.length (ints l)) (hm : l.length ≤ 1000) :
    Calls Tryz.prog 50 #[v] w fun e w' => ∃ v', e = .returned v' ∧ w'.ownsRow w.heap.size 3 1 v' l.length (ints l) ∧ Below w.heap.size w w' := by
  obtain ⟨i0, hi0, hz0, hz1, hz2⟩ := info_parts int_info
  obtain ⟨hl, A, c, rfl, hlc, hA⟩ := hr
  have heq := fun wx => Lib.run_eql_slice_nil (P := Tryz.prog) wx 43 3 A l.length c 0 0 Tryz.underlying43
  cases A with
  | none =>
    have h0 : l = [] := by
      rcases hA with h | ⟨g, off, h, _⟩
      · exact List.eq_nil_of_length_eq_zero h
      · cases h
    subst h0
    clear hA
    simp only [Option.isNone_none, List.length_nil] at heq ⊢
    go_enter Tryz.func50, Tryz.ntmps50
    go_wp2
    go_ret
    exact ⟨_, rfl, World.ownsRow_nil w w.heap.size 3 1, Below.refl _ _⟩
  | some a =>
    have hnews : Hid (∀ j u, (ints l)[j]? = some u → w.cell? (a.add j) = some u) := by
      intro j u hu
      rcases hA with h | ⟨g, off, h, hg, hc⟩
      · rw [List.eq_nil_of_length_eq_zero h] at hu; simp [ints] at hu
      · injection h with h
        subst h
        rw [Addr.add_lit]
        exact hc j u hu
    clear hA
    simp only [Option.isNone_some] at heq
    go_enter Tryz.func50, Tryz.ntmps50
    go_wp2_with (at_builtin; refine wpList_append_own _ rfl _ _ 43 rfl w.heap.size 3 i0 _ 1 8 Tryz.underlying43 hi0 hz0 hz1 hz2 rfl (by omega) _ _ _ rfl (World.ownsRow_made w #[] 0 (Nat.le_refl _) (Nat.zero_le _) (by simp)) a l.length c (ints l) rfl ?qc1 ?qc2 ?qc3 ?qc4 ?qc5 ?qc6 ?_)
    case qc1 => exact hl
    case qc2 =>
      intro j u hj
      exact Lib.cell?_alloc_some _ (hnews.out j u hj)
    case qc3 => exact ints_one l
    case qc4 => unfold maxLen; omega
    case qc5 => omega
    case qc6 => simp
    intro v' w1 hown hgrow hnil
    go_wp2
    go_ret
    refine ⟨v', rfl, by simpa using hown, ?_⟩
    exact ((Below.refl _ w).alloc (Nat.le_refl _) _).grown hgrow (by simp) (by intro k hk; simp [Value.ownBlock] at hk; omega)

theorem own_get1 {base : Nat} {V : Value} {w : World} {l : List Int} (h : w.ownsRow base 3 1 V l.length (ints l)) {k : Nat} (hk : k < l.length) :
    ∃ g c, V = .slice (some ⟨g, 0, none⟩) l.length c ∧ base ≤ g ∧ g < w.heap.size ∧ w.cell? ⟨g, k, none⟩ = some (.int .i64 l[k]) := by
  obtain ⟨g, c, rfl, hb, hg⟩ := h.form (by omega)
  have e := h.cells (g := g) rfl _ _ (ints_get l k hk)
  rw [Addr.add_lit, Nat.zero_add] at e
  exact ⟨g, c, rfl, hb, hg, e⟩

end Go.Proofs.YtijacbnoemjgcaaGreatDoor

namespace Go.Proofs.YtijacbnoemjgcaaGreatDoor
open Go.RowKit Go.Shelf

theorem next1_any (y x : Int) (b : Nat) (w : World) (hc : w.cell? ⟨b, 1, none⟩ = some (.int .i64 x)) :
    Calls Tryz.prog 59 #[.int .i64 y, .pointer (some ⟨b, 0, none⟩)] w fun e w' => e = .returned (.bool (y == x)) ∧ w = w' := by
  go_enter Tryz.func59, Tryz.ntmps59
  go_wp2
  go_ret
  exact ⟨rfl, rfl⟩

set_option maxHeartbeats 400000 in
theorem indexFunc_any (v : Value) (l : List Int) (x : Int) (b : Nat) (w : World) (B : Nat) (hc : w.cell? ⟨b, 1, none⟩ = some (.int .i64 x)) (hr : Rd w B 1 v l.length (ints l)) (hm : l.length ≤ 1000) :
    Calls Tryz.prog 78 #[v, .func (.func 59) #[] #[.pointer (some ⟨b, 0, none⟩)]] w fun e w' => e = .returned (.int .i64 (idxS x l)) ∧ w = w' := by
  have HR := Lib.hid hr
  obtain ⟨_, A, c, rfl, _, _⟩ := hr
  have eg := enters_of Tryz.func59 (by kernel_rfl) rfl
  go_enter Tryz.func78, Tryz.ntmps78
  go_wp2
  go_loopw [5, 8] (fun _ s wr => ∃ k : Nat, k ≤ l.length ∧ s = .int .i64 k ∧ wr = w ∧ Hid (∀ j (hj : j < k) (hj' : j < l.length), x ≠ l[j])) (fun _ i _ => l.length - (intOf i).toNat)
  case atStart => exact ⟨0, Nat.zero_le _, rfl, rfl, fun j hj => by omega⟩
  case round =>
    obtain ⟨k, hk, rfl, rfl, hno⟩ := hrel
    by_cases hlt : k < l.length
    · obtain ⟨g, off, c', hV, hg, hcg⟩ := rd_get1 HR.out hlt
      injection hV with hA _ hcc
      subst hA
      clear hcc
      have hcall := next1_any l[k] x b wr hc
      cases hq : (l[k] == x) with
      | true =>
        rw [hq] at hcall
        have HQ := Lib.hid hq
        clear hq
        go_wp2_with (go_at_call 59; refine hcall.mono ?_; rintro e w' ⟨rfl, rfl⟩)
        go_ret
        refine ⟨?_, rfl⟩
        rw [idxS_at x l k hlt (by have := HQ.out; simp at this; exact this.symm) (fun j hj => hno.out j hj (by omega))]; rfl
      | false =>
        rw [hq] at hcall
        have HQ := Lib.hid hq
        clear hq
        go_wp2_with (go_at_call 59; refine hcall.mono ?_; rintro e w' ⟨rfl, rfl⟩)
        go_roundw
        case rel =>
          refine ⟨k + 1, by omega, by go_num, by trivial, ?_⟩
          intro j hj hj'
          rcases Nat.lt_or_ge j k with h | h
          · exact hno.out j h hj'
          · obtain rfl : j = k := by omega
            have := HQ.out
            simp at this
            exact fun e => this e.symm
        case measure => simp [intOf]; omega
    · go_wp2
      go_ret
      refine ⟨?_, rfl⟩
      rw [idxS_none x l (fun j hj => hno.out j (by omega) hj)]; rfl

def offS (x : Int) (l : List Int) : List Int := l.filter (· != x)
theorem offS_take (x : Int) (l : List Int) (k : Nat) (hk : k < l.length) : offS x (l.take (k + 1)) = if l[k] = x then offS x (l.take k) else offS x (l.take k) ++ [l[k]] := by
  unfold offS
  rw [List.take_succ_eq_append_getElem hk, List.filter_append]
  by_cases h : l[k] = x <;> simp [h]

theorem offS_idx (x : Int) (l : List Int) (p : Nat) (h : idxS x l = p) : p < l.length ∧ l[p]? = some x ∧ offS x (l.take p) = l.take p := by
  induction l generalizing p with
  | nil => simp [idxS] at h
  | cons a l ih =>
    rw [idxS] at h
    by_cases e : x = a
    · rw [if_pos e] at h
      obtain rfl : p = 0 := by omega
      simp [e, offS]
    · rw [if_neg e] at h
      by_cases e2 : idxS x l = -1
      · rw [if_pos e2] at h; omega
      · rw [if_neg e2] at h
        have : ∃ q : Nat, idxS x l = q := by
          have hx : x ∈ l := by
            rcases Classical.em (x ∈ l) with hh | hh
            · exact hh
            · exact absurd (idxS_none x l (fun j hj e3 => hh (e3 ▸ List.getElem_mem hj))) e2
          have hge : decide (0 ≤ idxS x l) = true := by rw [idxS_in]; simpa [inS] using hx
          exact ⟨(idxS x l).toNat, by have := of_decide_eq_true hge; omega⟩
        obtain ⟨q, hq⟩ := this
        obtain rfl : p = q + 1 := by omega
        obtain ⟨h1, h2, h3⟩ := ih q hq
        refine ⟨by simp; omega, by simpa using h2, ?_⟩
        have ea : (a != x) = true := by simpa using fun h => e h.symm
        unfold offS at h3 ⊢
        rw [List.take_succ_cons, List.filter_cons, ea, if_pos rfl, h3]

set_option maxHeartbeats 1000000 in
set_option maxRecDepth 100000 in
theorem deleteFunc_any (g cap : Nat) (l : List Int) (x : Int) (b : Nat) (w : World) (base : Nat) (hbb : b ≠ g) (hc : w.cell? ⟨b, 1, none⟩ = some (.int .i64 x)) (hx : inS x l = true) (hm : l.length ≤ 1000) (hcap : cap ≤ 9223372036854775807)
    (hown : w.ownsRow base 3 1 (.slice (some ⟨g, 0, none⟩) l.length cap) l.length (ints l)) :
    Calls Tryz.prog 58 #[.slice (some ⟨g, 0, none⟩) l.length cap, .func (.func 59) #[] #[.pointer (some ⟨b, 0, none⟩)]] w fun e w' =>
      e = .returned (.slice (some ⟨g, 0, none⟩) (offS x l).length cap) ∧ w'.ownsRow base 3 1 (.slice (some ⟨g, 0, none⟩) (offS x l).length cap) (offS x l).length (ints (offS x l)) ∧ w.grownBy w' (some g) := by
  obtain ⟨i0, hi0, hz0, hz1, hz2⟩ := info_parts int_info
  have eg := enters_of Tryz.func59 (by kernel_rfl) rfl
  have hp : ∃ p : Nat, idxS x l = p := by
    have hge : decide (0 ≤ idxS x l) = true := by rw [idxS_in]; exact hx
    exact ⟨(idxS x l).toNat, by have := of_decide_eq_true hge; omega⟩
  obtain ⟨p, hp⟩ := hp
  obtain ⟨hpl, hpx, hpt⟩ := offS_idx x l p hp
  have hif := Lib.hid (indexFunc_any _ l x b w w.heap.size hc (Rd.of_own hown) hm)
  rw [hp] at hif
  have HP := Lib.hid (And.intro hpx hpt)
  have HO := Lib.hid hown
  have HC := Lib.hid hc
  obtain ⟨_, hnc, _, _⟩ := own_form hown
  have hpn : ((p : Int) == -1) = false := by simp
  clear hx hp hpx hpt hown hc
  go_enter Tryz.func58, Tryz.ntmps58
  go_wp2_with fail
  refine hif.out.mono ?_
  rintro e w1 ⟨rfl, rfl⟩
  go_wp2_with fail
  go_loopw [5, 6] (fun i j wr => ∃ (jn iN : Nat) (cur : List Int), jn ≤ l.length ∧ j = .int .i64 jn ∧ i = .int .i64 iN ∧ Hid (cur.length = l.length ∧ iN < jn ∧ cur.take iN = offS x (l.take jn) ∧ cur.drop jn = l.drop jn ∧ wr.ownsRow base 3 1 (.slice (some ⟨g, 0, none⟩) l.length cap) l.length (ints cur) ∧ w.grownBy wr (some g))) (fun _ j _ => l.length - (intOf j).toNat)
  case atStart =>
    refine ⟨p + 1, p, l, by omega, by go_num, rfl, rfl, by omega, ?_, rfl, HO.out, World.grownBy.refl _ _⟩
    have e := HP.out.1
    rw [List.getElem?_eq_getElem hpl] at e
    rw [offS_take x l p hpl, if_pos (Option.some.inj e), HP.out.2]
  case round =>
    obtain ⟨jn, iN, cur, hjn, rfl, rfl, hI⟩ := hrel
    have hI0 := hI.out
    obtain ⟨hlen, hij, htk, hdr, hown, hg⟩ := hI0
    have hcb := (hg.cell HC.out (by show some b ≠ some g; intro e; injection e with e; exact hbb e))
    have hwr1 : IntKind.i64.wrap ((jn : Int) + 1) = (jn : Int) + 1 := by rw [IntKind.wrap_i64]; omega
    by_cases hlt : jn < l.length
    · have hcj := hown.cellAt jn (by omega)
      have hgj : (ints cur)[jn]? = some (.int .i64 l[jn]) := by
        have e : cur[jn]? = l[jn]? := by
          have := congrArg (fun z => z[0]?) hdr
          simpa [List.getElem?_drop] using this
        rw [ints, List.getElem?_map, e, List.getElem?_eq_getElem hlt]; rfl
      rw [hgj] at hcj
      have hci := hown.cellAt iN (by omega)
      obtain ⟨old, hgi⟩ : ∃ old : Int, (ints cur)[iN]? = some (.int .i64 old) := ⟨_, ints_get cur iN (by omega)⟩
      rw [hgi] at hci
      have hfi := hown.frozenAt iN
      have hj0 : (0 : Int) ≤ (jn : Int) := by omega
      have hj1 : (jn : Int) < (l.length : Int) := by omega
      have hi0' : (0 : Int) ≤ (iN : Int) := by omega
      have hi1' : (iN : Int) < (l.length : Int) := by omega
      have hoff := Lib.hid (offS_take x l jn hlt)
      have hcall := next1_any l[jn] x b wr hcb
      have HI := Lib.hid (And.intro (And.intro hlen hij) (And.intro htk (And.intro hdr (And.intro hown hg))))
      generalize hq0 : l[jn] = y at *
      clear hlen hij htk hdr hown hg hgj hgi hq0 hI
      cases hq : (y == x) with
      | true =>
        rw [hq] at hcall
        have hyx : Hid (y = x) := by unfold Hid; simpa using hq
        clear hq
        go_wp2_with (go_at_call 59; refine hcall.mono ?_; rintro e w' ⟨rfl, rfl⟩)
        go_roundw
        case rel =>
          refine ⟨jn + 1, iN, cur, by omega, by go_num, by trivial, HI.out.1.1, by have := HI.out.1.2; omega, ?_, ?_, HI.out.2.2.2⟩
          · rw [hoff.out, if_pos hyx.out]; exact HI.out.2.1
          · have := congrArg (fun z => z.drop 1) HI.out.2.2.1
            simpa [List.drop_drop] using this
        case measure => simp [intOf]; omega
      | false =>
        rw [hq] at hcall
        have hyx : Hid (y ≠ x) := by unfold Hid; simpa using hq
        clear hq
        go_wp2_with (go_at_call 59; refine hcall.mono ?_; rintro e w' ⟨rfl, rfl⟩)
        go_roundw
        case rel =>
          obtain ⟨⟨hlen, hij⟩, htk, hdr, hown, hg⟩ := HI.out
          obtain ⟨ho, hg'⟩ := hown.stored iN (.int .i64 y)
          refine ⟨jn + 1, iN + 1, cur.set iN y, by omega, by go_num, by go_num, by simpa using hlen, by omega, ?_, ?_, ?_, hg.andThen hg' (fun _ h => .inr h)⟩
          · rw [hoff.out, if_neg hyx.out, ← htk, List.take_set]
            rw [List.take_succ_eq_append_getElem (by omega), List.set_append_right _ _ (by simp; omega)]
            simp [show min iN cur.length = iN by omega]
          · rw [List.drop_set_of_lt (by omega)]
            have := congrArg (fun z => z.drop 1) hdr
            simpa [List.drop_drop] using this
          · rw [show ints (cur.set iN y) = (ints cur).set iN (.int .i64 y) by simp [ints, List.map_set]]; exact ho
        case measure => simp [intOf]; omega
    · obtain rfl : jn = l.length := by omega
      rw [List.take_length] at htk
      have hlE : (offS x l).length = iN := by rw [← htk, List.length_take]; omega
      have HE := Lib.hid (And.intro htk hlE)
      clear hlt hdr htk hlE hI
      have hown2 := own_shrink hown (k := iN) (by omega)
      have hin : iN ≠ cap := by omega
      have hi0' : (0 : Int) ≤ (iN : Int) := by omega
      have hi1' : (iN : Int) ≤ (l.length : Int) := by omega
      clear hown
      go_wp2_with (with_reducible refine wpList_clear_own rfl (.tmp 38) 43 rfl 3 i0 _ 1 Tryz.underlying43 hi0 hz0 hz1 rfl ?c1 (by omega) base g iN l.length cap (l.length - iN) (cap - iN) _ ?c2 hown2 ?c3 hnc ?c5 ?_)
      case c2 => rw [Nat.mul_one]; rfl
      case c3 => omega
      case c5 => omega
      case c1 => intro u hu; simp [Value.cells] at hu; rcases hu with rfl; rfl
      intro w2 hown3 hg2
      go_wp2
      go_ret
      obtain ⟨htk, hlE⟩ := HE.out
      rw [hlE, ← htk, show ints (cur.take iN) = (ints cur).take iN by simp [ints]]
      exact ⟨rfl, hown3, hg.andThen hg2 (fun _ h => .inr h)⟩

end Go.Proofs.YtijacbnoemjgcaaGreatDoor
