/- Marks' texts: Text and Read; the document's answer's Text and Read. -/
import Derived.Test.YtogpbldipmcbdaaDoorKa
import Derived.Test.YtogpbldipmcbdaaDoorNi
import Derived.Test.YtogpbldipmcbdaaDoorNv
set_option linter.unusedVariables false
set_option linter.unusedSimpArgs false
set_option linter.unnecessarySimpa false
namespace Go.Proofs.YtogpbldipmcbdaaDoor
open Go.RowKit Go.Shelf

theorem rd_new (w : World) (l : List Bs) (cs : Array Value) (h : cs.toList = strs l) (n : Nat) (hn : l.length = n) : Rd (w.alloc (.cells cs 9)) (w.heap.size + 1) 1 (.slice (some ⟨w.heap.size, 0, none⟩) n n) l.length (strs l) := by
  subst hn
  refine ⟨by simp [strs_length], _, l.length, rfl, Nat.le_refl _, .inr ⟨w.heap.size, 0, rfl, by omega, fun j u hu => ?_⟩⟩
  rw [(Blk.new w 9 cs).cell (0 + j), Nat.zero_add, ← hu, ← h]
  simp
theorem below_alloc1 (w : World) (o : Obj) : Below w.heap.size w (w.alloc o) := (Below.refl _ w).alloc (Nat.le_refl _) _

theorem grouped_yes (g : Int) (h1 : 0 ≤ g) (h2 : g ≤ 4) (w : World) : Calls Tryd.prog 25 #[.int .i64 g] w fun e w' => e = .returned (.bool true) ∧ w = w' := by
  go_enter Tryd.func25, Tryd.ntmps25
  go_wp2
  go_ret
  exact ⟨rfl, rfl⟩
theorem grouped_no (g : Int) (h : ¬ (0 ≤ g ∧ g ≤ 4)) (w : World) : Calls Tryd.prog 25 #[.int .i64 g] w fun e w' => e = .returned (.bool false) ∧ w = w' := by
  by_cases h1 : 0 ≤ g
  · have h2 : ¬ g ≤ 4 := fun x => h ⟨h1, x⟩
    clear h
    go_enter Tryd.func25, Tryd.ntmps25
    go_wp2
    go_ret
    exact ⟨rfl, rfl⟩
  · clear h
    go_enter Tryd.func25, Tryd.ntmps25
    go_wp2
    go_ret
    exact ⟨rfl, rfl⟩

set_option maxHeartbeats 4000000 in
set_option maxRecDepth 100000 in
theorem mtextN_any (g n : Int) (s : Bs) (hs : s.length ≤ 1000000000000) (w : World) (hl : LayN w) :
    Calls Tryd.prog 13 #[.int .i64 g, .int .i64 n, .string ⟨s.toArray⟩] w fun e w' => e = .returned (.tuple #[.string ⟨(mrkT g n s).1.toArray⟩, .int .i64 (mrkT g n s).2]) ∧ Below w.heap.size w w' := by
  by_cases hin : mrkIn g n = true
  · have hi := (mrkIn_iff g n).1 hin
    obtain ⟨h1, h2, h3, h4⟩ := hi
    by_cases hsl : s.length ≤ 30000
    · have et : Hid (mrkT g n s = if (mrkB g n s).length ≤ 30000 then (mrkB g n s, 0) else ([], 2)) := by unfold Hid mrkT; rw [if_pos hin, if_pos hsl]
      have hml := mrkB_len g n s hin hs
      have hi1 := Lib.itoa_length_le g (by omega) (by omega)
      have hi2 := Lib.itoa_length_le n (by omega) (by omega)
      go_enter Tryd.func13, Tryd.ntmps13
      go_wp2_with (go_at_call 25; refine (grouped_yes g h1 h2 _).mono ?_; rintro e w' ⟨rfl, rfl⟩)
      refine (num_anyN g (by omega) (by omega) _ hl).mono ?_
      rintro e w1 ⟨rfl, hb1⟩
      go_wp2_with fail
      refine (num_anyN n (by omega) (by omega) _ (hl.later hb1)).mono ?_
      rintro e w2 ⟨rfl, hb2⟩
      have hb12 := hb1.trans (hb2.mono hb1.size)
      go_wp2_with fail
      have hb23 := below_alloc1 w2 (.cells #[.string ⟨#[109, 97, 114, 107]⟩, .string ⟨(Lib.itoa g).toArray⟩, .string ⟨(Lib.itoa n).toArray⟩, .string ⟨s.toArray⟩] 9)
      have hb13 := hb12.trans (hb23.mono hb12.size)
      refine (pack_anyN _ [wMark, Lib.itoa g, Lib.itoa n, s] (w2.heap.size + 1) _ (hl.later hb13) (by simp) (rd_new w2 [wMark, Lib.itoa g, Lib.itoa n, s] _ rfl 4 rfl) (by simp) (by have := hml.1; unfold mrkB at this; omega)).mono ?_
      rintro e w3 ⟨rfl, hb3⟩
      rw [show packB [wMark, Lib.itoa g, Lib.itoa n, s] = mrkB g n s from rfl]
      have hb14 := hb13.trans (hb3.mono hb13.size)
      by_cases hbl : (mrkB g n s).length ≤ 30000
      · go_wp2
        go_ret2
        exact ⟨by rw [et.out, if_pos hbl]; rfl, hb14⟩
      · go_wp2
        go_ret2
        exact ⟨by rw [et.out, if_neg hbl]; rfl, hb14⟩
    · have et : Hid (mrkT g n s = ([], 2)) := by unfold Hid mrkT; rw [if_pos hin, if_neg hsl]
      go_enter Tryd.func13, Tryd.ntmps13
      go_wp2_with (go_at_call 25; refine (grouped_yes g h1 h2 _).mono ?_; rintro e w' ⟨rfl, rfl⟩)
      go_ret2
      exact ⟨by rw [et.out]; rfl, Below.refl _ _⟩
  · have et : Hid (mrkT g n s = ([], 1)) := by unfold Hid mrkT; rw [if_neg hin]
    rw [mrkIn_iff] at hin
    by_cases h1 : 0 ≤ g
    · by_cases h2 : g ≤ 4
      · by_cases h3 : 1 ≤ n
        · have h4 : ¬ n ≤ 1099511627776 := fun h => hin ⟨h1, h2, h3, h⟩
          clear hin
          go_enter Tryd.func13, Tryd.ntmps13
          go_wp2_with (go_at_call 25; refine (grouped_yes g h1 h2 _).mono ?_; rintro e w' ⟨rfl, rfl⟩)
          go_ret2
          exact ⟨by rw [et.out]; rfl, Below.refl _ _⟩
        · clear hin
          go_enter Tryd.func13, Tryd.ntmps13
          go_wp2_with (go_at_call 25; refine (grouped_yes g h1 h2 _).mono ?_; rintro e w' ⟨rfl, rfl⟩)
          go_ret2
          exact ⟨by rw [et.out]; rfl, Below.refl _ _⟩
      · clear hin
        go_enter Tryd.func13, Tryd.ntmps13
        go_wp2_with (go_at_call 25; refine (grouped_no g (by omega) _).mono ?_; rintro e w' ⟨rfl, rfl⟩)
        go_ret2
        exact ⟨by rw [et.out]; rfl, Below.refl _ _⟩
    · clear hin
      go_enter Tryd.func13, Tryd.ntmps13
      go_wp2_with (go_at_call 25; refine (grouped_no g (by omega) _).mono ?_; rintro e w' ⟨rfl, rfl⟩)
      go_ret2
      exact ⟨by rw [et.out]; rfl, Below.refl _ _⟩

theorem mtext_any (g n : Int) (s : Bs) (hs : s.length ≤ 1000000000000) (w : World) (hl : Lay w) :
    Calls Tryd.prog 13 #[.int .i64 g, .int .i64 n, .string ⟨s.toArray⟩] w fun e w' => e = .returned (.tuple #[.string ⟨(mrkT g n s).1.toArray⟩, .int .i64 (mrkT g n s).2]) ∧ Below w.heap.size w w' := mtextN_any g n s hs w hl.n


theorem results_tmp4 {fn : Func} {t u v x : Tmp} (h : fn.results = #[.tmp t, .tmp u, .tmp v, .tmp x]) (tmps : Array Value) (P : Program) (w : World) :
    (results fn tmps).run P w = .ok (.tuple #[tmps.getD t undef, tmps.getD u undef, tmps.getD v undef, tmps.getD x undef]) w := by
  simp [results, h]

/-- The four texts of a list of four, read anew in each later world. -/
theorem rd_four {w : World} {B : Nat} {v : Value} {a b c d : Bs} (h : Rd w B 1 v 4 (strs [a, b, c, d])) :
    ∃ g off cap, v = .slice (some ⟨g, off, none⟩) 4 cap ∧ g < B ∧ w.cell? ⟨g, off, none⟩ = some (.string ⟨a.toArray⟩) ∧ w.cell? ⟨g, off + 1, none⟩ = some (.string ⟨b.toArray⟩) ∧ w.cell? ⟨g, off + 2, none⟩ = some (.string ⟨c.toArray⟩) ∧ w.cell? ⟨g, off + 3, none⟩ = some (.string ⟨d.toArray⟩) := by
  obtain ⟨_, A, cap, rfl, _, h0 | ⟨g, off, rfl, hg, hc⟩⟩ := h
  · omega
  · exact ⟨g, off, cap, rfl, hg, hc 0 _ rfl, hc 1 _ rfl, hc 2 _ rfl, hc 3 _ rfl⟩

set_option maxHeartbeats 4000000 in
set_option maxRecDepth 100000 in
theorem mread_any (t : Bs) (ht : t.length ≤ 1000000000) (w : World) (hl : Lay w) :
    Calls Tryd.prog 15 #[.string ⟨t.toArray⟩] w fun e w' => e = .returned (.tuple #[.int .i64 (mrkR t).g, .int .i64 (mrkR t).n, .string ⟨(mrkR t).s.toArray⟩, .int .i64 (mrkR t).e]) ∧ Below w.heap.size w w' := by
  have hU := unpack_any t (by omega) w hl
  rcases unpackB_cases t with ⟨hu, _⟩ | ⟨h2, hO, hp⟩
  · have et : Hid (mrkR t = mrkNo) := by unfold Hid mrkR; rw [hu]
    rw [hu] at hU
    go_enter Tryd.func15, Tryd.ntmps15
    go_wp2_with fail
    refine hU.mono ?_
    rintro e w1 ⟨v, rfl, hv, hb1⟩
    obtain ⟨A, c, rfl⟩ := own_shape hv
    go_wp2
    try simp only [Exit.inBlock, Exit.then]
    refine bodyPost_ret (results_tmp4 rfl _ _ _) rfl ?_
    exact ⟨by rw [et.out]; rfl, hb1⟩
  · rw [h2] at hU
    by_cases h4 : (unpackB t).1.length = 4
    · obtain ⟨a, b, c, d, hl4⟩ : ∃ a b c d, (unpackB t).1 = [a, b, c, d] := by
        match hx : (unpackB t).1, h4 with
        | [a, b, c, d], _ => exact ⟨a, b, c, d, rfl⟩
      have et : Hid (mrkR t = mrkL t b c d) := by unfold Hid mrkR; rw [hl4]; simp only [h2, if_true]
      rw [hl4] at hU hp
      have hbl := packB_le _ b (show b ∈ [a, b, c, d] by simp)
      have hcl := packB_le _ c (show c ∈ [a, b, c, d] by simp)
      have hdl := packB_le _ d (show d ∈ [a, b, c, d] by simp)
      rw [hp] at hbl hcl hdl
      clear hl4 h4 h2 hO hp
      go_enter Tryd.func15, Tryd.ntmps15
      go_wp2_with fail
      refine hU.mono ?_
      rintro e w1 ⟨v, rfl, hv, hb1⟩
      obtain ⟨g, off, cap, rfl, hg, c0, c1, c2, c3⟩ := rd_four (Rd.of_own hv)
      have hl1 := hl.later hb1
      clear hU
      go_wp2_with fail
      refine (toNum_any b (by omega) _ hl1).mono ?_
      rintro e w2 ⟨rfl, hb2⟩
      have d2 := (hb2.cell (p := ⟨g, off + 2, none⟩) hg).trans c2
      have d3 := (hb2.cell (p := ⟨g, off + 3, none⟩) hg).trans c3
      have hb12 := hb1.trans (hb2.mono hb1.size)
      go_wp2_with fail
      refine (toNum_any c (by omega) _ (hl1.later hb2)).mono ?_
      rintro e w3 ⟨rfl, hb3⟩
      have e3 := (hb3.cell (p := ⟨g, off + 3, none⟩) (Nat.lt_of_lt_of_le hg hb2.size)).trans d3
      have hb13 := hb12.trans (hb3.mono hb12.size)
      go_wp2_with fail
      refine (mtext_any (toNumB b).1 (toNumB c).1 d (by omega) _ (hl.later hb13)).mono ?_
      rintro e w4 ⟨rfl, hb4⟩
      have hb14 := hb13.trans (hb4.mono hb13.size)
      have f3 := (hb4.cell (p := ⟨g, off + 3, none⟩) (Nat.lt_of_lt_of_le hg (Nat.le_trans hb2.size hb3.size))).trans e3
      have ep := mrkL_prog t b c d
      have EP := Lib.hid ep
      clear ep
      by_cases e1 : (toNumB b).2 = 0
      · by_cases e2 : (toNumB c).2 = 0
        · by_cases e3 : (mrkT (toNumB b).1 (toNumB c).1 d).2 = 0
          · by_cases e4 : (mrkT (toNumB b).1 (toNumB c).1 d).1 = t
            · have E5 : Hid (mrkL t b c d = ⟨(toNumB b).1, (toNumB c).1, d, 0⟩) := by unfold Hid; rw [EP.out, if_pos ⟨e1, e2, e3, e4⟩]
              go_wp2
              rename (∀ (a : Act) (w : World), Code.wp _ _ _ a w → _) => ha
              go_quiet (fail)
              refine ha _ _ ?_
              go_wp2
              try simp only [Exit.inBlock, Exit.then]
              refine bodyPost_ret (results_tmp4 rfl _ _ _) rfl ?_
              exact ⟨by rw [et.out, E5.out]; rfl, below_drewN hb14 _⟩
            · have E5 : Hid (mrkL t b c d = mrkNo) := by unfold Hid; rw [EP.out, if_neg (fun h => e4 h.2.2.2)]
              have e5 : ((mrkT (toNumB b).1 (toNumB c).1 d).1 == t) = false := by simpa using e4
              go_wp2
              try simp only [Exit.inBlock, Exit.then]
              refine bodyPost_ret (results_tmp4 rfl _ _ _) rfl ?_
              exact ⟨by rw [et.out, E5.out]; rfl, hb14⟩
          · have E5 : Hid (mrkL t b c d = mrkNo) := by unfold Hid; rw [EP.out, if_neg (fun h => e3 h.2.2.1)]
            go_wp2
            try simp only [Exit.inBlock, Exit.then]
            refine bodyPost_ret (results_tmp4 rfl _ _ _) rfl ?_
            exact ⟨by rw [et.out, E5.out]; rfl, hb14⟩
        · have E5 : Hid (mrkL t b c d = mrkNo) := by unfold Hid; rw [EP.out, if_neg (fun h => e2 h.2.1)]
          go_wp2
          try simp only [Exit.inBlock, Exit.then]
          refine bodyPost_ret (results_tmp4 rfl _ _ _) rfl ?_
          exact ⟨by rw [et.out, E5.out]; rfl, hb14⟩
      · have E5 : Hid (mrkL t b c d = mrkNo) := by unfold Hid; rw [EP.out, if_neg (fun h => e1 h.1)]
        go_wp2
        try simp only [Exit.inBlock, Exit.then]
        refine bodyPost_ret (results_tmp4 rfl _ _ _) rfl ?_
        exact ⟨by rw [et.out, E5.out]; rfl, hb14⟩
    · have et : Hid (mrkR t = mrkNo) := by
        unfold Hid mrkR
        match hx : (unpackB t).1, h4 with
        | [], _ => rfl
        | [_], _ => rfl
        | [_, _], _ => rfl
        | [_, _, _], _ => rfl
        | [_, _, _, _], h => exact absurd rfl h
        | _ :: _ :: _ :: _ :: _ :: _, _ => rfl
      have hne : ¬ ((unpackB t).1.length : Int) = 4 := by omega
      go_enter Tryd.func15, Tryd.ntmps15
      go_wp2_with fail
      refine hU.mono ?_
      rintro e w1 ⟨v, rfl, hv, hb1⟩
      obtain ⟨A, c, rfl⟩ := own_shape hv
      go_wp2
      try simp only [Exit.inBlock, Exit.then]
      refine bodyPost_ret (results_tmp4 rfl _ _ _) rfl ?_
      exact ⟨by rw [et.out]; rfl, hb1⟩

end Go.Proofs.YtogpbldipmcbdaaDoor
