/- Marks' texts: the document's answer. -/
import Derived.Test.YtogpbldipmcbdaaDoorKb
set_option linter.unusedVariables false
set_option linter.unusedSimpArgs false
set_option linter.unnecessarySimpa false
namespace Go.Proofs.YtogpbldipmcbdaaDoor
open Go.RowKit Go.Shelf

set_option maxHeartbeats 4000000 in
set_option maxRecDepth 100000 in
theorem rmtext_any (g n : Int) (s : Bs) (hs : s.length ≤ 1000000000000) (w : World) :
    Calls Tryd.prog 14 #[.int .i64 g, .int .i64 n, .string ⟨s.toArray⟩] w fun e w' => e = .returned (.tuple #[.string ⟨(mrkT g n s).1.toArray⟩, .int .i64 (mrkT g n s).2]) ∧ Below w.heap.size w w' := by
  by_cases hin : mrkIn g n = true
  · have hi := (mrkIn_iff g n).1 hin
    obtain ⟨h1, h2, h3, h4⟩ := hi
    by_cases hsl : s.length ≤ 30000
    · have et : Hid (mrkT g n s = if (mrkB g n s).length ≤ 30000 then (mrkB g n s, 0) else ([], 2)) := by unfold Hid mrkT; rw [if_pos hin, if_pos hsl]
      have hml := mrkB_len g n s hin hs
      have hi1 := Lib.itoa_length_le g (by omega) (by omega)
      have hi2 := Lib.itoa_length_le n (by omega) (by omega)
      go_enter Tryd.func14, Tryd.ntmps14
      go_wp2_with fail
      refine (rnum_any g (by omega) (by omega) _).mono ?_
      rintro e w1 ⟨rfl, hb1⟩
      go_wp2_with fail
      refine (rnum_any n (by omega) (by omega) _).mono ?_
      rintro e w2 ⟨rfl, hb2⟩
      have hb12 := hb1.trans (hb2.mono hb1.size)
      go_wp2_with fail
      have hb23 := below_alloc1 w2 (.cells #[.string ⟨#[109, 97, 114, 107]⟩, .string ⟨(Lib.itoa g).toArray⟩, .string ⟨(Lib.itoa n).toArray⟩, .string ⟨s.toArray⟩] 9)
      have hb13 := hb12.trans (hb23.mono hb12.size)
      refine (rpack_any _ [wMark, Lib.itoa g, Lib.itoa n, s] (w2.heap.size + 1) _ (by simp) (rd_new w2 [wMark, Lib.itoa g, Lib.itoa n, s] _ rfl 4 rfl) (by simp) (by have := hml.1; unfold mrkB at this; omega)).mono ?_
      rintro e w3 ⟨rfl, hb3⟩
      rw [show packB [wMark, Lib.itoa g, Lib.itoa n, s] = mrkB g n s from rfl]
      have hb14 := hb13.trans (hb3.mono hb13.size)
      by_cases hbl : (mrkB g n s).length ≤ 30000
      · go_wp2
        go_ret2
        exact ⟨by rw [et.out, if_pos hbl]; rfl, hb14⟩
      · go_wp2
        go_ret2
        exact ⟨by rw [et.out, if_neg hbl]; rfl, hb14⟩
    · have et : Hid (mrkT g n s = ([], 2)) := by unfold Hid mrkT; rw [if_pos hin, if_neg hsl]
      go_enter Tryd.func14, Tryd.ntmps14
      go_wp2
      go_ret2
      exact ⟨by rw [et.out]; rfl, Below.refl _ _⟩
  · have et : Hid (mrkT g n s = ([], 1)) := by unfold Hid mrkT; rw [if_neg hin]
    rw [mrkIn_iff] at hin
    by_cases h1 : 0 ≤ g
    · by_cases h2 : g ≤ 4
      · by_cases h3 : 1 ≤ n
        · have h4 : ¬ n ≤ 1099511627776 := fun h => hin ⟨h1, h2, h3, h⟩
          clear hin
          go_enter Tryd.func14, Tryd.ntmps14
          go_wp2
          go_ret2
          exact ⟨by rw [et.out]; rfl, Below.refl _ _⟩
        · clear hin
          go_enter Tryd.func14, Tryd.ntmps14
          go_wp2
          go_ret2
          exact ⟨by rw [et.out]; rfl, Below.refl _ _⟩
      · clear hin
        go_enter Tryd.func14, Tryd.ntmps14
        go_wp2
        go_ret2
        exact ⟨by rw [et.out]; rfl, Below.refl _ _⟩
    · clear hin
      go_enter Tryd.func14, Tryd.ntmps14
      go_wp2
      go_ret2
      exact ⟨by rw [et.out]; rfl, Below.refl _ _⟩


theorem blk3 {w : World} {g : Nat} {t : TypeId} {a b c : Value} (h : Blk w g t #[a, b, c]) : w.cell? ⟨g, 0, none⟩ = some a ∧ w.cell? ⟨g, 1, none⟩ = some b ∧ w.cell? ⟨g, 2, none⟩ = some c ∧ w.frozen? ⟨g, 0, none⟩ = false ∧ w.frozen? ⟨g, 1, none⟩ = false ∧ w.frozen? ⟨g, 2, none⟩ = false :=
  ⟨h.cell 0, h.cell 1, h.cell 2, h.frozen 0, h.frozen 1, h.frozen 2⟩
theorem below_set3 {w w1 : World} {B g : Nat} (h : Below B w w1) (a b c : Value) (hg : B ≤ g := by exact Nat.le_refl _) : Below B w (((w1.setCell ⟨g, 0, none⟩ a).setCell ⟨g, 1, none⟩ b).setCell ⟨g, 2, none⟩ c) :=
  ((h.setCell (p := ⟨g, 0, none⟩) hg a).setCell (p := ⟨g, 1, none⟩) hg b).setCell (p := ⟨g, 2, none⟩) hg c
/-- A said of the document's, as it lies. -/
def saidV (m : MSaid) : Value := .agg #[.int .i64 m.g, .int .i64 m.n, .string ⟨m.s.toArray⟩]
theorem unpack4 (t : Bs) (h : (unpackB t).1.length = 4) : ∃ a b c d, (unpackB t).1 = [a, b, c, d] := by
  match hx : (unpackB t).1, h with
  | [a, b, c, d], _ => exact ⟨a, b, c, d, rfl⟩
theorem mrkR_not4 (t : Bs) (h : ¬ (unpackB t).1.length = 4) : mrkR t = mrkNo := by
  unfold mrkR
  match hx : (unpackB t).1, h with
  | [], _ => rfl
  | [_], _ => rfl
  | [_, _], _ => rfl
  | [_, _, _], _ => rfl
  | [_, _, _, _], h => exact absurd rfl h
  | _ :: _ :: _ :: _ :: _ :: _, _ => rfl

set_option maxHeartbeats 4000000 in
set_option maxRecDepth 100000 in
theorem rmread_any (t : Bs) (ht : t.length ≤ 1000000000) (w : World) :
    Calls Tryd.prog 16 #[.string ⟨t.toArray⟩] w fun e w' => e = .returned (.tuple #[.agg #[.int .i64 (mrkR t).g, .int .i64 (mrkR t).n, .string ⟨(mrkR t).s.toArray⟩], .int .i64 (mrkR t).e]) ∧ Below w.heap.size w w' := by
  rcases unpackB_cases t with ⟨hu, _⟩ | ⟨h2, hO, hp⟩
  · have et : Hid (mrkR t = mrkNo) := by unfold Hid mrkR; rw [hu]
    go_enter Tryd.func16, Tryd.ntmps16
    go_wp2_with fail
    have hU := runpack_any t (by omega) (w.alloc (.cells #[.int .i64 0, .int .i64 0, .string ⟨#[]⟩] 46))
    rw [hu] at hU
    refine hU.mono ?_
    rintro e w1 ⟨v, rfl, hv, hb1⟩
    obtain ⟨A, c, rfl⟩ := own_shape hv
    clear hU
    have hz := (Blk.new w 46 #[.int .i64 0, .int .i64 0, .string ⟨#[]⟩]).below hb1 (by simp)
    obtain ⟨z0, z1, z2, f0, f1, f2⟩ := blk3 hz
    have hb := (below_alloc1 w (.cells #[.int .i64 0, .int .i64 0, .string ⟨#[]⟩] 46)).trans (hb1.mono (by simp))
    go_wp2
    refine bodyPost_ret (v := .tuple #[.agg #[.int .i64 0, .int .i64 0, .string ⟨#[]⟩], .int .i64 4]) (by simp [results, Tryd.results16, go_sem, z0, z1, z2]) rfl ⟨by rw [et.out]; rfl, below_set3 hb _ _ _⟩
  · by_cases h4 : (unpackB t).1.length = 4
    · obtain ⟨a, b, c, d, hl4⟩ := unpack4 t h4
      have hU := runpack_any t (by omega) (w.alloc (.cells #[.int .i64 0, .int .i64 0, .string ⟨#[]⟩] 46))
      rw [h2, hl4] at hU
      have hpp := hp
      rw [hl4] at hp
      have et : Hid (mrkR t = if (a = wMark ∧ t.length ≤ 30000) ∧ ((toNumB b).2 = 0 ∧ (toNumB c).2 = 0 ∧ mrkIn (toNumB b).1 (toNumB c).1 = true) then ⟨(toNumB b).1, (toNumB c).1, d, 0⟩ else mrkNo) := by
        unfold Hid
        rw [← mrkL_ref t a b c d hp]
        unfold mrkR
        rw [hl4]
        simp only [h2, if_true]
      have hbl := packB_le _ b (show b ∈ [a, b, c, d] by simp)
      have hcl := packB_le _ c (show c ∈ [a, b, c, d] by simp)
      rw [hp] at hbl hcl
      clear hl4 h4 h2 hO hp hpp
      go_enter Tryd.func16, Tryd.ntmps16
      go_wp2_with fail
      refine hU.mono ?_
      rintro e w1 ⟨v, rfl, hv, hb1⟩
      obtain ⟨g, off, cap, rfl, hg, c0, c1, c2, c3⟩ := rd_four (Rd.of_own hv)
      clear hU
      have hz1 := (Blk.new w 46 #[.int .i64 0, .int .i64 0, .string ⟨#[]⟩]).below hb1 (by simp)
      have hb0 := (below_alloc1 w (.cells #[.int .i64 0, .int .i64 0, .string ⟨#[]⟩] 46)).trans (hb1.mono (by simp))
      by_cases ha : a = wMark
      · have ha2 : a.toArray = #[109, 97, 114, 107] := by rw [ha]; rfl
        rw [ha] at c0
        by_cases hl : t.length ≤ 30000
        · go_wp2_with fail
          refine (rtoNum_any b (by omega) _).mono ?_
          rintro e w2 ⟨rfl, hb2⟩
          have d2 := (hb2.cell (p := ⟨g, off + 2, none⟩) hg).trans c2
          have d3 := (hb2.cell (p := ⟨g, off + 3, none⟩) hg).trans c3
          have hb12 := hb0.trans (hb2.mono hb0.size)
          go_wp2_with fail
          refine (rtoNum_any c (by omega) _).mono ?_
          rintro e w3 ⟨rfl, hb3⟩
          have e3 := (hb3.cell (p := ⟨g, off + 3, none⟩) (Nat.lt_of_lt_of_le hg hb2.size)).trans d3
          have hb13 := hb12.trans (hb3.mono hb12.size)
          have hz3 := (hz1.below hb2 hz1.lt).below hb3 (Nat.lt_of_lt_of_le hz1.lt hb2.size)
          obtain ⟨z0, z1, z2, f0, f1, f2⟩ := blk3 hz3
          clear hz1 hz3 ha2 c0 c1 c2 c3 d2 d3 hv
          by_cases hgd : (toNumB b).2 = 0 ∧ (toNumB c).2 = 0 ∧ mrkIn (toNumB b).1 (toNumB c).1 = true
          · have E5 : Hid (mrkR t = ⟨(toNumB b).1, (toNumB c).1, d, 0⟩) := by unfold Hid; rw [et.out, if_pos ⟨⟨ha, hl⟩, hgd⟩]
            obtain ⟨g1, g2, g3⟩ := hgd
            rw [mrkIn_iff] at g3
            obtain ⟨g3, g4, g5, g6⟩ := g3
            clear et
            go_wp2
            refine bodyPost_ret (v := .tuple #[.agg #[.int .i64 (toNumB b).1, .int .i64 (toNumB c).1, .string ⟨d.toArray⟩], .int .i64 0]) (by simp [results, Tryd.results16, go_sem, z0, z1, z2]) rfl ⟨by rw [E5.out], below_set3 hb13 _ _ _⟩
          · have E5 : Hid (mrkR t = mrkNo) := by unfold Hid; rw [et.out, if_neg (fun h => hgd h.2)]
            have hbad : ¬ (toNumB b).2 = 0 ∨ ((toNumB b).2 = 0 ∧ ¬ (toNumB c).2 = 0) ∨ ((toNumB b).2 = 0 ∧ (toNumB c).2 = 0 ∧ (toNumB b).1 < 0) ∨ ((toNumB b).2 = 0 ∧ (toNumB c).2 = 0 ∧ ¬ (toNumB b).1 < 0 ∧ 4 < (toNumB b).1) ∨
                ((toNumB b).2 = 0 ∧ (toNumB c).2 = 0 ∧ ¬ (toNumB b).1 < 0 ∧ ¬ 4 < (toNumB b).1 ∧ (toNumB c).1 < 1) ∨ ((toNumB b).2 = 0 ∧ (toNumB c).2 = 0 ∧ ¬ (toNumB b).1 < 0 ∧ ¬ 4 < (toNumB b).1 ∧ ¬ (toNumB c).1 < 1 ∧ 1099511627776 < (toNumB c).1) := by
              rw [mrkIn_iff] at hgd
              omega
            clear et hgd
            rcases hbad with h1 | ⟨h1, h2⟩ | ⟨h1, h2, h3⟩ | ⟨h1, h2, h3, h4⟩ | ⟨h1, h2, h3, h4, h5⟩ | ⟨h1, h2, h3, h4, h5, h6⟩
            all_goals
              go_wp2
              refine bodyPost_ret (v := .tuple #[.agg #[.int .i64 0, .int .i64 0, .string ⟨#[]⟩], .int .i64 4]) (by simp [results, Tryd.results16, go_sem, z0, z1, z2]) rfl ⟨by rw [E5.out]; rfl, below_set3 hb13 _ _ _⟩
        · have E5 : Hid (mrkR t = mrkNo) := by unfold Hid; rw [et.out, if_neg (fun h => hl h.1.2)]
          obtain ⟨z0, z1, z2, f0, f1, f2⟩ := blk3 hz1
          go_wp2
          refine bodyPost_ret (v := .tuple #[.agg #[.int .i64 0, .int .i64 0, .string ⟨#[]⟩], .int .i64 4]) (by simp [results, Tryd.results16, go_sem, z0, z1, z2]) rfl ⟨by rw [E5.out]; rfl, below_set3 hb0 _ _ _⟩
      · have E5 : Hid (mrkR t = mrkNo) := by unfold Hid; rw [et.out, if_neg (fun h => ha h.1.1)]
        obtain ⟨z0, z1, z2, f0, f1, f2⟩ := blk3 hz1
        have ha3 : (a == [109, 97, 114, 107]) = false := by simpa [wMark] using ha
        go_wp2
        refine bodyPost_ret (v := .tuple #[.agg #[.int .i64 0, .int .i64 0, .string ⟨#[]⟩], .int .i64 4]) (by simp [results, Tryd.results16, go_sem, z0, z1, z2]) rfl ⟨by rw [E5.out]; rfl, below_set3 hb0 _ _ _⟩
    · have et : Hid (mrkR t = mrkNo) := mrkR_not4 t h4
      have hU := runpack_any t (by omega) (w.alloc (.cells #[.int .i64 0, .int .i64 0, .string ⟨#[]⟩] 46))
      rw [h2] at hU
      have hne : ¬ ((unpackB t).1.length : Int) = 4 := by omega
      clear h2 hO hp
      go_enter Tryd.func16, Tryd.ntmps16
      go_wp2_with fail
      refine hU.mono ?_
      rintro e w1 ⟨v, rfl, hv, hb1⟩
      obtain ⟨A, c, rfl⟩ := own_shape hv
      clear hU
      have hz := (Blk.new w 46 #[.int .i64 0, .int .i64 0, .string ⟨#[]⟩]).below hb1 (by simp)
      obtain ⟨z0, z1, z2, f0, f1, f2⟩ := blk3 hz
      have hb := (below_alloc1 w (.cells #[.int .i64 0, .int .i64 0, .string ⟨#[]⟩] 46)).trans (hb1.mono (by simp))
      go_wp2
      refine bodyPost_ret (v := .tuple #[.agg #[.int .i64 0, .int .i64 0, .string ⟨#[]⟩], .int .i64 4]) (by simp [results, Tryd.results16, go_sem, z0, z1, z2]) rfl ⟨by rw [et.out]; rfl, below_set3 hb _ _ _⟩

end Go.Proofs.YtogpbldipmcbdaaDoor
