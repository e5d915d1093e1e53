/- A configuration's text: the program's and the document's. -/
import Derived.Test.YtioikihehjacgaaGreatDoorCTexts39
set_option linter.unusedVariables false
set_option linter.unusedSimpArgs false
set_option linter.unnecessarySimpa false
namespace Go.Proofs.YtioikihehjacgaaGreatDoor
open Go.RowKit Go.Shelf

theorem rd_newT (w : World) (l : List Bs) (cs : Array Value) (h : cs.toList = strs l) (n : Nat) (hn : l.length = n) : Rd (w.alloc (.cells cs 9)) (w.heap.size + 1) 1 (.slice (some ⟨w.heap.size, 0, none⟩) n n) l.length (strs l) := by
  subst hn
  refine ⟨by simp [strs_length], _, l.length, rfl, Nat.le_refl _, .inr ⟨w.heap.size, 0, rfl, by omega, fun j u hu => ?_⟩⟩
  rw [(Blk.new w 9 cs).cell (0 + j), Nat.zero_add, ← hu, ← h]
  simp
theorem keepc {t : TypeId} {W w' : World} {b : Nat} {num : Int} {s : Value} {o : Own} (h : Blk W b t (cfgCells num s o)) (hb : Below W.heap.size W w') : w'.cell? ⟨b, 0, none⟩ = some (.int .i64 num) ∧ w'.cell? ⟨b, 1, none⟩ = some s := ⟨(h.below hb h.lt).cell 0, (h.below hb h.lt).cell 1⟩
theorem own_rd {t : TypeId} {W : World} {b : Nat} {num : Int} {s : Value} {o : Own} (h : Blk W b t (cfgCells num s o)) : Rd W W.heap.size 1 (.slice (some ⟨b, 2, none⟩) 4 4) o.list.length (ints o.list) := by
  refine ⟨rfl, _, 4, rfl, Nat.le_refl _, .inr ⟨b, 2, rfl, h.lt, fun j u hu => ?_⟩⟩
  rw [h.cell]
  have hj : j < 4 := (List.getElem?_eq_some_iff.1 hu).1
  have : j = 0 ∨ j = 1 ∨ j = 2 ∨ j = 3 := by omega
  rcases this with rfl | rfl | rfl | rfl <;> exact hu
theorem own_in {c : Cfg} (h : checkB c = true) : ∀ n ∈ c.o.list, -9223372036854775808 ≤ n ∧ n ≤ 9223372036854775807 := by
  obtain ⟨h0, h1, hl, hg, h5⟩ := check_bounds h
  have a0 := h5 0 (by omega)
  have a1 := h5 1 (by omega)
  have a2 := h5 2 (by omega)
  have a3 := h5 3 (by omega)
  simp only [Own.get] at a0 a1 a2 a3
  intro n hn
  simp [Own.list] at hn
  rcases hn with rfl | rfl | rfl | rfl <;> omega
theorem gs_in {c : Cfg} (h : checkB c = true) : ∀ n ∈ c.gs, -9223372036854775808 ≤ n ∧ n ≤ 9223372036854775807 := by
  obtain ⟨h0, h1, hl, hg, h5⟩ := check_bounds h
  intro n hn
  have := hg n hn
  omega
theorem cfgB_len {c : Cfg} (h : checkB c = true) : (cfgB c).length ≤ 500000 := by
  obtain ⟨h0, h1, hl, hg, h5⟩ := check_bounds h
  have b1 := itoas_small c.gs (gs_in h)
  have b2 := itoas_small c.o.list (own_in h)
  have b3 := Lib.itoa_length_le c.num (by omega) (by omega)
  have b4 : c.o.list.length = 4 := rfl
  have := packB_len [wCfg, Lib.itoa c.num, lstB c.gs, lstB c.own] 100000 (by
    intro s hs
    simp at hs
    rcases hs with rfl | rfl | rfl | rfl
    · simp [wCfg]
    · omega
    · omega
    · show (lstB c.o.list).length ≤ _; omega) (by omega)
  unfold cfgB
  simp only [List.length_cons, List.length_nil] at this
  omega

set_option maxHeartbeats 8000000 in
set_option maxRecDepth 100000 in
theorem ctext_any (c : Cfg) (A : Option Addr) (cc : Nat) (w : World) (hl : Lay w) (hr : Rd w w.heap.size 1 (.slice A c.gs.length cc) c.gs.length (ints c.gs)) (hm : c.gs.length ≤ 1000000) :
    Calls Tryz.prog 5 #[.agg #[.int .i64 c.num, .slice A c.gs.length cc, .int .i64 c.o.a, .int .i64 c.o.b, .int .i64 c.o.c, .int .i64 c.o.d]] w fun e w' => e = .returned (.tuple #[.string ⟨(cfgT c).1.toArray⟩, .int .i64 (cfgT c).2]) ∧ Below w.heap.size w w' := by
  have hW0 := (Below.refl w.heap.size w).alloc (Nat.le_refl _) (.cells #[.int .i64 c.num, .slice A c.gs.length cc, .int .i64 c.o.a, .int .i64 c.o.b, .int .i64 c.o.c, .int .i64 c.o.d] 25)
  have hK0 : Blk (w.alloc (.cells #[.int .i64 c.num, .slice A c.gs.length cc, .int .i64 c.o.a, .int .i64 c.o.b, .int .i64 c.o.c, .int .i64 c.o.d] 25)) w.heap.size 25 (cfgCells c.num (.slice A c.gs.length cc) c.o) := Blk.new w _ _
  have hC := check_any c (.slice A c.gs.length cc) _ w.heap.size hW0.size (hr.below hW0) (by omega)
  have HR := Lib.hid hr
  have HK0 := Lib.hid hK0
  have HW0 := Lib.hid hW0
  clear hr hK0 hW0
  cases hck : checkB c with
  | false =>
    have HT : Hid (cfgT c = ([], 4)) := by unfold Hid cfgT; rw [hck]; rfl
    rw [hck] at hC
    clear hck
    go_enter Tryz.func5, Tryz.ntmps5
    go_wp2_with fail
    refine hC.mono ?_
    rintro e w1 ⟨rfl, hb1⟩
    simp only [errC]
    go_wp2
    go_ret2
    exact ⟨by rw [HT.out]; rfl, HW0.out.trans (hb1.mono HW0.out.size)⟩
  | true =>
    have HT : Hid (cfgT c = (cfgB c, 0)) := by unfold Hid cfgT; rw [if_pos hck]
    obtain ⟨n0, n1, hl4, _, _⟩ := check_bounds hck
    have HGI := Lib.hid (gs_in hck)
    have HOI := Lib.hid (own_in hck)
    have HLN : Hid ((cfgB c).length ≤ 140737488355328) := Nat.le_trans (cfgB_len hck) (by omega)
    rw [hck] at hC
    clear hck
    go_enter Tryz.func5, Tryz.ntmps5
    go_wp2_with fail
    refine hC.mono ?_
    rintro e W ⟨rfl, hb1⟩
    simp only [errC]
    have HBW := Lib.hid (HW0.out.trans (hb1.mono HW0.out.size))
    have HK := Lib.hid (HK0.out.below hb1 HK0.out.lt)
    have HRW : Hid (∀ w', Below W.heap.size W w' → Rd w' W.heap.size 1 (.slice A c.gs.length cc) c.gs.length (ints c.gs)) := fun w' h => (((HR.out.below HBW.out).more HBW.out.size)).below h
    have HOW : Hid (∀ w', Below W.heap.size W w' → Rd w' W.heap.size 1 (.slice (some ⟨w.heap.size, 2, none⟩) 4 4) c.o.list.length (ints c.o.list)) := fun w' h => (own_rd HK.out).below h
    have HLW : Hid (∀ w', Below W.heap.size W w' → Lay w') := fun w' h => (hl.later HBW.out).later h
    have HPK : Hid (packB [wCfg, Lib.itoa c.num, lstB c.gs, lstB c.o.list] = cfgB c) := rfl
    have h63 : c.num ≤ 9223372036854775807 := by omega
    have h64 : -9223372036854775808 ≤ c.num := by omega
    have hbsz := HBW.out.size
    clear hb1 HK0 HW0 HR hC n0 n1
    go_wp2_with fail
    go_region_held3 (fun w' => w'.cell? ⟨w.heap.size, 0, none⟩ = some (.int .i64 c.num) ∧ w'.cell? ⟨w.heap.size, 1, none⟩ = some (.slice A c.gs.length cc))
      ((refine keepc HK.out ?_; simp only [bl_drew, bl_alloc, bl_refl, *]))
      ((first
        | (go_at_call 20; refine Calls.mono (pack_any _ [wCfg, Lib.itoa c.num, lstB c.gs, lstB c.o.list] _ _ (HLW.out _ (below_al hbl3 _)) (by simp) (rd_newT w3 [wCfg, Lib.itoa c.num, lstB c.gs, lstB c.o.list] _ rfl 4 rfl) (by simp) HLN.out) ?_; rintro e w4 ⟨rfl, hb4⟩; have hbl4 : Below W.heap.size W w4 := below_then (below_al hbl3 _) hb4; rw [HPK.out])
        | (go_at_call 22; have hq2 := hbl2; refine Calls.mono (numbers_any (.slice (some ⟨w.heap.size, 2, none⟩) 4 4) c.o.list _ (HLW.out _ hbl2) W.heap.size hbl2.size (HOW.out _ hbl2) (by simp [Own.list]) HOI.out) ?_; rintro e w3 ⟨rfl, hb3⟩; have hbl3 : Below W.heap.size W w3 := below_then hbl2 hb3)
        | (go_at_call 22; refine Calls.mono (numbers_any (.slice A c.gs.length cc) c.gs _ (HLW.out _ hbl1) W.heap.size hbl1.size (HRW.out _ hbl1) hm HGI.out) ?_; rintro e w2 ⟨rfl, hb2⟩; have hbl2 : Below W.heap.size W w2 := below_then hbl1 hb2)
        | (go_at_call 21; refine Calls.mono (num_any c.num h64 h63 _ (HLW.out _ (by simp only [bl_drew, bl_refl]))) ?_; rintro e w1 ⟨rfl, hb1⟩; have hbl1 : Below W.heap.size W w1 := below_then (by simp only [bl_drew, bl_refl]) hb1)))
    all_goals
      go_wp2
      go_ret2
      exact ⟨by rw [HT.out]; rfl, HBW.out.trans (hbl4.mono hbsz)⟩

theorem ints_own (o : Own) (k : Nat) (hk : k < 4) : ints (o.list.take (k + 1)) = ints (o.list.take k) ++ [.int .i64 (o.get k)] := by
  rw [own_take o k hk, ints_append]; rfl

set_option maxHeartbeats 8000000 in
set_option maxRecDepth 100000 in
theorem rtext_any (c : Cfg) (A : Option Addr) (cc : Nat) (w : World) (hr : Rd w w.heap.size 1 (.slice A c.gs.length cc) c.gs.length (ints c.gs)) (hm : c.gs.length ≤ 1000000) :
    Calls Tryz.prog 6 #[.agg #[.int .i64 c.num, .slice A c.gs.length cc, .int .i64 c.o.a, .int .i64 c.o.b, .int .i64 c.o.c, .int .i64 c.o.d]] w fun e w' => e = .returned (.tuple #[.string ⟨(cfgT c).1.toArray⟩, .int .i64 (cfgT c).2]) ∧ Below w.heap.size w w' := by
  have hW0 := (Below.refl w.heap.size w).alloc (Nat.le_refl _) (.cells #[.int .i64 c.num, .slice A c.gs.length cc, .int .i64 c.o.a, .int .i64 c.o.b, .int .i64 c.o.c, .int .i64 c.o.d] 32)
  have hK0 : Blk (w.alloc (.cells #[.int .i64 c.num, .slice A c.gs.length cc, .int .i64 c.o.a, .int .i64 c.o.b, .int .i64 c.o.c, .int .i64 c.o.d] 32)) w.heap.size 32 (cfgCells c.num (.slice A c.gs.length cc) c.o) := Blk.new w _ _
  have hC := rcheck_any c (.slice A c.gs.length cc) _ w.heap.size hW0.size (hr.below hW0) (by omega)
  have HR := Lib.hid hr
  have HK0 := Lib.hid hK0
  have HW0 := Lib.hid hW0
  clear hr hK0 hW0
  obtain ⟨i0, hi0, hz0, hz1, hz2⟩ := info_parts int_info
  cases hck : checkB c with
  | false =>
    have HT : Hid (cfgT c = ([], 4)) := by unfold Hid cfgT; rw [hck]; rfl
    rw [hck] at hC
    clear hck
    go_enter Tryz.func6, Tryz.ntmps6
    go_wp2_with fail
    refine hC.mono ?_
    rintro e w1 ⟨rfl, hb1⟩
    simp only [errC]
    go_wp2
    go_ret2
    exact ⟨by rw [HT.out]; rfl, HW0.out.trans (hb1.mono HW0.out.size)⟩
  | true =>
    have HT : Hid (cfgT c = (cfgB c, 0)) := by unfold Hid cfgT; rw [if_pos hck]
    obtain ⟨n0, n1, hl4, _, _⟩ := check_bounds hck
    have HGI := Lib.hid (gs_in hck)
    have HOI := Lib.hid (own_in hck)
    have HLN : Hid ((cfgB c).length ≤ 140737488355328) := Nat.le_trans (cfgB_len hck) (by omega)
    rw [hck] at hC
    clear hck
    go_enter Tryz.func6, Tryz.ntmps6
    go_wp2_with fail
    refine hC.mono ?_
    rintro e W ⟨rfl, hb1⟩
    simp only [errC]
    have HBW := Lib.hid (HW0.out.trans (hb1.mono HW0.out.size))
    have HK := Lib.hid (HK0.out.below hb1 HK0.out.lt)
    have hbsz := HBW.out.size
    clear hb1 HK0 HW0 hC
    go_wp2_with fail
    go_loopw [5, 6] (fun o i wr => ∃ (k : Nat) (A' : Option Addr) (c' : Nat), k ≤ 4 ∧ i = .int .i64 k ∧ o = .slice A' k c' ∧ Hid (wr.ownsRow W.heap.size 3 1 (.slice A' k c') k (ints (c.o.list.take k))) ∧ Hid (Below W.heap.size W wr)) (fun _ i _ => 4 - (intOf i).toNat)
    case atStart => exact ⟨0, none, 0, Nat.zero_le _, rfl, rfl, World.ownsRow_nil _ _ _ _, Below.refl _ _⟩
    case round =>
      obtain ⟨k, A', c', hk, rfl, rfl, HO, HB⟩ := hrel
      have hsz := HB.out.size
      by_cases hlt : k < 4
      · have y0 := rblk_own (HK.out.below HB.out HK.out.lt) k hlt
        have HT2 := Lib.hid (ints_own c.o k hlt)
        have hwl : w.heap.size < wr.heap.size := Nat.lt_of_lt_of_le HK.out.lt hsz
        generalize c.o.get k = n at *
        go_wp2_with (at_builtin; refine wpList_append_own _ rfl _ _ 22 rfl W.heap.size 3 i0 _ 1 8 Tryz.underlying22 hi0 hz0 hz1 hz2 rfl (by omega) _ _ _ rfl (HO.out.alloc _) ⟨wr.heap.size, 0, none⟩ 1 1 [.int .i64 n] rfl rfl (news_box (cs := #[.int .i64 n]) rfl) (by simp [Value.oneCell']) (by show _ ≤ 9223372036854775807; omega) (by omega) (by simp; omega) ?_; intro v' w6 hown' hgrow _; obtain ⟨g', cap', rfl⟩ := ownsRow_succ hown')
        refine ⟨⟨k + 1, some ⟨g', 0, none⟩, cap', by omega, by simp, rfl, ?_, ?_⟩, by simp [intOf]; omega⟩
        · unfold Hid
          rw [HT2.out]
          exact hown'
        · exact HB.out.trans ((((Below.refl W.heap.size wr).alloc hsz _)).grown hgrow (by simp; omega) (fun g e => (HO.out.lt g e).1))
      · obtain rfl : k = 4 := by omega
        have HB2 := Lib.hid (HBW.out.trans (HB.out.mono hbsz))
        have HK2 := Lib.hid (HK.out.below HB.out HK.out.lt)
        have hsz2 := HB2.out.size
        have HRW : Hid (∀ w', Below wr.heap.size wr w' → Rd w' wr.heap.size 1 (.slice A c.gs.length cc) c.gs.length (ints c.gs)) := fun w' h => (((HR.out.below HB2.out).more HB2.out.size)).below h
        have HOW : Hid (∀ w', Below wr.heap.size wr w' → Rd w' wr.heap.size 1 (.slice A' 4 c') c.o.list.length (ints c.o.list)) := fun w' h => (show Rd wr wr.heap.size 1 (.slice A' 4 c') c.o.list.length (ints c.o.list) from Rd.of_own HO.out).below h
        have HPK : Hid (packB [wCfg, Lib.itoa c.num, lstB c.gs, lstB c.o.list] = cfgB c) := rfl
        have h63 : c.num ≤ 9223372036854775807 := by omega
        have h64 : -9223372036854775808 ≤ c.num := by omega
        clear HO HB HK HBW HR n0 n1 hsz hbsz
        go_wp2_with fail
        go_region_held3 (fun w' => w'.cell? ⟨w.heap.size, 0, none⟩ = some (.int .i64 c.num) ∧ w'.cell? ⟨w.heap.size, 1, none⟩ = some (.slice A c.gs.length cc))
          ((refine keepc HK2.out ?_; simp only [bl_drew, bl_alloc, bl_refl, *]))
          ((first
            | (go_at_call 23; have hq3 := hbl3; refine Calls.mono (rpack_any _ [wCfg, Lib.itoa c.num, lstB c.gs, lstB c.o.list] _ _ (by simp) (rd_newT w3 [wCfg, Lib.itoa c.num, lstB c.gs, lstB c.o.list] _ rfl 4 rfl) (by simp) HLN.out) ?_; rintro e w4 ⟨rfl, hb4⟩; have hbl4 : Below wr.heap.size wr w4 := below_then (below_al hbl3 _) hb4; rw [HPK.out])
            | (go_at_call 25; have hq2 := hbl2; refine Calls.mono (rlist_any (.slice A' 4 c') c.o.list _ wr.heap.size hbl2.size (HOW.out _ hbl2) (by simp [Own.list]) HOI.out) ?_; rintro e w3 ⟨rfl, hb3⟩; have hbl3 : Below wr.heap.size wr w3 := below_then hbl2 hb3)
            | (go_at_call 25; have hq1 := hbl1; refine Calls.mono (rlist_any (.slice A c.gs.length cc) c.gs _ wr.heap.size hbl1.size (HRW.out _ hbl1) hm HGI.out) ?_; rintro e w2 ⟨rfl, hb2⟩; have hbl2 : Below wr.heap.size wr w2 := below_then hbl1 hb2)
            | (go_at_call 24; refine Calls.mono (rnum_any c.num h64 h63 _) ?_; rintro e w1 ⟨rfl, hb1⟩; have hbl1 : Below wr.heap.size wr w1 := below_then (by simp only [bl_drew, bl_refl]) hb1)))
        all_goals
          go_wp2
          go_ret2
          exact ⟨by rw [HT.out]; rfl, HB2.out.trans (hbl4.mono hsz2)⟩

end Go.Proofs.YtioikihehjacgaaGreatDoor
