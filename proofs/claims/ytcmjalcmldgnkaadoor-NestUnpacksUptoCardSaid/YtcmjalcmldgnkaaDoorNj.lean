/- How deep lists stand in a text. -/
import Derived.Test.YtcmjalcmldgnkaaDoorNi
import Derived.Test.YtcmjalcmldgnkaaDoorNc
set_option linter.unusedVariables false
set_option linter.unusedSimpArgs false
set_option linter.unnecessarySimpa false
namespace Go.Proofs.YtcmjalcmldgnkaaDoor
open Go.RowKit Go.Shelf
attribute [local go_sem] Oper.semAt_some

def foldD (pre : List (Bs × Bool)) : Int := (pre.map (·.1)).foldl (fun d t => maxI d (1 + deepB t)) 0
theorem foldD_snoc (pre : List (Bs × Bool)) (t : Bs) : foldD (pre ++ [(t, false)]) = maxI (foldD pre) (1 + deepB t) := by simp [foldD]
/-- Between two rounds of Deep. -/
structure MidD (w : World) (pre : List (Bs × Bool)) (W : World) : Prop where
  ok : pre.all (fun x => !x.2) = true
  r : Blk W w.heap.size 3 #[.int .i64 0]
  d : Blk W (w.heap.size + 1) 3 #[.int .i64 (foldD pre)]
  below : Below w.heap.size w W
  size : w.heap.size + 3 ≤ W.heap.size
structure EndD (w : World) (c : Code) (pre : List (Bs × Bool)) (W : World) : Prop where
  ret : c = .ret
  bad : pre.all (fun x => !x.2) = false
  r : Blk W w.heap.size 3 #[.int .i64 0]
  below : Below w.heap.size w W
theorem midD_stands (w : World) (B : Nat) (hB : w.heap.size ≤ B) : StandsCell B (w.heap.size + 1 + 1) (MidD w) := by
  intro s A C h hc
  exact ⟨h.ok, blk_stands (by omega) h.r hc, blk_stands (by omega) h.d hc, below_stands (by omega) hB h.below hc (Nat.le_refl _), Nat.le_trans h.size hc.size⟩
theorem endD_stands (w : World) (B : Nat) (hB : w.heap.size ≤ B) (c : Code) : StandsCell B (w.heap.size + 1 + 1) (EndD w c) := by
  intro s A C h hc
  exact ⟨h.ret, h.bad, blk_stands (by omega) h.r hc, below_stands (by omega) hB h.below hc (Nat.le_refl _)⟩

theorem wrap_small (n : Int) (h0 : 0 ≤ n) (h1 : n ≤ 4294967296) : IntKind.i64.wrap n = n := by
  simp [IntKind.wrap, IntKind.bits, IntKind.signed]
  omega

set_option maxHeartbeats 4000000 in
set_option maxRecDepth 100000 in
theorem deep_any : ∀ (m : Nat) (s : Bs), s.length ≤ m → s.length < 4294967281 → ∀ (w : World), Lay w →
    Calls Tryd.prog 23 #[.string ⟨s.toArray⟩] w fun e w' => e = .returned (.int .i64 (deepB s)) ∧ Below w.heap.size w w' := by
  intro m
  induction m using Nat.strongRecOn with
  | ind m ih =>
  intro s hsm hs w hl
  have IH : ∀ t : Bs, t.length < s.length → ∀ W : World, Lay W → Calls Tryd.prog 23 #[.string ⟨t.toArray⟩] W fun e w' => e = .returned (.int .i64 (deepB t)) ∧ Below W.heap.size W w' :=
    fun t ht W hW => ih t.length (by omega) t (Nat.le_refl _) (by omega) W hW
  clear ih
  refine (callsIn_wide (n := 5)).1 ?_
  refine callsIn_of_wp_marks Tryd.func23 rfl trivial ?_ rfl
  simp only [Tryd.ntmps23, List.size_toArray, List.length_cons, List.length_nil, Nat.reduceAdd, Nat.reduceSub, Array.replicate_succ, Array.replicate_zero, List.push_toArray, List.append_toArray, List.nil_append, List.cons_append]
  gi_wp2_with fail
  refine ⟨trivial, ?_⟩
  refine (texts_in _ s _).mono ?_
  rintro e w1 ⟨rfl, rfl⟩
  gi_wp2
  have r0 := ((Blk.new w 3 #[.int .i64 0]).alloc (.cells #[.int .i64 0] 3)).alloc (.cells #[.string ⟨s.toArray⟩] 9)
  have r1 := (Blk.new (w.alloc (.cells #[.int .i64 0] 3)) 3 #[.int .i64 0]).alloc (.cells #[.string ⟨s.toArray⟩] 9)
  have r2 := Blk.new ((w.alloc (.cells #[.int .i64 0] 3)).alloc (.cells #[.int .i64 0] 3)) 9 #[.string ⟨s.toArray⟩]
  have hB0 : Below w.heap.size w (((w.alloc (.cells #[.int .i64 0] 3)).alloc (.cells #[.int .i64 0] 3)).alloc (.cells #[.string ⟨s.toArray⟩] 9)) := (((Below.refl _ w).alloc (Nat.le_refl _) _).alloc (by simp) _).alloc (by simp; omega) _
  have hz0 : (((w.alloc (.cells #[.int .i64 0] 3)).alloc (.cells #[.int .i64 0] 3)).alloc (.cells #[.string ⟨s.toArray⟩] 9)).heap.size = w.heap.size + 3 := by simp
  simp only [World.size_alloc] at r1 r2
  generalize (((w.alloc (.cells #[.int .i64 0] 3)).alloc (.cells #[.int .i64 0] 3)).alloc (.cells #[.string ⟨s.toArray⟩] 9)) = w0 at r0 r1 r2 hB0 hz0 ⊢
  have hl0 : Lay w0 := hl.later hB0
  have HTr : Hid (∀ x ∈ traceB s, x.2 = false → x.1.length < s.length) := fun x hx hb => ((trace_shorter s.length s (Nat.le_refl _)).2 x hx).2 hb
  have HUn : Hid (unpackO s = if (traceB s).all (fun x => !x.2) then some ((traceB s).map (·.1)) else none) := unpack_trace s.length s (Nat.le_refl _)
  refine wpIn_rangeFunc_cell (f0 := none) rfl (by omega) (gf := 33) (lb := #[.pointer (some ⟨w.heap.size + 1 + 1, 0, none⟩)]) rfl trivial (enters_of Tryd.func33 (by kernel_rfl) rfl) rfl
    (n₀ := w.heap.size) (bs := w.heap.size + 1 + 1) (w0 := w0) (by omega) (by omega)
    (texts_seq _ w.heap.size (by omega) hl.low s hs (w.heap.size + 1 + 1) w0 hl0 r2 (hl.far (by omega)) (by omega)) (Below.refl _ _) (fun _ => rfl)
    (MidD w) (EndD w) (midD_stands w _ (by omega)) (endD_stands w _ (by omega)) ⟨rfl, r0, r1, hB0, by omega⟩
    (fun x => { tmps := #[.string ⟨s.toArray⟩, undef, .pointer (some ⟨w.heap.size, 0, none⟩), .pointer (some ⟨w.heap.size + 1, 0, none⟩), .string ⟨x.1.toArray⟩, .int .i64 (if x.2 then 4 else 0),
      .string ⟨s.toArray⟩, .func (.func 33) #[] #[.pointer (some ⟨w.heap.size + 1 + 1, 0, none⟩)], .string ⟨x.1.toArray⟩, .int .i64 (if x.2 then 4 else 0), undef, undef, undef, undef, undef, undef, undef, undef], defers := [] }) ?assign ?body ?done ?stop
  case assign =>
    intro l x W K hK
    simp only [encT]
    generalize (if x.2 = true then (4 : Int) else 0) = e at hK ⊢
    gi_wp2
    exact hK
  case body =>
    rintro l pre ⟨t, b⟩ W hpx hI
    cases b with
    | false =>
      have ht : t.length < s.length := HTr.out (t, false) (hpx.subset (by simp)) rfl
      have hlW : Lay W := hl.keep hI.below hl.low
      have hc := hI.d.cell 0
      have hf := hI.d.frozen 0
      have hn0 := deep_nonneg t
      have hn1 := deep_bound t.length t (Nat.le_refl _)
      simp only [if_neg Bool.false_ne_true]
      have hmix : Tryd.prog.follows .mixedOrders = true := by kernel_rfl
      gi_wp2
      gi_region_with_o (refine ⟨trivial, ?_⟩; refine (CallsIn.inRound l (callsIn_wide.2 (IH t ht W.drew hlW.drew))).mono ?_; rintro e w1 ⟨rfl, hb1⟩; have hd1 : Blk w1 (w.heap.size + 1) 3 #[.int .i64 (foldD pre)] := Blk.below (w := W.drew) hI.d hb1 hI.d.lt; have hc1 := hd1.cell 0; have hf1 := hd1.frozen 0)
      all_goals
        have hw : IntKind.i64.wrap (1 + deepB t) = 1 + deepB t := wrap_small _ (by omega) (by omega)
        rw [hw]
        have hmx : max (foldD pre) (1 + deepB t) = foldD (pre ++ [(t, false)]) := by rw [foldD_snoc]; unfold maxI; split <;> omega
        rw [hmx]
        have hb2 : Below W.heap.size W w1 := ⟨hb1.os, hb1.tape, hb1.output, hb1.size, hb1.block⟩
        have hC2 : Chg (fun k => k = w.heap.size + 1) W (w1.setCell ⟨w.heap.size + 1, 0, none⟩ (.int .i64 (foldD (pre ++ [(t, false)])))) :=
          ((Chg.refl (fun k => k = w.heap.size + 1) W).below hb2).setCell (p := ⟨w.heap.size + 1, 0, none⟩) (fun _ => rfl) _
        refine ⟨keeps_chg hC2 ?_, ⟨hC2.to_below (fun i hi h => by omega) hI.below.size, hC2.block _ (by have := hI.size; omega) (by omega)⟩,
          by rw [List.all_append, hI.ok]; rfl, blk_chg hI.r hC2 (by omega), hd1.set_ 0 _, hI.below.trans (hC2.to_below (fun i hi h => by omega) hI.below.size), Nat.le_trans hI.size hC2.size⟩
        rintro k rfl o ho
        rw [show W.heap[w.heap.size + 1]? = _ from hI.d] at ho
        cases ho
        rfl
    | true =>
      have hc := hI.r.cell 0
      have hfz := hI.r.frozen 0
      simp only [if_true]
      gi_wp2
      have hC2 : Chg (fun k => k = w.heap.size) W (W.setCell ⟨w.heap.size, 0, none⟩ (.int .i64 0)) :=
        (Chg.refl (fun k => k = w.heap.size) W).setCell (p := ⟨w.heap.size, 0, none⟩) (fun _ => rfl) _
      refine ⟨keeps_chg hC2 ?_, rfl, by simp, (hI.r.set_ 0 _), hI.below.trans (hC2.to_below (fun i hi h => by omega) hI.below.size)⟩
      rintro k rfl o ho
      rw [show W.heap[w.heap.size]? = _ from hI.r] at ho
      cases ho
      rfl
  case done =>
    rintro D W hD hI hK
    have hc := hI.d.cell 0
    have hc1 := hI.r.cell 0
    have hf1 := hI.r.frozen 0
    have hUn : Hid (deepB s = foldD (traceB s)) := by unfold Hid foldD; rw [deep_is, HUn.out, if_pos hI.ok]
    clear HTr HUn IH
    gi_wp2
    have hC2 : Chg (fun k => k = w.heap.size) W (W.setCell ⟨w.heap.size, 0, none⟩ (.int .i64 (foldD (traceB s)))) :=
      (Chg.refl (fun k => k = w.heap.size) W).setCell (p := ⟨w.heap.size, 0, none⟩) (fun _ => rfl) _
    have hr5 := hI.r.set_ 0 (.int .i64 (foldD (traceB s)))
    have hK' := (hC2.block D (Array.getElem?_eq_some_iff.1 hK).1 (by omega)).trans hK
    have hbw := hI.below.trans (hC2.to_below (B := w.heap.size) (fun i hi h => by omega) hI.below.size)
    refine ⟨by simp, .inl ⟨_, _, rfl, run_takeDeferred hK', ?_⟩⟩
    generalize W.setCell ⟨w.heap.size, 0, none⟩ (.int .i64 (foldD (traceB s))) = W5 at hr5 hK' hbw ⊢
    have hr6 : Blk (W5.putObj D (.deferred none)) w.heap.size 3 _ := (World.putObj_heap_other (by omega)).trans hr5
    have z1 := hr6.cell 0
    refine ⟨.int .i64 (foldD (traceB s)), ?_, by rw [hUn.out], ?_⟩
    · simp [results, Tryd.results23, go_sem, z1]
    · exact hbw.trans (belowK_b (w := w) (Nat.le_refl _) W5 D _ _ (by omega) hK' rfl rfl)
  case stop =>
    rintro D c pre W hD hpre hE hK
    have hUn : Hid (deepB s = 0) := by
      unfold Hid
      obtain ⟨suf, hsuf⟩ := hpre
      rw [deep_is, HUn.out, if_neg]
      rw [← hsuf, List.all_append, hE.bad]
      simp
    have hr6 : Blk (W.putObj D (.deferred none)) w.heap.size 3 _ := (World.putObj_heap_other (by omega)).trans hE.r
    have z1 := hr6.cell 0
    have hb := hE.below
    obtain rfl := hE.ret
    clear HTr HUn hE hpre IH
    gi_wp2
    refine ⟨by simp, .inl ⟨_, _, rfl, run_takeDeferred hK, ?_⟩⟩
    refine ⟨.int .i64 0, ?_, by rw [hUn.out], ?_⟩
    · simp [results, Tryd.results23, go_sem, z1]
    · exact hb.trans (belowK_b (w := w) (Nat.le_refl _) W D _ _ (by omega) hK rfl rfl)

end Go.Proofs.YtcmjalcmldgnkaaDoor
