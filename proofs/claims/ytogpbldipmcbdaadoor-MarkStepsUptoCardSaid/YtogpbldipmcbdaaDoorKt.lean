/- MarkSteps: the law's walk. -/
import Derived.Test.YtogpbldipmcbdaaDoorKs
set_option linter.unusedVariables false
set_option linter.unusedSimpArgs false
set_option linter.unnecessarySimpa false
namespace Go.Proofs.YtogpbldipmcbdaaDoor
open Go.RowKit Go.Shelf

theorem mnew_bad (g f : Int) (hb : ¬ ((0 ≤ g ∧ g ≤ 4) ∧ 0 ≤ f ∧ f ≤ 3)) (w : World) :
    Calls Tryd.prog 9 #[.int .i64 g, .int .i64 f] w fun e w' => e = .returned (.tuple #[.pointer none, .int .i64 1]) ∧ w = w' := by
  by_cases hg : 0 ≤ g ∧ g ≤ 4
  · obtain ⟨h1, h2⟩ := hg
    by_cases h0 : 0 ≤ f
    · have h3 : 3 < f := by omega
      clear hb
      go_enter Tryd.func9, Tryd.ntmps9
      go_wp2_with (go_at_call 25; refine (grouped_yes g h1 h2 _).mono ?_; rintro e w' ⟨rfl, rfl⟩)
      go_ret2
      exact ⟨rfl, rfl⟩
    · clear hb
      go_enter Tryd.func9, Tryd.ntmps9
      go_wp2_with (go_at_call 25; refine (grouped_yes g h1 h2 _).mono ?_; rintro e w' ⟨rfl, rfl⟩)
      go_ret2
      exact ⟨rfl, rfl⟩
  · clear hb
    go_enter Tryd.func9, Tryd.ntmps9
    go_wp2_with (go_at_call 25; refine (grouped_no g hg _).mono ?_; rintro e w' ⟨rfl, rfl⟩)
    go_ret2
    exact ⟨rfl, rfl⟩

def r0 (g f : Int) : RMk := ⟨g, f, [], 0, 0, [], ⟨[], 0, []⟩⟩
theorem same0 (g f : Int) : SameM (m0 g f) (r0 g f) :=
  ⟨rfl, rfl, ⟨fun k hk => by simp [m0, r0], fun v hv => by simp [r0] at hv, fun v hv => by simp [r0] at hv⟩, rfl, rfl, rfl⟩
theorem rvote_len (r : RMk) (v : RVot) : (rvoteS r v).m.l.length ≤ r.l.length + 1 := by
  have h := List.length_filter_le (fun x : RVot => x.no != v.no) r.l
  unfold rvoteS
  repeat' split
  all_goals simp only [List.length_append, List.length_cons, List.length_nil]
  all_goals omega
theorem radopt_len (r : RMk) (c : Crt) : (radoptS r c).m.l.length = r.l.length := by
  unfold radoptS
  repeat' split
  all_goals rfl
theorem vote_tags {m : Mks} (h : m.c.tags.length ≤ 1048576) (hv : m.vs.length ≤ 10) (no n : Int) (s t : Bs) : (voteS m no n s t).m.c.tags.length ≤ 1048576 := by
  rcases vote_cases m no n s t with ⟨_, _, e3, _⟩ | ⟨_, _, _, _, _, e3⟩
  · rw [e3]; exact h
  · rw [e3]
    have := pickV_len n s (m.vs.set no.toNat ⟨n, s, t⟩) 0
    simp only [List.length_set] at this
    simp only
    omega
theorem adopt_tags {m : Mks} (h : m.c.tags.length ≤ 1048576) (c : Crt) (hc : c.tags.length ≤ 1048576) : (adoptS m c).m.c.tags.length ≤ 1048576 := by
  unfold adoptS
  repeat' split
  · exact h
  · exact hc
  · exact h
/-- What stands in both marks, step by step. -/
structure StpsI (wc : World) (B V R k : Nat) (m : Mks) (r : RMk) : Prop where
  mm : MkAt wc B V m
  rk : RMkAt wc R r
  sm : SameM m r
  tg : m.c.tags.length ≤ 1048576
  ln : r.l.length ≤ k
theorem StpsI.below {w w' : World} {B V R k : Nat} {m : Mks} {r : RMk} (h : StpsI w B V R k m r) (hb : Below w.heap.size w w') : StpsI w' B V R k m r :=
  ⟨h.mm.below hb, h.rk.below hb, h.sm, h.tg, h.ln⟩
theorem StpsI.more {w : World} {B V R k k' : Nat} {m : Mks} {r : RMk} (h : StpsI w B V R k m r) (hk : k ≤ k') : StpsI w B V R k' m r :=
  ⟨h.mm, h.rk, h.sm, h.tg, Nat.le_trans h.ln hk⟩
theorem keep9 {w : World} {X R St : Nat} {a0 a1 a2 r4 r5 r6 r7 r8 s1 q0 q1 q2 q3 q4 q5 q6 q7 q8 q9 q10 : Value} {tx tr ts : TypeId} (h1 : Blk w X tx #[a0, a1, a2]) (h2 : Blk w R tr #[q0, q1, q2, q3, r4, r5, r6, r7, r8]) (h3 : Blk w St ts #[q4, s1, q5, q6, q7, q8, q9, q10]) :
    w.cell? ⟨X, 0, none⟩ = some a0 ∧ w.cell? ⟨X, 1, none⟩ = some a1 ∧ w.cell? ⟨X, 2, none⟩ = some a2 ∧ w.cell? ⟨R, 4, none⟩ = some r4 ∧ w.cell? ⟨R, 5, none⟩ = some r5 ∧ w.cell? ⟨R, 6, none⟩ = some r6 ∧ w.cell? ⟨R, 7, none⟩ = some r7 ∧ w.cell? ⟨R, 8, none⟩ = some r8 ∧ w.cell? ⟨St, 1, none⟩ = some s1 :=
  ⟨h1.cell 0, h1.cell 1, h1.cell 2, h2.cell 4, h2.cell 5, h2.cell 6, h2.cell 7, h2.cell 8, h3.cell 1⟩

theorem belowThen {W a b : World} (h : Below W.heap.size W a) (k : Below a.heap.size a b) : Below W.heap.size W b := h.trans (k.mono h.size)

set_option maxHeartbeats 16000000 in
set_option maxRecDepth 100000 in
theorem msteps_law (g f : Int) (v : Value) (l : List StpM) (w : World) (hl : Lay w) (hr : Rd w w.heap.size 8 v l.length (l.flatMap StpM.cells)) (hm : l.length ≤ 1048576) (hg : ∀ o ∈ l, o.Ok w) :
    Calls Tryd.prog 6 #[.int .i64 g, .int .i64 f, v] w fun e w' => e = .returned (.bool true) ∧ Below w.heap.size w w' := by
  have HR : Hid (Rd w w.heap.size 8 v l.length (l.flatMap StpM.cells)) := hr
  obtain ⟨_, A, c, rfl, _, _⟩ := hr
  by_cases hgf : (0 ≤ g ∧ g ≤ 4) ∧ 0 ≤ f ∧ f ≤ 3
  · have hrt := fun wx => rright_any g f wx
    rw [decide_eq_true hgf] at hrt
    have HRT := Lib.hid hrt
    clear hrt
    by_cases hbig : 100 < l.length
    · go_enter Tryd.func6, Tryd.ntmps6
      go_wp2_with fail
      refine (mnew_ok g f hgf.1 hgf.2 _).mono ?_
      rintro e w1 ⟨rfl, hM, hb1⟩
      go_wp2_with fail
      refine (HRT.out _).mono ?_
      rintro e w' ⟨rfl, rfl⟩
      go_wp2_with fail
      refine (one_any _ (hl.later hb1)).mono ?_
      rintro e w2 ⟨rfl, hb2⟩
      go_wp2
      go_ret
      exact ⟨rfl, hb1.trans (hb2.mono hb1.size)⟩
    · go_enter Tryd.func6, Tryd.ntmps6
      go_wp2_with fail
      refine (mnew_ok g f hgf.1 hgf.2 _).mono ?_
      rintro e w1 ⟨rfl, hM, hb1⟩
      go_wp2_with fail
      refine (HRT.out _).mono ?_
      rintro e w' ⟨rfl, rfl⟩
      have hbY := below_alloc1 w1 (.cells #[.int .i64 g, .int .i64 f, .slice none 0 0, .int .i64 0, .int .i64 0, .string ⟨#[]⟩, .string ⟨#[]⟩, .int .i64 0, .slice none 0 0] 62)
      have hI0 : StpsI (w1.alloc (.cells #[.int .i64 g, .int .i64 f, .slice none 0 0, .int .i64 0, .int .i64 0, .string ⟨#[]⟩, .string ⟨#[]⟩, .int .i64 0, .slice none 0 0] 62)) (w.heap.size + 1) w.heap.size w1.heap.size 0 (m0 g f) (r0 g f) :=
        ⟨hM.below hbY, ⟨⟨none, 0, none, 0, Blk.new _ _ _, World.ownsRow_nil _ _ _ _, World.ownsRow_nil _ _ _ _⟩, hgf.2⟩, same0 g f, by simp [m0], by simp [r0]⟩
      have HI0 := Lib.hid hI0
      have HB0 := Lib.hid (hb1.trans (hbY.mono hb1.size))
      have hw1 := hb1.size
      have hM1 : w.heap.size + 1 < w1.heap.size := by obtain ⟨_, _, hh, _⟩ := hM.own; exact hh.lt
      clear hI0 hM hbY hb1
      go_wp2_with fail
      generalize w1.heap.size = R at *
      go_loopw [56] (fun i wr => ∃ (k : Nat) (m : Mks) (r : RMk), k ≤ l.length ∧ i = .int .i64 k ∧ Hid (StpsI wr (w.heap.size + 1) w.heap.size R k m r) ∧ Hid (Below w.heap.size w wr)) (fun i _ => l.length - (intOf i).toNat)
      case atStart => exact ⟨0, _, _, Nat.zero_le _, rfl, HI0, HB0⟩
      case round =>
        obtain ⟨k, m, r, hk, rfl, HI, HB⟩ := hrel
        clear HI0 HB0
        by_cases hlt : k < l.length
        · obtain ⟨gg, off, cap, hV, hgl, hcs⟩ := rd_stpm (HR.out.below HB.out) hlt
          injection hV with hA _ hcc
          subst hA
          clear hcc
          have hok0 := hg l[k] (List.getElem_mem hlt)
          have hok := hok0.below HB.out
          generalize l[k] = o at *
          obtain ⟨what, no, n, s, t, ⟨ct, cg, tags, At, capt⟩⟩ := o
          have c0 : wr.cell? ⟨gg, off + (k * 8 + 0), none⟩ = some (.int .i64 what) := hcs 0 (by omega)
          have c1 : wr.cell? ⟨gg, off + (k * 8 + 1), none⟩ = some (.int .i64 no) := hcs 1 (by omega)
          have c2 : wr.cell? ⟨gg, off + (k * 8 + 2), none⟩ = some (.int .i64 n) := hcs 2 (by omega)
          have c3 : wr.cell? ⟨gg, off + (k * 8 + 3), none⟩ = some (.string ⟨s.toArray⟩) := hcs 3 (by omega)
          have c4 : wr.cell? ⟨gg, off + (k * 8 + 4), none⟩ = some (.string ⟨t.toArray⟩) := hcs 4 (by omega)
          have c5 : wr.cell? ⟨gg, off + (k * 8 + 5), none⟩ = some (.string ⟨ct.toArray⟩) := hcs 5 (by omega)
          have c6 : wr.cell? ⟨gg, off + (k * 8 + 6), none⟩ = some (.int .i64 cg) := hcs 6 (by omega)
          have c7 : wr.cell? ⟨gg, off + (k * 8 + 7), none⟩ = some (.slice At tags.length capt) := hcs 7 (by omega)
          clear hcs
          simp only [Nat.add_zero, ← Nat.add_assoc] at c0 c1 c2 c3 c4 c5 c6 c7
          have HOK := Lib.hid hok
          have HOK0 := Lib.hid hok0
          have hSR : R < wr.heap.size := HI.out.rk.lt
          clear hok hok0
          go_upto_region 10 with (fail)
          have hbX : Below wr.heap.size wr (wr.alloc (.cells #[.int .i64 what, .int .i64 no, .int .i64 n, .string ⟨s.toArray⟩, .string ⟨t.toArray⟩, .string ⟨ct.toArray⟩, .int .i64 cg, .slice At tags.length capt] 52)) := below_alloc1 wr _
          have hST := Lib.hid (Blk.new wr 52 #[.int .i64 what, .int .i64 no, .int .i64 n, .string ⟨s.toArray⟩, .string ⟨t.toArray⟩, .string ⟨ct.toArray⟩, .int .i64 cg, .slice At tags.length capt])
          replace HI := Lib.hid (HI.out.below hbX)
          replace HB := Lib.hid (HB.out.trans (hbX.mono HB.out.size))
          replace HOK := Lib.hid (HOK.out.below hbX)
          clear c0 c1 c2 c3 c4 c5 c6 c7 hbX
          generalize wr.alloc (.cells #[.int .i64 what, .int .i64 no, .int .i64 n, .string ⟨s.toArray⟩, .string ⟨t.toArray⟩, .string ⟨ct.toArray⟩, .int .i64 cg, .slice At tags.length capt] 52) = W at *
          generalize wr.heap.size = ST at *
          have s0 : W.cell? ⟨ST, 0, none⟩ = some (.int .i64 what) := hST.out.cell 0
          have s1 : W.cell? ⟨ST, 1, none⟩ = some (.int .i64 no) := hST.out.cell 1
          have s2 : W.cell? ⟨ST, 2, none⟩ = some (.int .i64 n) := hST.out.cell 2
          have s3 : W.cell? ⟨ST, 3, none⟩ = some (.string ⟨s.toArray⟩) := hST.out.cell 3
          have s4 : W.cell? ⟨ST, 4, none⟩ = some (.string ⟨t.toArray⟩) := hST.out.cell 4
          have s5 : W.cell? ⟨ST, 5, none⟩ = some (.string ⟨ct.toArray⟩) := hST.out.cell 5
          have s6 : W.cell? ⟨ST, 6, none⟩ = some (.int .i64 cg) := hST.out.cell 6
          have s7 : W.cell? ⟨ST, 7, none⟩ = some (.slice At tags.length capt) := hST.out.cell 7
          have hsl := HOK.out.s
          have htl := HOK.out.t
          simp only at hsl htl
          by_cases hskip : 30 < tags.length ∨ 40000 < ct.length ∨ 40000 < s.length
          · have hskip' : 30 < tags.length ∨ (tags.length ≤ 30 ∧ 40000 < ct.length) ∨ (tags.length ≤ 30 ∧ ct.length ≤ 40000 ∧ 40000 < s.length) := by omega
            clear hskip
            rcases hskip' with h1 | ⟨h1, h2⟩ | ⟨h1, h2, h3⟩
            all_goals
              go_wp2_with fail
              exact ⟨⟨k + 1, m, r, by omega, by simp, HI.out.more (by omega), HB⟩, by simp [intOf]; omega⟩
          · have k1 : tags.length ≤ 30 := by omega
            have k2 : ct.length ≤ 40000 := by omega
            have k3 : s.length ≤ 40000 := by omega
            clear hskip
            have hvl : m.vs.length ≤ 10 := by have := HI.out.mm.ok.2.2.2.1; have := HI.out.mm.ok.2.2.2.2; omega
            have hw : what = 0 ∨ what = 1 ∨ what = 2 ∨ (¬ what = 0 ∧ ¬ what = 1 ∧ ¬ what = 2) := by omega
            rcases hw with rfl | rfl | rfl | ⟨e0, e1, e2⟩
            all_goals go_wp2_with fail
            · refine (mvote_any _ _ m no n s t (by omega) (by omega) _ (hl.later HB.out) HI.out.mm).mono ?_
              rintro e w2 ⟨rfl, hM2, hc2⟩
              have hB2 := HB.out.trans (hc2.to_below (fun i hi e => by omega) HB.out.size)
              have hR2 := HI.out.rk.chg hc2 (mk_apartR HI.out.mm) (by omega)
              have hS2 := hST.out.chg hc2 (by omega)
              obtain ⟨hsm1, hsm2, hsm3⟩ := vote_same HI.out.sm HI.out.mm.ok.2.2.2.2 no n s t
              have htg := vote_tags HI.out.tg hvl no n s t
              have hln := rvote_len r ⟨no, n, s, t⟩
              have hrl := HI.out.ln
              clear s0 s1 s2 s3 s4 s5 s6 s7
              have q1 : w2.cell? ⟨ST, 1, none⟩ = some (.int .i64 no) := hS2.cell 1
              have q2 : w2.cell? ⟨ST, 2, none⟩ = some (.int .i64 n) := hS2.cell 2
              have q3 : w2.cell? ⟨ST, 3, none⟩ = some (.string ⟨s.toArray⟩) := hS2.cell 3
              have q4 : w2.cell? ⟨ST, 4, none⟩ = some (.string ⟨t.toArray⟩) := hS2.cell 4
              have HR2 := Lib.hid hR2
              have HM2 := Lib.hid hM2
              have HS2 := Lib.hid hS2
              have HB2 := Lib.hid hB2
              clear hR2 hM2 hS2 hB2 hc2
              have HV : Hid (∀ wx, RMkAt wx R r → Calls Tryd.prog 19 #[.pointer (some ⟨R, 0, none⟩), .agg #[.int .i64 no, .int .i64 n, .string ⟨s.toArray⟩, .string ⟨t.toArray⟩]] wx fun e w' =>
                e = .returned (.tuple #[.bool (voteS m no n s t).ok, .int .i64 (voteS m no n s t).e]) ∧ RMkAt w' R (rvoteS r ⟨no, n, s, t⟩).m ∧ Chg (fun k => k = R) wx w') := by
                intro wx hx
                rw [← hsm2, ← hsm3]
                exact rvote_any R r no n s t (by omega) (by omega) wx hx (by omega)
              have HSM := Lib.hid hsm1
              clear hsm1 hsm2 hsm3
              generalize voteS m no n s t = vr at *
              generalize rvoteS r ⟨no, n, s, t⟩ = rr at *
              obtain ⟨m', ok', e'⟩ := vr
              obtain ⟨r', rok, re⟩ := rr
              simp only at HV HSM HM2 htg hln ⊢
              go_wp2_with fail
              refine (HV.out _ HR2.out).mono ?_
              rintro e wc ⟨rfl, hR3, hc3⟩
              have HB3 := Lib.hid (HB2.out.trans (hc3.to_below (fun i hi e => by omega) HB2.out.size))
              have HS3 := Lib.hid (HS2.out.chg hc3 (by omega))
              have HI3 : Hid (StpsI wc (w.heap.size + 1) w.heap.size R (k + 1) m' r') := ⟨HM2.out.chg hc3 (rmk_apart HR2.out) (by omega) (by omega), hR3, HSM.out, htg, by omega⟩
              clear hR3 hc3 HV HM2 HB2 HR2 HS2 q1 q2 q3 q4 HI HB hST HSM
              go_wp2_with fail
              refine (mstable_any _ _ m' _ HI3.out.mm HI3.out.tg).mono ?_
              rintro e w4 ⟨A4, c4', rfl, hown4, hb4⟩
              have hI4 := HI3.out.below hb4
              have hS4 := HS3.out.below hb4 HS3.out.lt
              have hB4 := HB3.out.trans (hb4.mono HB3.out.size)
              have hbX := below_alloc1 w4 (.cells #[.string ⟨m'.c.t.toArray⟩, .int .i64 m'.c.g, .slice A4 m'.c.tags.length c4'] 35)
              have HI5 := Lib.hid (hI4.below hbX)
              have HS5 := Lib.hid (hS4.below hbX hS4.lt)
              have HB5 := Lib.hid (hB4.trans (hbX.mono hB4.size))
              have HX5 := Lib.hid (Blk.new w4 35 #[.string ⟨m'.c.t.toArray⟩, .int .i64 m'.c.g, .slice A4 m'.c.tags.length c4'])
              have HO5 := Lib.hid (hown4.alloc (.cells #[.string ⟨m'.c.t.toArray⟩, .int .i64 m'.c.g, .slice A4 m'.c.tags.length c4'] 35))
              clear hI4 hS4 hB4 hown4 hb4 hbX HI3 HS3 HB3
              go_upto_region 24 with (fail)
              generalize w4.alloc (.cells #[.string ⟨m'.c.t.toArray⟩, .int .i64 m'.c.g, .slice A4 m'.c.tags.length c4'] 35) = W5 at *
              generalize w4.heap.size = X at *
              obtain ⟨A6, c6', A7, c7', h1, h2, h3⟩ := HI5.out.rk.own
              have hsm := HI5.out.sm
              rw [hsm.n, hsm.s, hsm.c] at h1
              rw [hsm.c] at h3
              have hrl5 := HI5.out.ln
              have HXB : Hid (∀ w', Below W5.heap.size W5 w' → Blk w' X 35 #[.string ⟨m'.c.t.toArray⟩, .int .i64 m'.c.g, .slice A4 m'.c.tags.length c4']) := fun w' h => HX5.out.below h HX5.out.lt
              have HRB : Hid (∀ w', Below W5.heap.size W5 w' → Blk w' R 62 _) := fun w' h => h1.below h h1.lt
              have HSB : Hid (∀ w', Below W5.heap.size W5 w' → Blk w' ST 52 _) := fun w' h => HS5.out.below h HS5.out.lt
              have HR1 : Hid (∀ w', Below W5.heap.size W5 w' → Rd w' w'.heap.size 2 (.slice A4 m'.c.tags.length c4') m'.c.tags.length (cellsT m'.c.tags)) := fun w' h => ((Rd.of_own HO5.out).below h).more h.size
              have HR2 : Hid (∀ w', Below W5.heap.size W5 w' → Rd w' w'.heap.size 2 (.slice A7 m'.c.tags.length c7') m'.c.tags.length (cellsT m'.c.tags)) := fun w' h => ((Rd.of_own h3).below h).more h.size
              have HIB : Hid (∀ w', Below W5.heap.size W5 w' → StpsI w' (w.heap.size + 1) w.heap.size R (k + 1) m' r') := fun w' h => HI5.out.below h
              have HOF : Hid (∀ wx, RMkAt wx R r' → Calls Tryd.prog 24 #[.pointer (some ⟨R, 0, none⟩), .int .i64 no] wx fun e w' => e = .returned (.int .i64 (ofV m'.vs no)) ∧ Below wx.heap.size wx w') := by
                intro wx hx
                rw [← rof_same hsm.v no]
                exact rofm_any R r' no wx hx (by omega)
              have htg5 := HI5.out.tg
              clear h1 h2 h3 hsm HX5 HO5 HS5 HI5
              go_region_held3 (fun w' => w'.cell? ⟨X, 0, none⟩ = some (.string ⟨m'.c.t.toArray⟩) ∧ w'.cell? ⟨X, 1, none⟩ = some (.int .i64 m'.c.g) ∧ w'.cell? ⟨X, 2, none⟩ = some (.slice A4 m'.c.tags.length c4') ∧ w'.cell? ⟨R, 4, none⟩ = some (.int .i64 m'.n) ∧ w'.cell? ⟨R, 5, none⟩ = some (.string ⟨m'.s.toArray⟩) ∧ w'.cell? ⟨R, 6, none⟩ = some (.string ⟨m'.c.t.toArray⟩) ∧ w'.cell? ⟨R, 7, none⟩ = some (.int .i64 m'.c.g) ∧ w'.cell? ⟨R, 8, none⟩ = some (.slice A7 m'.c.tags.length c7') ∧ w'.cell? ⟨ST, 1, none⟩ = some (.int .i64 no))
                ((refine keep9 (HXB.out _ ?_) (HRB.out _ ?_) (HSB.out _ ?_) <;> (first | (simp only [blw_drew, blw_refl]; done) | with_reducible assumption | (simp only [blw_drew]; with_reducible assumption))))
                (first
                  | (go_at_call 22; refine Calls.mono (lsame_any m'.c.t m'.c.g m'.c.tags A4 A7 c4' c7' _ (HR1.out _ (by (first | (simp only [blw_drew, blw_refl]; done) | with_reducible assumption | (simp only [blw_drew]; with_reducible assumption)))) (HR2.out _ (by (first | (simp only [blw_drew, blw_refl]; done) | with_reducible assumption | (simp only [blw_drew]; with_reducible assumption)))) htg5) ?_; rintro e w6 ⟨rfl, hb6⟩; have hbs : Below W5.heap.size W5 w6 := belowThen (by (first | (simp only [blw_drew, blw_refl]; done) | with_reducible assumption | (simp only [blw_drew]; with_reducible assumption))) hb6)
                  | (go_at_call 23; refine Calls.mono (mof_any (w.heap.size + 1) w.heap.size m' no _ (HIB.out _ (by (first | (simp only [blw_drew, blw_refl]; done) | with_reducible assumption | (simp only [blw_drew]; with_reducible assumption)))).mm) ?_; rintro e wx ⟨rfl, rfl⟩)
                  | (go_at_call 24; refine Calls.mono (HOF.out _ (HIB.out _ (by (first | (simp only [blw_drew, blw_refl]; done) | with_reducible assumption | (simp only [blw_drew]; with_reducible assumption)))).rk) ?_; rintro e w7 ⟨rfl, hb7⟩; have hbt : Below W5.heap.size W5 w7 := belowThen (by (first | (simp only [blw_drew, blw_refl]; done) | with_reducible assumption | (simp only [blw_drew]; with_reducible assumption))) hb7))
              have HFI := Lib.hid (HIB.out _ hbt)
              have HFB := Lib.hid (HB5.out.trans (hbt.mono HB5.out.size))
              go_wp2_with fail
              exact ⟨⟨k + 1, m', r', by omega, by simp, HFI, HFB⟩, by simp [intOf]; omega⟩
            · refine (mvote_any _ _ m no n s t (by omega) (by omega) _ (hl.later HB.out) HI.out.mm).mono ?_
              rintro e w2 ⟨rfl, hM2, hc2⟩
              have hB2 := HB.out.trans (hc2.to_below (fun i hi e => by omega) HB.out.size)
              have hR2 := HI.out.rk.chg hc2 (mk_apartR HI.out.mm) (by omega)
              have hS2 := hST.out.chg hc2 (by omega)
              obtain ⟨hsm1, hsm2, hsm3⟩ := vote_same HI.out.sm HI.out.mm.ok.2.2.2.2 no n s t
              have htg := vote_tags HI.out.tg hvl no n s t
              have hln := rvote_len r ⟨no, n, s, t⟩
              have hrl := HI.out.ln
              clear s0 s1 s2 s3 s4 s5 s6 s7
              have q1 : w2.cell? ⟨ST, 1, none⟩ = some (.int .i64 no) := hS2.cell 1
              have q2 : w2.cell? ⟨ST, 2, none⟩ = some (.int .i64 n) := hS2.cell 2
              have q3 : w2.cell? ⟨ST, 3, none⟩ = some (.string ⟨s.toArray⟩) := hS2.cell 3
              have q4 : w2.cell? ⟨ST, 4, none⟩ = some (.string ⟨t.toArray⟩) := hS2.cell 4
              have HR2 := Lib.hid hR2
              have HM2 := Lib.hid hM2
              have HS2 := Lib.hid hS2
              have HB2 := Lib.hid hB2
              clear hR2 hM2 hS2 hB2 hc2
              have HV : Hid (∀ wx, RMkAt wx R r → Calls Tryd.prog 19 #[.pointer (some ⟨R, 0, none⟩), .agg #[.int .i64 no, .int .i64 n, .string ⟨s.toArray⟩, .string ⟨t.toArray⟩]] wx fun e w' =>
                e = .returned (.tuple #[.bool (voteS m no n s t).ok, .int .i64 (voteS m no n s t).e]) ∧ RMkAt w' R (rvoteS r ⟨no, n, s, t⟩).m ∧ Chg (fun k => k = R) wx w') := by
                intro wx hx
                rw [← hsm2, ← hsm3]
                exact rvote_any R r no n s t (by omega) (by omega) wx hx (by omega)
              have HSM := Lib.hid hsm1
              clear hsm1 hsm2 hsm3
              generalize voteS m no n s t = vr at *
              generalize rvoteS r ⟨no, n, s, t⟩ = rr at *
              obtain ⟨m', ok', e'⟩ := vr
              obtain ⟨r', rok, re⟩ := rr
              simp only at HV HSM HM2 htg hln ⊢
              go_wp2_with fail
              refine (HV.out _ HR2.out).mono ?_
              rintro e wc ⟨rfl, hR3, hc3⟩
              have HB3 := Lib.hid (HB2.out.trans (hc3.to_below (fun i hi e => by omega) HB2.out.size))
              have HS3 := Lib.hid (HS2.out.chg hc3 (by omega))
              have HI3 : Hid (StpsI wc (w.heap.size + 1) w.heap.size R (k + 1) m' r') := ⟨HM2.out.chg hc3 (rmk_apart HR2.out) (by omega) (by omega), hR3, HSM.out, htg, by omega⟩
              clear hR3 hc3 HV HM2 HB2 HR2 HS2 q1 q2 q3 q4 HI HB hST HSM
              go_wp2_with fail
              refine (mstable_any _ _ m' _ HI3.out.mm HI3.out.tg).mono ?_
              rintro e w4 ⟨A4, c4', rfl, hown4, hb4⟩
              have hI4 := HI3.out.below hb4
              have hS4 := HS3.out.below hb4 HS3.out.lt
              have hB4 := HB3.out.trans (hb4.mono HB3.out.size)
              have hbX := below_alloc1 w4 (.cells #[.string ⟨m'.c.t.toArray⟩, .int .i64 m'.c.g, .slice A4 m'.c.tags.length c4'] 35)
              have HI5 := Lib.hid (hI4.below hbX)
              have HS5 := Lib.hid (hS4.below hbX hS4.lt)
              have HB5 := Lib.hid (hB4.trans (hbX.mono hB4.size))
              have HX5 := Lib.hid (Blk.new w4 35 #[.string ⟨m'.c.t.toArray⟩, .int .i64 m'.c.g, .slice A4 m'.c.tags.length c4'])
              have HO5 := Lib.hid (hown4.alloc (.cells #[.string ⟨m'.c.t.toArray⟩, .int .i64 m'.c.g, .slice A4 m'.c.tags.length c4'] 35))
              clear hI4 hS4 hB4 hown4 hb4 hbX HI3 HS3 HB3
              go_upto_region 24 with (fail)
              generalize w4.alloc (.cells #[.string ⟨m'.c.t.toArray⟩, .int .i64 m'.c.g, .slice A4 m'.c.tags.length c4'] 35) = W5 at *
              generalize w4.heap.size = X at *
              obtain ⟨A6, c6', A7, c7', h1, h2, h3⟩ := HI5.out.rk.own
              have hsm := HI5.out.sm
              rw [hsm.n, hsm.s, hsm.c] at h1
              rw [hsm.c] at h3
              have hrl5 := HI5.out.ln
              have HXB : Hid (∀ w', Below W5.heap.size W5 w' → Blk w' X 35 #[.string ⟨m'.c.t.toArray⟩, .int .i64 m'.c.g, .slice A4 m'.c.tags.length c4']) := fun w' h => HX5.out.below h HX5.out.lt
              have HRB : Hid (∀ w', Below W5.heap.size W5 w' → Blk w' R 62 _) := fun w' h => h1.below h h1.lt
              have HSB : Hid (∀ w', Below W5.heap.size W5 w' → Blk w' ST 52 _) := fun w' h => HS5.out.below h HS5.out.lt
              have HR1 : Hid (∀ w', Below W5.heap.size W5 w' → Rd w' w'.heap.size 2 (.slice A4 m'.c.tags.length c4') m'.c.tags.length (cellsT m'.c.tags)) := fun w' h => ((Rd.of_own HO5.out).below h).more h.size
              have HR2 : Hid (∀ w', Below W5.heap.size W5 w' → Rd w' w'.heap.size 2 (.slice A7 m'.c.tags.length c7') m'.c.tags.length (cellsT m'.c.tags)) := fun w' h => ((Rd.of_own h3).below h).more h.size
              have HIB : Hid (∀ w', Below W5.heap.size W5 w' → StpsI w' (w.heap.size + 1) w.heap.size R (k + 1) m' r') := fun w' h => HI5.out.below h
              have HOF : Hid (∀ wx, RMkAt wx R r' → Calls Tryd.prog 24 #[.pointer (some ⟨R, 0, none⟩), .int .i64 no] wx fun e w' => e = .returned (.int .i64 (ofV m'.vs no)) ∧ Below wx.heap.size wx w') := by
                intro wx hx
                rw [← rof_same hsm.v no]
                exact rofm_any R r' no wx hx (by omega)
              have htg5 := HI5.out.tg
              clear h1 h2 h3 hsm HX5 HO5 HS5 HI5
              go_region_held3 (fun w' => w'.cell? ⟨X, 0, none⟩ = some (.string ⟨m'.c.t.toArray⟩) ∧ w'.cell? ⟨X, 1, none⟩ = some (.int .i64 m'.c.g) ∧ w'.cell? ⟨X, 2, none⟩ = some (.slice A4 m'.c.tags.length c4') ∧ w'.cell? ⟨R, 4, none⟩ = some (.int .i64 m'.n) ∧ w'.cell? ⟨R, 5, none⟩ = some (.string ⟨m'.s.toArray⟩) ∧ w'.cell? ⟨R, 6, none⟩ = some (.string ⟨m'.c.t.toArray⟩) ∧ w'.cell? ⟨R, 7, none⟩ = some (.int .i64 m'.c.g) ∧ w'.cell? ⟨R, 8, none⟩ = some (.slice A7 m'.c.tags.length c7') ∧ w'.cell? ⟨ST, 1, none⟩ = some (.int .i64 no))
                ((refine keep9 (HXB.out _ ?_) (HRB.out _ ?_) (HSB.out _ ?_) <;> (first | (simp only [blw_drew, blw_refl]; done) | with_reducible assumption | (simp only [blw_drew]; with_reducible assumption))))
                (first
                  | (go_at_call 22; refine Calls.mono (lsame_any m'.c.t m'.c.g m'.c.tags A4 A7 c4' c7' _ (HR1.out _ (by (first | (simp only [blw_drew, blw_refl]; done) | with_reducible assumption | (simp only [blw_drew]; with_reducible assumption)))) (HR2.out _ (by (first | (simp only [blw_drew, blw_refl]; done) | with_reducible assumption | (simp only [blw_drew]; with_reducible assumption)))) htg5) ?_; rintro e w6 ⟨rfl, hb6⟩; have hbs : Below W5.heap.size W5 w6 := belowThen (by (first | (simp only [blw_drew, blw_refl]; done) | with_reducible assumption | (simp only [blw_drew]; with_reducible assumption))) hb6)
                  | (go_at_call 23; refine Calls.mono (mof_any (w.heap.size + 1) w.heap.size m' no _ (HIB.out _ (by (first | (simp only [blw_drew, blw_refl]; done) | with_reducible assumption | (simp only [blw_drew]; with_reducible assumption)))).mm) ?_; rintro e wx ⟨rfl, rfl⟩)
                  | (go_at_call 24; refine Calls.mono (HOF.out _ (HIB.out _ (by (first | (simp only [blw_drew, blw_refl]; done) | with_reducible assumption | (simp only [blw_drew]; with_reducible assumption)))).rk) ?_; rintro e w7 ⟨rfl, hb7⟩; have hbt : Below W5.heap.size W5 w7 := belowThen (by (first | (simp only [blw_drew, blw_refl]; done) | with_reducible assumption | (simp only [blw_drew]; with_reducible assumption))) hb7))
              have HFI := Lib.hid (HIB.out _ hbt)
              have HFB := Lib.hid (HB5.out.trans (hbt.mono HB5.out.size))
              go_wp2_with fail
              exact ⟨⟨k + 1, m', r', by omega, by simp, HFI, HFB⟩, by simp [intOf]; omega⟩
            · refine (madopt_any _ _ m ⟨ct, cg, tags, At, capt⟩ _ (hl.later HB.out) HI.out.mm HOK.out.c).mono ?_
              rintro e w2 ⟨rfl, hM2, hc2⟩
              have hB2 := HB.out.trans (hc2.to_below (fun i hi e => by omega) HB.out.size)
              have hR2 := HI.out.rk.chg hc2 (mk_apartR HI.out.mm) (by omega)
              have hS2 := hST.out.chg hc2 (by omega)
              obtain ⟨hsm1, hsm2, hsm3⟩ := adopt_same HI.out.sm ⟨ct, cg, tags⟩
              have htg := adopt_tags HI.out.tg ⟨ct, cg, tags⟩ HOK.out.c.tl
              have hln := radopt_len r ⟨ct, cg, tags⟩
              have hrl := HI.out.ln
              have hok2 := Lib.hid (HOK0.out.below hB2).c
              clear s0 s1 s2 s3 s4 s5 s6 s7
              have q5 : w2.cell? ⟨ST, 5, none⟩ = some (.string ⟨ct.toArray⟩) := hS2.cell 5
              have q6 : w2.cell? ⟨ST, 6, none⟩ = some (.int .i64 cg) := hS2.cell 6
              have q7 : w2.cell? ⟨ST, 7, none⟩ = some (.slice At tags.length capt) := hS2.cell 7
              have HR2 := Lib.hid hR2
              have HM2 := Lib.hid hM2
              have HS2 := Lib.hid hS2
              have HB2 := Lib.hid hB2
              clear hR2 hM2 hS2 hB2 hc2
              have HV : Hid (∀ wx A c, RMkAt wx R r → wx.ownsRow 0 95 2 (.slice A tags.length c) tags.length (cellsT tags) → Calls Tryd.prog 20 #[.pointer (some ⟨R, 0, none⟩), .agg #[.string ⟨ct.toArray⟩, .int .i64 cg, .slice A tags.length c]] wx fun e w' =>
                e = .returned (.tuple #[.bool (adoptS m ⟨ct, cg, tags⟩).ok, .int .i64 (adoptS m ⟨ct, cg, tags⟩).e]) ∧ RMkAt w' R (radoptS r ⟨ct, cg, tags⟩).m ∧ Chg (fun k => k = R) wx w') := by
                intro wx A c hx ho
                rw [← hsm2, ← hsm3]
                exact radopt_any R r ct cg tags A c wx hx (by omega) ho
              have HSM := Lib.hid hsm1
              clear hsm1 hsm2 hsm3
              simp only [CrtV.crt] at HM2 ⊢
              generalize adoptS m ⟨ct, cg, tags⟩ = vr at *
              generalize radoptS r ⟨ct, cg, tags⟩ = rr at *
              obtain ⟨m', ok', e'⟩ := vr
              obtain ⟨r', rok, re⟩ := rr
              simp only at HV HSM HM2 htg hln ⊢
              go_wp2_with fail
              refine (lref_any ⟨ct, cg, tags, At, capt⟩ _ hok2.out).mono ?_
              rintro e w3 ⟨A3, c3', rfl, ho3, hb3⟩
              have ho3' := Lib.hid (own_weaken (base' := 0) ho3 (Nat.zero_le _))
              have hR3 := Lib.hid (HR2.out.below hb3)
              have hM3 := Lib.hid (HM2.out.below hb3)
              have hS3 := Lib.hid (HS2.out.below hb3 HS2.out.lt)
              have hB3 := Lib.hid (HB2.out.trans (hb3.mono HB2.out.size))
              clear ho3 hb3 q5 q6 q7 HR2 HM2 HS2 HB2 hok2
              go_wp2_with fail
              refine (HV.out _ A3 c3' hR3.out ho3'.out).mono ?_
              rintro e wc ⟨rfl, hR4, hc4⟩
              have HB3 := Lib.hid (hB3.out.trans (hc4.to_below (fun i hi e => by omega) hB3.out.size))
              have HS3 := Lib.hid (hS3.out.chg hc4 (by omega))
              have HI3 : Hid (StpsI wc (w.heap.size + 1) w.heap.size R (k + 1) m' r') := ⟨hM3.out.chg hc4 (rmk_apart hR3.out) (by omega) (by omega), hR4, HSM.out, htg, by omega⟩
              clear hR4 hc4 HV hM3 hB3 hR3 hS3 ho3' HI HB hST HSM
              go_wp2_with fail
              refine (mstable_any _ _ m' _ HI3.out.mm HI3.out.tg).mono ?_
              rintro e w4 ⟨A4, c4', rfl, hown4, hb4⟩
              have hI4 := HI3.out.below hb4
              have hS4 := HS3.out.below hb4 HS3.out.lt
              have hB4 := HB3.out.trans (hb4.mono HB3.out.size)
              have hbX := below_alloc1 w4 (.cells #[.string ⟨m'.c.t.toArray⟩, .int .i64 m'.c.g, .slice A4 m'.c.tags.length c4'] 35)
              have HI5 := Lib.hid (hI4.below hbX)
              have HS5 := Lib.hid (hS4.below hbX hS4.lt)
              have HB5 := Lib.hid (hB4.trans (hbX.mono hB4.size))
              have HX5 := Lib.hid (Blk.new w4 35 #[.string ⟨m'.c.t.toArray⟩, .int .i64 m'.c.g, .slice A4 m'.c.tags.length c4'])
              have HO5 := Lib.hid (hown4.alloc (.cells #[.string ⟨m'.c.t.toArray⟩, .int .i64 m'.c.g, .slice A4 m'.c.tags.length c4'] 35))
              clear hI4 hS4 hB4 hown4 hb4 hbX HI3 HS3 HB3
              go_upto_region 24 with (fail)
              generalize w4.alloc (.cells #[.string ⟨m'.c.t.toArray⟩, .int .i64 m'.c.g, .slice A4 m'.c.tags.length c4'] 35) = W5 at *
              generalize w4.heap.size = X at *
              obtain ⟨A6, c6', A7, c7', h1, h2, h3⟩ := HI5.out.rk.own
              have hsm := HI5.out.sm
              rw [hsm.n, hsm.s, hsm.c] at h1
              rw [hsm.c] at h3
              have hrl5 := HI5.out.ln
              have HXB : Hid (∀ w', Below W5.heap.size W5 w' → Blk w' X 35 #[.string ⟨m'.c.t.toArray⟩, .int .i64 m'.c.g, .slice A4 m'.c.tags.length c4']) := fun w' h => HX5.out.below h HX5.out.lt
              have HRB : Hid (∀ w', Below W5.heap.size W5 w' → Blk w' R 62 _) := fun w' h => h1.below h h1.lt
              have HSB : Hid (∀ w', Below W5.heap.size W5 w' → Blk w' ST 52 _) := fun w' h => HS5.out.below h HS5.out.lt
              have HR1 : Hid (∀ w', Below W5.heap.size W5 w' → Rd w' w'.heap.size 2 (.slice A4 m'.c.tags.length c4') m'.c.tags.length (cellsT m'.c.tags)) := fun w' h => ((Rd.of_own HO5.out).below h).more h.size
              have HR2 : Hid (∀ w', Below W5.heap.size W5 w' → Rd w' w'.heap.size 2 (.slice A7 m'.c.tags.length c7') m'.c.tags.length (cellsT m'.c.tags)) := fun w' h => ((Rd.of_own h3).below h).more h.size
              have HIB : Hid (∀ w', Below W5.heap.size W5 w' → StpsI w' (w.heap.size + 1) w.heap.size R (k + 1) m' r') := fun w' h => HI5.out.below h
              have HOF : Hid (∀ wx, RMkAt wx R r' → Calls Tryd.prog 24 #[.pointer (some ⟨R, 0, none⟩), .int .i64 no] wx fun e w' => e = .returned (.int .i64 (ofV m'.vs no)) ∧ Below wx.heap.size wx w') := by
                intro wx hx
                rw [← rof_same hsm.v no]
                exact rofm_any R r' no wx hx (by omega)
              have htg5 := HI5.out.tg
              clear h1 h2 h3 hsm HX5 HO5 HS5 HI5
              go_region_held3 (fun w' => w'.cell? ⟨X, 0, none⟩ = some (.string ⟨m'.c.t.toArray⟩) ∧ w'.cell? ⟨X, 1, none⟩ = some (.int .i64 m'.c.g) ∧ w'.cell? ⟨X, 2, none⟩ = some (.slice A4 m'.c.tags.length c4') ∧ w'.cell? ⟨R, 4, none⟩ = some (.int .i64 m'.n) ∧ w'.cell? ⟨R, 5, none⟩ = some (.string ⟨m'.s.toArray⟩) ∧ w'.cell? ⟨R, 6, none⟩ = some (.string ⟨m'.c.t.toArray⟩) ∧ w'.cell? ⟨R, 7, none⟩ = some (.int .i64 m'.c.g) ∧ w'.cell? ⟨R, 8, none⟩ = some (.slice A7 m'.c.tags.length c7') ∧ w'.cell? ⟨ST, 1, none⟩ = some (.int .i64 no))
                ((refine keep9 (HXB.out _ ?_) (HRB.out _ ?_) (HSB.out _ ?_) <;> (first | (simp only [blw_drew, blw_refl]; done) | with_reducible assumption | (simp only [blw_drew]; with_reducible assumption))))
                (first
                  | (go_at_call 22; refine Calls.mono (lsame_any m'.c.t m'.c.g m'.c.tags A4 A7 c4' c7' _ (HR1.out _ (by (first | (simp only [blw_drew, blw_refl]; done) | with_reducible assumption | (simp only [blw_drew]; with_reducible assumption)))) (HR2.out _ (by (first | (simp only [blw_drew, blw_refl]; done) | with_reducible assumption | (simp only [blw_drew]; with_reducible assumption)))) htg5) ?_; rintro e w6 ⟨rfl, hb6⟩; have hbs : Below W5.heap.size W5 w6 := belowThen (by (first | (simp only [blw_drew, blw_refl]; done) | with_reducible assumption | (simp only [blw_drew]; with_reducible assumption))) hb6)
                  | (go_at_call 23; refine Calls.mono (mof_any (w.heap.size + 1) w.heap.size m' no _ (HIB.out _ (by (first | (simp only [blw_drew, blw_refl]; done) | with_reducible assumption | (simp only [blw_drew]; with_reducible assumption)))).mm) ?_; rintro e wx ⟨rfl, rfl⟩)
                  | (go_at_call 24; refine Calls.mono (HOF.out _ (HIB.out _ (by (first | (simp only [blw_drew, blw_refl]; done) | with_reducible assumption | (simp only [blw_drew]; with_reducible assumption)))).rk) ?_; rintro e w7 ⟨rfl, hb7⟩; have hbt : Below W5.heap.size W5 w7 := belowThen (by (first | (simp only [blw_drew, blw_refl]; done) | with_reducible assumption | (simp only [blw_drew]; with_reducible assumption))) hb7))
              have HFI := Lib.hid (HIB.out _ hbt)
              have HFB := Lib.hid (HB5.out.trans (hbt.mono HB5.out.size))
              go_wp2_with fail
              exact ⟨⟨k + 1, m', r', by omega, by simp, HFI, HFB⟩, by simp [intOf]; omega⟩
            · have HI3 := Lib.hid (HI.out.more (Nat.le_succ k))
              have HB3 := HB
              have HS3 := hST
              clear s0 s1 s2 s3 s4 s5 s6 s7 HI HB hST
              generalize W = wc at *
              generalize m = m' at *
              generalize r = r' at *
              refine (mstable_any _ _ m' _ HI3.out.mm HI3.out.tg).mono ?_
              rintro e w4 ⟨A4, c4', rfl, hown4, hb4⟩
              have hI4 := HI3.out.below hb4
              have hS4 := HS3.out.below hb4 HS3.out.lt
              have hB4 := HB3.out.trans (hb4.mono HB3.out.size)
              have hbX := below_alloc1 w4 (.cells #[.string ⟨m'.c.t.toArray⟩, .int .i64 m'.c.g, .slice A4 m'.c.tags.length c4'] 35)
              have HI5 := Lib.hid (hI4.below hbX)
              have HS5 := Lib.hid (hS4.below hbX hS4.lt)
              have HB5 := Lib.hid (hB4.trans (hbX.mono hB4.size))
              have HX5 := Lib.hid (Blk.new w4 35 #[.string ⟨m'.c.t.toArray⟩, .int .i64 m'.c.g, .slice A4 m'.c.tags.length c4'])
              have HO5 := Lib.hid (hown4.alloc (.cells #[.string ⟨m'.c.t.toArray⟩, .int .i64 m'.c.g, .slice A4 m'.c.tags.length c4'] 35))
              clear hI4 hS4 hB4 hown4 hb4 hbX HI3 HS3 HB3
              go_upto_region 24 with (fail)
              generalize w4.alloc (.cells #[.string ⟨m'.c.t.toArray⟩, .int .i64 m'.c.g, .slice A4 m'.c.tags.length c4'] 35) = W5 at *
              generalize w4.heap.size = X at *
              obtain ⟨A6, c6', A7, c7', h1, h2, h3⟩ := HI5.out.rk.own
              have hsm := HI5.out.sm
              rw [hsm.n, hsm.s, hsm.c] at h1
              rw [hsm.c] at h3
              have hrl5 := HI5.out.ln
              have HXB : Hid (∀ w', Below W5.heap.size W5 w' → Blk w' X 35 #[.string ⟨m'.c.t.toArray⟩, .int .i64 m'.c.g, .slice A4 m'.c.tags.length c4']) := fun w' h => HX5.out.below h HX5.out.lt
              have HRB : Hid (∀ w', Below W5.heap.size W5 w' → Blk w' R 62 _) := fun w' h => h1.below h h1.lt
              have HSB : Hid (∀ w', Below W5.heap.size W5 w' → Blk w' ST 52 _) := fun w' h => HS5.out.below h HS5.out.lt
              have HR1 : Hid (∀ w', Below W5.heap.size W5 w' → Rd w' w'.heap.size 2 (.slice A4 m'.c.tags.length c4') m'.c.tags.length (cellsT m'.c.tags)) := fun w' h => ((Rd.of_own HO5.out).below h).more h.size
              have HR2 : Hid (∀ w', Below W5.heap.size W5 w' → Rd w' w'.heap.size 2 (.slice A7 m'.c.tags.length c7') m'.c.tags.length (cellsT m'.c.tags)) := fun w' h => ((Rd.of_own h3).below h).more h.size
              have HIB : Hid (∀ w', Below W5.heap.size W5 w' → StpsI w' (w.heap.size + 1) w.heap.size R (k + 1) m' r') := fun w' h => HI5.out.below h
              have HOF : Hid (∀ wx, RMkAt wx R r' → Calls Tryd.prog 24 #[.pointer (some ⟨R, 0, none⟩), .int .i64 no] wx fun e w' => e = .returned (.int .i64 (ofV m'.vs no)) ∧ Below wx.heap.size wx w') := by
                intro wx hx
                rw [← rof_same hsm.v no]
                exact rofm_any R r' no wx hx (by omega)
              have htg5 := HI5.out.tg
              clear h1 h2 h3 hsm HX5 HO5 HS5 HI5
              go_region_held3 (fun w' => w'.cell? ⟨X, 0, none⟩ = some (.string ⟨m'.c.t.toArray⟩) ∧ w'.cell? ⟨X, 1, none⟩ = some (.int .i64 m'.c.g) ∧ w'.cell? ⟨X, 2, none⟩ = some (.slice A4 m'.c.tags.length c4') ∧ w'.cell? ⟨R, 4, none⟩ = some (.int .i64 m'.n) ∧ w'.cell? ⟨R, 5, none⟩ = some (.string ⟨m'.s.toArray⟩) ∧ w'.cell? ⟨R, 6, none⟩ = some (.string ⟨m'.c.t.toArray⟩) ∧ w'.cell? ⟨R, 7, none⟩ = some (.int .i64 m'.c.g) ∧ w'.cell? ⟨R, 8, none⟩ = some (.slice A7 m'.c.tags.length c7') ∧ w'.cell? ⟨ST, 1, none⟩ = some (.int .i64 no))
                ((refine keep9 (HXB.out _ ?_) (HRB.out _ ?_) (HSB.out _ ?_) <;> (first | (simp only [blw_drew, blw_refl]; done) | with_reducible assumption | (simp only [blw_drew]; with_reducible assumption))))
                (first
                  | (go_at_call 22; refine Calls.mono (lsame_any m'.c.t m'.c.g m'.c.tags A4 A7 c4' c7' _ (HR1.out _ (by (first | (simp only [blw_drew, blw_refl]; done) | with_reducible assumption | (simp only [blw_drew]; with_reducible assumption)))) (HR2.out _ (by (first | (simp only [blw_drew, blw_refl]; done) | with_reducible assumption | (simp only [blw_drew]; with_reducible assumption)))) htg5) ?_; rintro e w6 ⟨rfl, hb6⟩; have hbs : Below W5.heap.size W5 w6 := belowThen (by (first | (simp only [blw_drew, blw_refl]; done) | with_reducible assumption | (simp only [blw_drew]; with_reducible assumption))) hb6)
                  | (go_at_call 23; refine Calls.mono (mof_any (w.heap.size + 1) w.heap.size m' no _ (HIB.out _ (by (first | (simp only [blw_drew, blw_refl]; done) | with_reducible assumption | (simp only [blw_drew]; with_reducible assumption)))).mm) ?_; rintro e wx ⟨rfl, rfl⟩)
                  | (go_at_call 24; refine Calls.mono (HOF.out _ (HIB.out _ (by (first | (simp only [blw_drew, blw_refl]; done) | with_reducible assumption | (simp only [blw_drew]; with_reducible assumption)))).rk) ?_; rintro e w7 ⟨rfl, hb7⟩; have hbt : Below W5.heap.size W5 w7 := belowThen (by (first | (simp only [blw_drew, blw_refl]; done) | with_reducible assumption | (simp only [blw_drew]; with_reducible assumption))) hb7))
              have HFI := Lib.hid (HIB.out _ hbt)
              have HFB := Lib.hid (HB5.out.trans (hbt.mono HB5.out.size))
              go_wp2_with fail
              exact ⟨⟨k + 1, m', r', by omega, by simp, HFI, HFB⟩, by simp [intOf]; omega⟩
        · obtain rfl : k = l.length := by omega
          go_wp2_with fail
          refine (one_any _ (hl.later HB.out)).mono ?_
          rintro e w2 ⟨rfl, hb2⟩
          go_wp2
          go_ret
          exact ⟨rfl, HB.out.trans (hb2.mono HB.out.size)⟩
  · have hrt := fun wx => rright_any g f wx
    rw [decide_eq_false hgf] at hrt
    have HRT := Lib.hid hrt
    clear hrt
    go_enter Tryd.func6, Tryd.ntmps6
    go_wp2_with fail
    refine (mnew_bad g f hgf _).mono ?_
    rintro e w1 ⟨rfl, rfl⟩
    go_wp2_with fail
    refine (HRT.out _).mono ?_
    rintro e w' ⟨rfl, rfl⟩
    go_wp2_with fail
    refine (one_any _ hl).mono ?_
    rintro e w2 ⟨rfl, hb2⟩
    go_wp2
    go_ret
    exact ⟨rfl, hb2⟩

end Go.Proofs.YtogpbldipmcbdaaDoor
