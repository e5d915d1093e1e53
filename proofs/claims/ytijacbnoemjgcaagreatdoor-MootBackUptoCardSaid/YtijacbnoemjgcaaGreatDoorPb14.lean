/- The reference: few, many. -/
import Derived.Test.YtijacbnoemjgcaaGreatDoorPb13
import Derived.Test.YtijacbnoemjgcaaGreatDoorPb9
set_option linter.unusedVariables false
set_option linter.unusedSimpArgs false
set_option linter.unnecessarySimpa false
namespace Go.Proofs.YtijacbnoemjgcaaGreatDoor
open Go.RowKit Go.Shelf

def fewS (l : List Int) : List Int → Int → Int
  | [], f => f
  | g :: gs, f => fewS l gs (if cnt l g < cnt l f then g else f)
def manyS (l : List Int) : List Int → Int → Int
  | [], m => m
  | g :: gs, m => manyS l gs (if cnt l m < cnt l g then g else m)
theorem fewS_drop (l gs : List Int) (k : Nat) (hk : k < gs.length) (f : Int) : fewS l (gs.drop k) f = fewS l (gs.drop (k + 1)) (if cnt l gs[k] < cnt l f then gs[k] else f) := by
  rw [List.drop_eq_getElem_cons hk]; rfl
theorem manyS_drop (l gs : List Int) (k : Nat) (hk : k < gs.length) (m : Int) : manyS l (gs.drop k) m = manyS l (gs.drop (k + 1)) (if cnt l m < cnt l gs[k] then gs[k] else m) := by
  rw [List.drop_eq_getElem_cons hk]; rfl
theorem ends_few (l : List Int) : ∀ (gs : List Int) (m f : Int), endsS l gs m f = (manyS l gs m, fewS l gs f)
  | [], _, _ => rfl
  | g :: gs, m, f => by rw [endsS, ends_few l gs]; rfl

theorem keep6 {w W : World} {b : Nat} {num : Int} {s : Value} {o : Own} {t : TypeId} (h : Blk w b t (cfgCells num s o)) (hb : Below w.heap.size w W) :
    W.cell? ⟨b, 0, none⟩ = some (.int .i64 num) ∧ W.cell? ⟨b, 1, none⟩ = some s ∧ W.cell? ⟨b, 2, none⟩ = some (.int .i64 o.a) ∧ W.cell? ⟨b, 3, none⟩ = some (.int .i64 o.b) ∧ W.cell? ⟨b, 4, none⟩ = some (.int .i64 o.c) ∧ W.cell? ⟨b, 5, none⟩ = some (.int .i64 o.d) :=
  have h' := h.below hb h.lt
  ⟨h'.cell 0, h'.cell 1, h'.cell 2, h'.cell 3, h'.cell 4, h'.cell 5⟩

set_option maxHeartbeats 1000000 in
set_option maxRecDepth 100000 in
theorem few_any (c : Cfg) (s : Value) (w : World) (B : Nat) (hB : B ≤ w.heap.size) (hr : Rd w B 1 s c.gs.length (ints c.gs)) (hm : c.gs.length ≤ 9223372036854775807) (h0 : 0 < c.gs.length) :
    Calls Tryz.prog 60 #[.agg #[.int .i64 c.num, s, .int .i64 c.o.a, .int .i64 c.o.b, .int .i64 c.o.c, .int .i64 c.o.d]] w fun e w' => e = .returned (.int .i64 (endsG c.gs c.o).2) ∧ Below w.heap.size w w' := by
  have HR := Lib.hid hr
  obtain ⟨_, A, cc, rfl, _, _⟩ := hr
  obtain ⟨g, off, c', hV, hgl, hc0⟩ := rd_get1 HR.out h0
  injection hV with hA _ hcc
  subst hA
  clear hcc
  rw [Nat.add_zero] at hc0
  have HHD : Hid (c.gs.headD 0 = c.gs[0]) := headD_get c.gs h0
  have HEND : Hid ((endsG c.gs c.o).2 = fewS c.own c.gs c.gs[0]) := by unfold Hid endsG; rw [HHD.out, ends_few]; rfl
  have hc0' : ∀ o, (w.alloc o).cell? ⟨g, off, none⟩ = some (.int .i64 c.gs[0]) := fun o => (World.cell?_alloc_lt w o ⟨g, off, none⟩ (by show g < w.heap.size; omega)).trans hc0
  generalize c.gs[0] = g0 at *
  go_enter Tryz.func60, Tryz.ntmps60
  go_wp2
  have hb0 : Below w.heap.size w (w.alloc (.cells #[.int .i64 c.num, .slice (some ⟨g, off, none⟩) c.gs.length cc, .int .i64 c.o.a, .int .i64 c.o.b, .int .i64 c.o.c, .int .i64 c.o.d] 92)) := (Below.refl _ _).alloc (Nat.le_refl _) _
  have hk : Blk (w.alloc (.cells #[.int .i64 c.num, .slice (some ⟨g, off, none⟩) c.gs.length cc, .int .i64 c.o.a, .int .i64 c.o.b, .int .i64 c.o.c, .int .i64 c.o.d] 92)) w.heap.size 92 (cfgCells c.num (.slice (some ⟨g, off, none⟩) c.gs.length cc) c.o) := Blk.new _ _ _
  have hRW : Hid (Rd (w.alloc (.cells #[.int .i64 c.num, .slice (some ⟨g, off, none⟩) c.gs.length cc, .int .i64 c.o.a, .int .i64 c.o.b, .int .i64 c.o.c, .int .i64 c.o.d] 92)) B 1 (.slice (some ⟨g, off, none⟩) c.gs.length cc) c.gs.length (ints c.gs)) := HR.out.below (hb0.mono hB)
  clear hc0 hc0' HR
  generalize w.alloc (.cells #[.int .i64 c.num, .slice (some ⟨g, off, none⟩) c.gs.length cc, .int .i64 c.o.a, .int .i64 c.o.b, .int .i64 c.o.c, .int .i64 c.o.d] 92) = W at *
  have hWs := hb0.size
  have hlt0 := hk.lt
  have HB0 := Lib.hid hb0
  have HK := Lib.hid hk
  clear hb0 hk
  go_loopw [3, 13] (fun f i wr => ∃ (k : Nat) (ff : Int), k ≤ c.gs.length ∧ i = .int .i64 k ∧ f = .int .i64 ff ∧ Hid (Below W.heap.size W wr) ∧ Hid ((endsG c.gs c.o).2 = fewS c.own (c.gs.drop k) ff)) (fun _ i _ => c.gs.length - (intOf i).toNat)
  case atStart => exact ⟨0, g0, Nat.zero_le _, rfl, rfl, Below.refl _ _, HEND.out⟩
  case round =>
    obtain ⟨k, ff, hk, rfl, rfl, hbr, hE⟩ := hrel
    have HKr := Lib.hid (HK.out.below hbr.out hlt0)
    have e0 : wr.cell? ⟨w.heap.size, 0, none⟩ = some (.int .i64 c.num) := HKr.out.cell 0
    have e1 : wr.cell? ⟨w.heap.size, 1, none⟩ = some (.slice (some ⟨g, off, none⟩) c.gs.length cc) := HKr.out.cell 1
    have e2 : wr.cell? ⟨w.heap.size, 2, none⟩ = some (.int .i64 c.o.a) := HKr.out.cell 2
    have e3 : wr.cell? ⟨w.heap.size, 3, none⟩ = some (.int .i64 c.o.b) := HKr.out.cell 3
    have e4 : wr.cell? ⟨w.heap.size, 4, none⟩ = some (.int .i64 c.o.c) := HKr.out.cell 4
    have e5 : wr.cell? ⟨w.heap.size, 5, none⟩ = some (.int .i64 c.o.d) := HKr.out.cell 5
    by_cases hlt : k < c.gs.length
    · obtain ⟨g', off', c', hV, hgl', hck⟩ := rd_get1 hRW.out hlt
      injection hV with hA _ hcc
      injection hA with hA
      injection hA with hA1 hA2
      subst hA1 hA2
      clear hcc
      have hn1 := Lib.hid (hE.out.trans (fewS_drop c.own c.gs k hlt ff))
      generalize c.gs[k] = x at *
      have r1 := (hbr.out.cell (p := ⟨g, off + k, none⟩) (by show g < W.heap.size; omega)).trans hck
      have hk1 : (0 : Int) ≤ (k : Int) := by omega
      have hk2 : (k : Int) < (c.gs.length : Int) := by omega
      clear hE hck HEND HHD
      cases t1 : decide (cnt c.own x < cnt c.own ff) with
      | true =>
        have HN2 : Hid ((endsG c.gs c.o).2 = fewS c.own (c.gs.drop (k + 1)) x) := by
          have := hn1.out
          rwa [if_pos (of_decide_eq_true t1)] at this
        go_wp2_with fail
        go_region_held3 (fun w' => w'.cell? ⟨w.heap.size, 0, none⟩ = some (.int .i64 c.num) ∧ w'.cell? ⟨w.heap.size, 1, none⟩ = some (.slice (some ⟨g, off, none⟩) c.gs.length cc) ∧ w'.cell? ⟨w.heap.size, 2, none⟩ = some (.int .i64 c.o.a) ∧ w'.cell? ⟨w.heap.size, 3, none⟩ = some (.int .i64 c.o.b) ∧ w'.cell? ⟨w.heap.size, 4, none⟩ = some (.int .i64 c.o.c) ∧ w'.cell? ⟨w.heap.size, 5, none⟩ = some (.int .i64 c.o.d))
          (first | (exact keep6 HKr.out (Below.refl _ _).drew) | (exact keep6 HKr.out (by assumption)))
          ((go_at_call 62; refine (load_any c _ _ _).mono ?_; rintro e wq ⟨rfl, hbq⟩; have hbq' : Below wr.heap.size wr wq := Below.trans (by first | exact (Below.refl _ _).drew | assumption) (hbq.mono (by first | exact Nat.le_refl _ | (exact Below.size (by assumption))))))
        have hbf : Below W.heap.size W wq := hbr.out.trans (hbq'.mono hbr.out.size)
        go_wp2_with fail
        go_roundw
        case rel => exact ⟨k + 1, x, by omega, by go_num, rfl, hbf, HN2⟩
        case measure => simp [intOf]; omega
      | false =>
        have HN2 : Hid ((endsG c.gs c.o).2 = fewS c.own (c.gs.drop (k + 1)) ff) := by
          have := hn1.out
          rwa [if_neg (of_decide_eq_false t1)] at this
        go_wp2_with fail
        go_region_held3 (fun w' => w'.cell? ⟨w.heap.size, 0, none⟩ = some (.int .i64 c.num) ∧ w'.cell? ⟨w.heap.size, 1, none⟩ = some (.slice (some ⟨g, off, none⟩) c.gs.length cc) ∧ w'.cell? ⟨w.heap.size, 2, none⟩ = some (.int .i64 c.o.a) ∧ w'.cell? ⟨w.heap.size, 3, none⟩ = some (.int .i64 c.o.b) ∧ w'.cell? ⟨w.heap.size, 4, none⟩ = some (.int .i64 c.o.c) ∧ w'.cell? ⟨w.heap.size, 5, none⟩ = some (.int .i64 c.o.d))
          (first | (exact keep6 HKr.out (Below.refl _ _).drew) | (exact keep6 HKr.out (by assumption)))
          ((go_at_call 62; refine (load_any c _ _ _).mono ?_; rintro e wq ⟨rfl, hbq⟩; have hbq' : Below wr.heap.size wr wq := Below.trans (by first | exact (Below.refl _ _).drew | assumption) (hbq.mono (by first | exact Nat.le_refl _ | (exact Below.size (by assumption))))))
        have hbf : Below W.heap.size W wq := hbr.out.trans (hbq'.mono hbr.out.size)
        go_wp2_with fail
        go_roundw
        case rel => exact ⟨k + 1, ff, by omega, by go_num, by trivial, hbf, HN2⟩
        case measure => simp [intOf]; omega
    · have e : c.gs.drop k = [] := List.drop_of_length_le (by omega)
      rw [e] at hE
      have hE2 : Hid ((endsG c.gs c.o).2 = ff) := hE.out
      clear hE
      go_wp2
      go_ret
      rw [hE2.out]
      exact ⟨rfl, HB0.out.trans (hbr.out.mono hWs)⟩

set_option maxHeartbeats 1000000 in
set_option maxRecDepth 100000 in
theorem many_any (c : Cfg) (s : Value) (w : World) (B : Nat) (hB : B ≤ w.heap.size) (hr : Rd w B 1 s c.gs.length (ints c.gs)) (hm : c.gs.length ≤ 9223372036854775807) (h0 : 0 < c.gs.length) :
    Calls Tryz.prog 61 #[.agg #[.int .i64 c.num, s, .int .i64 c.o.a, .int .i64 c.o.b, .int .i64 c.o.c, .int .i64 c.o.d]] w fun e w' => e = .returned (.int .i64 (endsG c.gs c.o).1) ∧ Below w.heap.size w w' := by
  have HR := Lib.hid hr
  obtain ⟨_, A, cc, rfl, _, _⟩ := hr
  obtain ⟨g, off, c', hV, hgl, hc0⟩ := rd_get1 HR.out h0
  injection hV with hA _ hcc
  subst hA
  clear hcc
  rw [Nat.add_zero] at hc0
  have HHD : Hid (c.gs.headD 0 = c.gs[0]) := headD_get c.gs h0
  have HEND : Hid ((endsG c.gs c.o).1 = manyS c.own c.gs c.gs[0]) := by unfold Hid endsG; rw [HHD.out, ends_few]; rfl
  have hc0' : ∀ o, (w.alloc o).cell? ⟨g, off, none⟩ = some (.int .i64 c.gs[0]) := fun o => (World.cell?_alloc_lt w o ⟨g, off, none⟩ (by show g < w.heap.size; omega)).trans hc0
  generalize c.gs[0] = g0 at *
  go_enter Tryz.func61, Tryz.ntmps61
  go_wp2
  have hb0 : Below w.heap.size w (w.alloc (.cells #[.int .i64 c.num, .slice (some ⟨g, off, none⟩) c.gs.length cc, .int .i64 c.o.a, .int .i64 c.o.b, .int .i64 c.o.c, .int .i64 c.o.d] 92)) := (Below.refl _ _).alloc (Nat.le_refl _) _
  have hk : Blk (w.alloc (.cells #[.int .i64 c.num, .slice (some ⟨g, off, none⟩) c.gs.length cc, .int .i64 c.o.a, .int .i64 c.o.b, .int .i64 c.o.c, .int .i64 c.o.d] 92)) w.heap.size 92 (cfgCells c.num (.slice (some ⟨g, off, none⟩) c.gs.length cc) c.o) := Blk.new _ _ _
  have hRW : Hid (Rd (w.alloc (.cells #[.int .i64 c.num, .slice (some ⟨g, off, none⟩) c.gs.length cc, .int .i64 c.o.a, .int .i64 c.o.b, .int .i64 c.o.c, .int .i64 c.o.d] 92)) B 1 (.slice (some ⟨g, off, none⟩) c.gs.length cc) c.gs.length (ints c.gs)) := HR.out.below (hb0.mono hB)
  clear hc0 hc0' HR
  generalize w.alloc (.cells #[.int .i64 c.num, .slice (some ⟨g, off, none⟩) c.gs.length cc, .int .i64 c.o.a, .int .i64 c.o.b, .int .i64 c.o.c, .int .i64 c.o.d] 92) = W at *
  have hWs := hb0.size
  have hlt0 := hk.lt
  have HB0 := Lib.hid hb0
  have HK := Lib.hid hk
  clear hb0 hk
  go_loopw [3, 13] (fun f i wr => ∃ (k : Nat) (ff : Int), k ≤ c.gs.length ∧ i = .int .i64 k ∧ f = .int .i64 ff ∧ Hid (Below W.heap.size W wr) ∧ Hid ((endsG c.gs c.o).1 = manyS c.own (c.gs.drop k) ff)) (fun _ i _ => c.gs.length - (intOf i).toNat)
  case atStart => exact ⟨0, g0, Nat.zero_le _, rfl, rfl, Below.refl _ _, HEND.out⟩
  case round =>
    obtain ⟨k, ff, hk, rfl, rfl, hbr, hE⟩ := hrel
    have HKr := Lib.hid (HK.out.below hbr.out hlt0)
    have e0 : wr.cell? ⟨w.heap.size, 0, none⟩ = some (.int .i64 c.num) := HKr.out.cell 0
    have e1 : wr.cell? ⟨w.heap.size, 1, none⟩ = some (.slice (some ⟨g, off, none⟩) c.gs.length cc) := HKr.out.cell 1
    have e2 : wr.cell? ⟨w.heap.size, 2, none⟩ = some (.int .i64 c.o.a) := HKr.out.cell 2
    have e3 : wr.cell? ⟨w.heap.size, 3, none⟩ = some (.int .i64 c.o.b) := HKr.out.cell 3
    have e4 : wr.cell? ⟨w.heap.size, 4, none⟩ = some (.int .i64 c.o.c) := HKr.out.cell 4
    have e5 : wr.cell? ⟨w.heap.size, 5, none⟩ = some (.int .i64 c.o.d) := HKr.out.cell 5
    by_cases hlt : k < c.gs.length
    · obtain ⟨g', off', c', hV, hgl', hck⟩ := rd_get1 hRW.out hlt
      injection hV with hA _ hcc
      injection hA with hA
      injection hA with hA1 hA2
      subst hA1 hA2
      clear hcc
      have hn1 := Lib.hid (hE.out.trans (manyS_drop c.own c.gs k hlt ff))
      generalize c.gs[k] = x at *
      have r1 := (hbr.out.cell (p := ⟨g, off + k, none⟩) (by show g < W.heap.size; omega)).trans hck
      have hk1 : (0 : Int) ≤ (k : Int) := by omega
      have hk2 : (k : Int) < (c.gs.length : Int) := by omega
      clear hE hck HEND HHD
      cases t1 : decide (cnt c.own ff < cnt c.own x) with
      | true =>
        have HN2 : Hid ((endsG c.gs c.o).1 = manyS c.own (c.gs.drop (k + 1)) x) := by
          have := hn1.out
          rwa [if_pos (of_decide_eq_true t1)] at this
        go_wp2_with fail
        go_region_held3 (fun w' => w'.cell? ⟨w.heap.size, 0, none⟩ = some (.int .i64 c.num) ∧ w'.cell? ⟨w.heap.size, 1, none⟩ = some (.slice (some ⟨g, off, none⟩) c.gs.length cc) ∧ w'.cell? ⟨w.heap.size, 2, none⟩ = some (.int .i64 c.o.a) ∧ w'.cell? ⟨w.heap.size, 3, none⟩ = some (.int .i64 c.o.b) ∧ w'.cell? ⟨w.heap.size, 4, none⟩ = some (.int .i64 c.o.c) ∧ w'.cell? ⟨w.heap.size, 5, none⟩ = some (.int .i64 c.o.d))
          (first | (exact keep6 HKr.out (Below.refl _ _).drew) | (exact keep6 HKr.out (by assumption)))
          ((go_at_call 62; refine (load_any c _ _ _).mono ?_; rintro e wq ⟨rfl, hbq⟩; have hbq' : Below wr.heap.size wr wq := Below.trans (by first | exact (Below.refl _ _).drew | assumption) (hbq.mono (by first | exact Nat.le_refl _ | (exact Below.size (by assumption))))))
        have hbf : Below W.heap.size W wq := hbr.out.trans (hbq'.mono hbr.out.size)
        go_wp2_with fail
        go_roundw
        case rel => exact ⟨k + 1, x, by omega, by go_num, rfl, hbf, HN2⟩
        case measure => simp [intOf]; omega
      | false =>
        have HN2 : Hid ((endsG c.gs c.o).1 = manyS c.own (c.gs.drop (k + 1)) ff) := by
          have := hn1.out
          rwa [if_neg (of_decide_eq_false t1)] at this
        go_wp2_with fail
        go_region_held3 (fun w' => w'.cell? ⟨w.heap.size, 0, none⟩ = some (.int .i64 c.num) ∧ w'.cell? ⟨w.heap.size, 1, none⟩ = some (.slice (some ⟨g, off, none⟩) c.gs.length cc) ∧ w'.cell? ⟨w.heap.size, 2, none⟩ = some (.int .i64 c.o.a) ∧ w'.cell? ⟨w.heap.size, 3, none⟩ = some (.int .i64 c.o.b) ∧ w'.cell? ⟨w.heap.size, 4, none⟩ = some (.int .i64 c.o.c) ∧ w'.cell? ⟨w.heap.size, 5, none⟩ = some (.int .i64 c.o.d))
          (first | (exact keep6 HKr.out (Below.refl _ _).drew) | (exact keep6 HKr.out (by assumption)))
          ((go_at_call 62; refine (load_any c _ _ _).mono ?_; rintro e wq ⟨rfl, hbq⟩; have hbq' : Below wr.heap.size wr wq := Below.trans (by first | exact (Below.refl _ _).drew | assumption) (hbq.mono (by first | exact Nat.le_refl _ | (exact Below.size (by assumption))))))
        have hbf : Below W.heap.size W wq := hbr.out.trans (hbq'.mono hbr.out.size)
        go_wp2_with fail
        go_roundw
        case rel => exact ⟨k + 1, ff, by omega, by go_num, by trivial, hbf, HN2⟩
        case measure => simp [intOf]; omega
    · have e : c.gs.drop k = [] := List.drop_of_length_le (by omega)
      rw [e] at hE
      have hE2 : Hid ((endsG c.gs c.o).1 = ff) := hE.out
      clear hE
      go_wp2
      go_ret
      rw [hE2.out]
      exact ⟨rfl, HB0.out.trans (hbr.out.mono hWs)⟩

end Go.Proofs.YtijacbnoemjgcaaGreatDoor
