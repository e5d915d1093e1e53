/- Configurations: how many shards each group has; the groups with most and with fewest. -/
import Derived.Test.YtijacbnoemjgcaaGreatDoorPb7
import Derived.BigQuiet
import Derived.Deep.RegionHeld3
import Derived.Deep.DrawnRows
set_option linter.unusedVariables false
set_option linter.unusedSimpArgs false
set_option linter.unnecessarySimpa false
namespace Go.Proofs.YtijacbnoemjgcaaGreatDoor
open Go.RowKit Go.Shelf

theorem ix_get (o : Own) (k : Nat) (hk : k < 4) (w : World) : (Instr.index 44 (.agg #[.int .i64 o.a, .int .i64 o.b, .int .i64 o.c, .int .i64 o.d]) (.int .i64 k)).run Tryz.prog w = .ok (.int .i64 (o.get k)) w := by
  have h : k = 0 ∨ k = 1 ∨ k = 2 ∨ k = 3 := by omega
  rcases h with rfl | rfl | rfl | rfl
  · exact idx4_0 _ _ _ _ w
  · exact idx4_1 _ _ _ _ w
  · exact idx4_2 _ _ _ _ w
  · exact idx4_3 _ _ _ _ w
theorem own_take (o : Own) (k : Nat) (hk : k < 4) : o.list.take (k + 1) = o.list.take k ++ [o.get k] := by
  have h : k = 0 ∨ k = 1 ∨ k = 2 ∨ k = 3 := by omega
  rcases h with rfl | rfl | rfl | rfl <;> rfl

/-- how many shards a group has -/
def cnt (l : List Int) (g : Int) : Int := (l.countP (· == g) : Nat)
theorem cnt_snoc (l : List Int) (x g : Int) : cnt (l ++ [x]) g = cnt l g + (if x = g then 1 else 0) := by
  unfold cnt
  rw [List.countP_append]
  by_cases h : x = g <;> simp [h]
theorem cnt_le (l : List Int) (g : Int) : 0 ≤ cnt l g ∧ cnt l g ≤ l.length := by
  unfold cnt
  have := List.countP_le_length (p := (· == g)) (l := l)
  omega
def cntCells (l : List Int) : Array Value := #[.int .i64 (cnt l 0), .int .i64 (cnt l 1), .int .i64 (cnt l 2), .int .i64 (cnt l 3), .int .i64 (cnt l 4)]
theorem cntCells_get (l : List Int) (x : Int) (h0 : 0 ≤ x) (h4 : x < 5) : (cntCells l)[x.toNat]? = some (.int .i64 (cnt l x)) := by
  have h : x = 0 ∨ x = 1 ∨ x = 2 ∨ x = 3 ∨ x = 4 := by omega
  rcases h with rfl | rfl | rfl | rfl | rfl <;> rfl
theorem cntCells_set (l : List Int) (x : Int) (h0 : 0 ≤ x) (h4 : x < 5) : (cntCells l).setIfInBounds x.toNat (.int .i64 (cnt l x + 1)) = cntCells (l ++ [x]) := by
  have h : x = 0 ∨ x = 1 ∨ x = 2 ∨ x = 3 ∨ x = 4 := by omega
  rcases h with rfl | rfl | rfl | rfl | rfl <;> simp [cntCells, cnt_snoc]

theorem Blk.cast_ {w : World} {g g' : Nat} {t : TypeId} {cs : Array Value} (h : Blk w g t cs) (e : g = g') : Blk w g' t cs := e ▸ h

set_option maxHeartbeats 1000000 in
set_option maxRecDepth 100000 in
theorem count_any (c : Cfg) (s : Value) (w : World) (ho : ∀ k, k < 4 → 0 ≤ c.o.get k ∧ c.o.get k < 5) :
    Calls Tryz.prog 76 #[.agg #[.int .i64 c.num, s, .int .i64 c.o.a, .int .i64 c.o.b, .int .i64 c.o.c, .int .i64 c.o.d]] w fun e w' => e = .returned (.agg (cntCells c.own)) ∧ Below w.heap.size w w' := by
  have HO := Lib.hid ho
  clear ho
  go_enter Tryz.func76, Tryz.ntmps76
  go_wp2
  go_loopw [8] (fun i wr => ∃ k : Nat, k ≤ 4 ∧ i = .int .i64 k ∧ Hid (Blk wr (w.heap.size + 1) 143 (cntCells []) ∧ Blk wr (w.heap.size + 2) 143 (cntCells (c.own.take k)) ∧ Below w.heap.size w wr)) (fun i _ => 4 - (intOf i).toNat)
  case atStart => exact ⟨0, by omega, rfl, ⟨((Blk.new ((w.alloc _)) _ _).alloc _).cast_ (by simp), (Blk.new ((w.alloc _).alloc _) _ _).cast_ (by simp), (((Below.refl _ _).alloc (Nat.le_refl _) _).alloc (by simp) _).alloc (by simp; omega) _⟩⟩
  case round =>
    obtain ⟨k, hk, rfl, hI⟩ := hrel
    obtain ⟨hb1, hb2, hbw⟩ := hI.out
    by_cases hlt : k < 4
    · have hix := ix_get c.o k hlt
      obtain ⟨x0, x4⟩ := HO.out k hlt
      have hsn : Hid (c.own.take (k + 1) = c.own.take k ++ [c.o.get k]) := own_take c.o k hlt
      generalize c.o.get k = x at *
      have hr : wr.cell? ⟨w.heap.size + 2, x.toNat, none⟩ = some (.int .i64 (cnt (c.own.take k) x)) := by
        rw [hb2.cell]; exact cntCells_get _ x x0 x4
      have hf : wr.frozen? ⟨w.heap.size + 2, x.toNat, none⟩ = false := hb2.frozen _
      obtain ⟨c0, c4⟩ := cnt_le (c.own.take k) x
      have hl : (c.own.take k).length = k := by simp [Cfg.own, Own.list]; omega
      rw [hl] at c4
      have hset := Lib.hid (cntCells_set (c.own.take k) x x0 x4)
      have HB := Lib.hid hI.out
      generalize cnt (c.own.take k) x = q at *
      clear hb1 hb2 hbw hI
      go_wp2
      go_roundw
      case rel =>
        refine ⟨k + 1, by omega, by go_num, ⟨HB.out.1.far (by simp) _, ?_, ?_⟩⟩
        · rw [hsn.out, ← hset.out]
          exact HB.out.2.1.set_ _ _
        · exact ((Chg.of_below HB.out.2.2).setCell (F := fun i => i = w.heap.size + 2) (fun _ => rfl) _).to_below (by intro i hi; omega) (Nat.le_refl _)
      case measure => simp [intOf]; omega
    · have e : c.own.take k = c.own := List.take_of_length_le (by simp [Cfg.own, Own.list]; omega)
      rw [e] at hb2
      have p0 : wr.cell? ⟨w.heap.size + 2, 0, none⟩ = some (.int .i64 (cnt c.own 0)) := hb2.cell 0
      have p1 : wr.cell? ⟨w.heap.size + 2, 1, none⟩ = some (.int .i64 (cnt c.own 1)) := hb2.cell 1
      have p2 : wr.cell? ⟨w.heap.size + 2, 2, none⟩ = some (.int .i64 (cnt c.own 2)) := hb2.cell 2
      have p3 : wr.cell? ⟨w.heap.size + 2, 3, none⟩ = some (.int .i64 (cnt c.own 3)) := hb2.cell 3
      have p4 : wr.cell? ⟨w.heap.size + 2, 4, none⟩ = some (.int .i64 (cnt c.own 4)) := hb2.cell 4
      have z0 : wr.cell? ⟨w.heap.size + 1, 0, none⟩ = some (.int .i64 0) := hb1.cell 0
      have z1 : wr.cell? ⟨w.heap.size + 1, 1, none⟩ = some (.int .i64 0) := hb1.cell 1
      have z2 : wr.cell? ⟨w.heap.size + 1, 2, none⟩ = some (.int .i64 0) := hb1.cell 2
      have z3 : wr.cell? ⟨w.heap.size + 1, 3, none⟩ = some (.int .i64 0) := hb1.cell 3
      have z4 : wr.cell? ⟨w.heap.size + 1, 4, none⟩ = some (.int .i64 0) := hb1.cell 4
      have f0 := hb1.frozen 0
      have f1 := hb1.frozen 1
      have f2 := hb1.frozen 2
      have f3 := hb1.frozen 3
      have f4 := hb1.frozen 4
      have HB := Lib.hid hI.out
      clear hb1 hb2 hbw hI e
      go_wp2
      refine bodyPost_ret (v := .agg (cntCells c.own)) (by simp [results, Tryz.results76, go_sem, z0, z1, z2, z3, z4, cntCells]) rfl ⟨rfl, ?_⟩
      exact ((((((Chg.of_below HB.out.2.2).setCell (F := fun i => i = w.heap.size + 1) (fun _ => rfl) _).setCell (fun _ => rfl) _).setCell (fun _ => rfl) _).setCell (fun _ => rfl) _).setCell (fun _ => rfl) _).to_below (by intro i hi; omega) (Nat.le_refl _)

end Go.Proofs.YtijacbnoemjgcaaGreatDoor

namespace Go.Proofs.YtijacbnoemjgcaaGreatDoor
open Go.RowKit Go.Shelf

def endsS (l : List Int) : List Int → Int → Int → Int × Int
  | [], m, f => (m, f)
  | g :: gs, m, f => endsS l gs (if cnt l m < cnt l g then g else m) (if cnt l g < cnt l f then g else f)
theorem endsS_drop (l gs : List Int) (k : Nat) (hk : k < gs.length) (m f : Int) : endsS l (gs.drop k) m f = endsS l (gs.drop (k + 1)) (if cnt l m < cnt l gs[k] then gs[k] else m) (if cnt l gs[k] < cnt l f then gs[k] else f) := by
  rw [List.drop_eq_getElem_cons hk]; rfl
/-- first and first -/
def endsOf (c : Cfg) : Int × Int := endsS c.own c.gs (c.gs.headD 0) (c.gs.headD 0)

/-- an array of five as a variable of its own -/
theorem headD_get (l : List Int) (h : 0 < l.length) : l.headD 0 = l[0] := by
  cases l with
  | nil => simp at h
  | cons a r => rfl

def boxed5 (w : World) (l : List Int) : World := w.alloc (.cells #[.int .i64 (cnt l 0), .int .i64 (cnt l 1), .int .i64 (cnt l 2), .int .i64 (cnt l 3), .int .i64 (cnt l 4)] 143)
theorem boxed5_blk (w : World) (l : List Int) : Blk (boxed5 w l) w.heap.size 143 (cntCells l) := Blk.new w _ _
theorem boxed5_below (w : World) (l : List Int) : Below w.heap.size w (boxed5 w l) := (Below.refl _ _).alloc (Nat.le_refl _) _

set_option maxHeartbeats 1000000 in
set_option maxRecDepth 100000 in
theorem ends_any (c : Cfg) (s : Value) (w : World) (B : Nat) (hB : B ≤ w.heap.size) (hr : Rd w B 1 s c.gs.length (ints c.gs)) (hm : c.gs.length ≤ 9223372036854775807)
    (ho : ∀ k, k < 4 → 0 ≤ c.o.get k ∧ c.o.get k < 5) (hg : ∀ g ∈ c.gs, 0 ≤ g ∧ g < 5) (h0 : 0 < c.gs.length) :
    Calls Tryz.prog 75 #[.agg #[.int .i64 c.num, s, .int .i64 c.o.a, .int .i64 c.o.b, .int .i64 c.o.c, .int .i64 c.o.d]] w fun e w' => e = .returned (.tuple #[.int .i64 (endsOf c).1, .int .i64 (endsOf c).2]) ∧ Below w.heap.size w w' := by
  have HO := Lib.hid ho
  have HG := Lib.hid hg
  have HR := Lib.hid hr
  obtain ⟨_, A, cc, rfl, _, _⟩ := hr
  clear ho hg
  go_enter Tryz.func75, Tryz.ntmps75
  go_wp2_with fail
  refine (count_any c _ _ HO.out).mono ?_
  rintro e w2 ⟨rfl, hb⟩
  have hs2 : w.heap.size + 1 ≤ w2.heap.size := by have := hb.size; simpa using this
  have q1 : w2.cell? ⟨w.heap.size, 1, none⟩ = some (.slice A c.gs.length cc) := (hb.cell (p := ⟨w.heap.size, 1, none⟩) (by simp)).trans (by simp)
  have hbw0 := ((Below.refl w.heap.size w).alloc (Nat.le_refl _) _).trans (hb.mono (by simp))
  clear hb
  unfold cntCells
  go_wp2_with fail
  change Code.wp _ _ _ _ (boxed5 w2 c.own)
  have hk := boxed5_blk w2 c.own
  have hb5 := boxed5_below w2 c.own
  have q2 := (hb5.cell (p := ⟨w.heap.size, 1, none⟩) (by show w.heap.size < w2.heap.size; omega)).trans q1
  have hbw := Lib.hid (hbw0.trans (hb5.mono (by omega)))
  have HRW : Hid (Rd (boxed5 w2 c.own) B 1 (.slice A c.gs.length cc) c.gs.length (ints c.gs)) := HR.out.below (hbw.out.mono hB)
  have hWs : (boxed5 w2 c.own).heap.size = w2.heap.size + 1 := by simp [boxed5]
  have HC : Hid (∀ x : Int, 0 ≤ x → x < 5 → (boxed5 w2 c.own).cell? ⟨w2.heap.size, x.toNat, none⟩ = some (.int .i64 (cnt c.own x))) := fun x x0 x5 => by rw [hk.cell]; exact cntCells_get _ x x0 x5
  clear hbw0 hb5 q1 hk
  generalize boxed5 w2 c.own = W at *
  obtain ⟨g, off, c', hV, hgl, hc0⟩ := rd_get1 HRW.out h0
  injection hV with hA _ hcc
  subst hA
  clear hcc
  rw [Nat.add_zero] at hc0
  have HHD : Hid (c.gs.headD 0 = c.gs[0]) := headD_get c.gs h0
  have HEND : Hid (endsOf c = endsS c.own c.gs c.gs[0] c.gs[0]) := by unfold Hid endsOf; rw [HHD.out]
  have hg0 := HG.out c.gs[0] (List.getElem_mem _)
  generalize c.gs[0] = g0 at *
  generalize hend : endsOf c = en at *
  have HQ := Lib.hid hend
  clear hend
  obtain ⟨hg0a, hg0b⟩ := hg0
  go_quiet (fail)
  go_wp2_with fail
  go_loopw [2, 3, 20] (fun m f i wr => ∃ (k : Nat) (mm ff : Int), k ≤ c.gs.length ∧ i = .int .i64 k ∧ m = .int .i64 mm ∧ f = .int .i64 ff ∧ (0 ≤ mm ∧ mm < 5) ∧ (0 ≤ ff ∧ ff < 5) ∧ Hid (Below W.heap.size W wr) ∧ Hid (en = endsS c.own (c.gs.drop k) mm ff)) (fun _ _ i _ => c.gs.length - (intOf i).toNat)
  case atStart => exact ⟨0, g0, g0, Nat.zero_le _, rfl, rfl, rfl, ⟨hg0a, hg0b⟩, ⟨hg0a, hg0b⟩, below_drewN (Below.refl _ _) _, HEND.out⟩
  case round =>
    obtain ⟨k, mm, ff, hk, rfl, rfl, rfl, ⟨hm0, hm5⟩, ⟨hf0, hf5⟩, hbr, hE⟩ := hrel
    have q3 := (hbr.out.cell (p := ⟨w.heap.size, 1, none⟩) (by show w.heap.size < W.heap.size; omega)).trans q2
    by_cases hlt : k < c.gs.length
    · obtain ⟨g', off', c', hV, hgl', hck⟩ := rd_get1 HRW.out hlt
      injection hV with hA _ hcc
      injection hA with hA
      injection hA with hA1 hA2
      subst hA1 hA2
      clear hcc
      have hn1 : Hid (en = endsS c.own (c.gs.drop (k + 1)) (if cnt c.own mm < cnt c.own c.gs[k] then c.gs[k] else mm) (if cnt c.own c.gs[k] < cnt c.own ff then c.gs[k] else ff)) := hE.out.trans (endsS_drop c.own c.gs k hlt mm ff)
      obtain ⟨hx0, hx5⟩ := HG.out c.gs[k] (List.getElem_mem _)
      generalize c.gs[k] = x at *
      have r1 := (hbr.out.cell (p := ⟨g, off + k, none⟩) (by show g < W.heap.size; omega)).trans hck
      have hlt5 : w2.heap.size < W.heap.size := by omega
      have r2 := (hbr.out.cell (p := ⟨w2.heap.size, x.toNat, none⟩) hlt5).trans (HC.out x hx0 hx5)
      have r3 := (hbr.out.cell (p := ⟨w2.heap.size, mm.toNat, none⟩) hlt5).trans (HC.out mm hm0 hm5)
      have r4 := (hbr.out.cell (p := ⟨w2.heap.size, ff.toNat, none⟩) hlt5).trans (HC.out ff hf0 hf5)
      have HN := Lib.hid hn1.out
      have hk1 : (0 : Int) ≤ (k : Int) := by omega
      have hk2 : (k : Int) < (c.gs.length : Int) := by omega
      clear hE hn1 HEND HHD hck q2 hc0
      cases t1 : decide (cnt c.own mm < cnt c.own x) with
      | true =>
        cases t2 : decide (cnt c.own x < cnt c.own ff) with
        | true =>
          have HN2 : Hid (en = endsS c.own (c.gs.drop (k + 1)) x x) := by
            have := HN.out
            rwa [if_pos (of_decide_eq_true t1), if_pos (of_decide_eq_true t2)] at this
          go_wp2_with fail
          go_quiet (fail)
          go_wp2_with fail
          go_quiet (fail)
          go_wp2_with fail
          go_roundw
          case rel => exact ⟨k + 1, x, x, by omega, by go_num, rfl, rfl, ⟨hx0, hx5⟩, ⟨hx0, hx5⟩, below_drewN hbr.out _, HN2⟩
          case measure => simp [intOf]; omega
        | false =>
          have HN2 : Hid (en = endsS c.own (c.gs.drop (k + 1)) x ff) := by
            have := HN.out
            rwa [if_pos (of_decide_eq_true t1), if_neg (of_decide_eq_false t2)] at this
          go_wp2_with fail
          go_quiet (fail)
          go_wp2_with fail
          go_quiet (fail)
          go_wp2_with fail
          go_roundw
          case rel => exact ⟨k + 1, x, ff, by omega, by go_num, rfl, by trivial, ⟨hx0, hx5⟩, ⟨hf0, hf5⟩, below_drewN hbr.out _, HN2⟩
          case measure => simp [intOf]; omega
      | false =>
        cases t2 : decide (cnt c.own x < cnt c.own ff) with
        | true =>
          have HN2 : Hid (en = endsS c.own (c.gs.drop (k + 1)) mm x) := by
            have := HN.out
            rwa [if_neg (of_decide_eq_false t1), if_pos (of_decide_eq_true t2)] at this
          go_wp2_with fail
          go_quiet (fail)
          go_wp2_with fail
          go_quiet (fail)
          go_wp2_with fail
          go_roundw
          case rel => exact ⟨k + 1, mm, x, by omega, by go_num, by trivial, rfl, ⟨hm0, hm5⟩, ⟨hx0, hx5⟩, below_drewN hbr.out _, HN2⟩
          case measure => simp [intOf]; omega
        | false =>
          have HN2 : Hid (en = endsS c.own (c.gs.drop (k + 1)) mm ff) := by
            have := HN.out
            rwa [if_neg (of_decide_eq_false t1), if_neg (of_decide_eq_false t2)] at this
          go_wp2_with fail
          go_quiet (fail)
          go_wp2_with fail
          go_quiet (fail)
          go_wp2_with fail
          go_roundw
          case rel => exact ⟨k + 1, mm, ff, by omega, by go_num, by trivial, by trivial, ⟨hm0, hm5⟩, ⟨hf0, hf5⟩, below_drewN hbr.out _, HN2⟩
          case measure => simp [intOf]; omega
    · have e : c.gs.drop k = [] := List.drop_of_length_le (by omega)
      rw [e] at hE
      have hE2 : Hid (en = (mm, ff)) := hE.out
      clear hE
      go_wp2
      go_ret2
      rw [HQ.out, hE2.out]
      exact ⟨rfl, hbw.out.trans (hbr.out.mono hbw.out.size)⟩

end Go.Proofs.YtijacbnoemjgcaaGreatDoor
