/- The reference's pool in memory; wrong, Last, drop. -/
import Derived.Test.YtemldlfolacekaaBn
namespace Go.Proofs.Ytemldlfolacekaa
open Go.RowKit Go.Shelf
attribute [local go_sem ↓] Go.wp_at_zero Go.wp_at_succ

theorem ref_info : (Try.prog.info? 45).map (fun i => (i.zero, i.size, i.bytes)) = some (some (.agg #[.int .i64 0, .int .i64 0, .string ⟨#[]⟩]), 3, 32) := by kernel_rfl

/-- Block R is the reference's pool: its requests L, and all that is done, D. -/
structure RefAt (w : World) (base R : Nat) (vl vd : Value) (L D : List Req) : Prop where
  blk : Blk w R 42 #[vl, vd]
  ol : w.ownsRow base 45 3 vl L.length (cellsOf L)
  od : w.ownsRow base 45 3 vd D.length (cellsOf D)
  ap : ∀ g, vl.ownBlock = some g → vd.ownBlock ≠ some g

section
variable {w w' : World} {base R : Nat} {vl vd : Value} {L D : List Req} {F : Nat → Prop}
theorem RefAt.lt (h : RefAt w base R vl vd L D) : R < w.heap.size := h.blk.lt
theorem RefAt.chg (h : RefAt w base R vl vd L D) (hc : Chg F w w') (hR : ¬ F R) (hl : ∀ g, vl.ownBlock = some g → ¬ F g) (hd : ∀ g, vd.ownBlock = some g → ¬ F g) : RefAt w' base R vl vd L D :=
  ⟨h.blk.chg hc hR, hc.owns h.ol hl, hc.owns h.od hd, h.ap⟩
theorem RefAt.below (h : RefAt w base R vl vd L D) (hc : Below w.heap.size w w') : RefAt w' base R vl vd L D :=
  h.chg (F := fun _ => False) (Chg.of_below hc) id (fun _ _ => id) (fun _ _ => id)
theorem RefAt.nl (h : RefAt w base R vl vd L D) : vl.ownBlock ≠ some R := own_blk_ne h.ol h.blk (by decide)
theorem RefAt.nd (h : RefAt w base R vl vd L D) : vd.ownBlock ≠ some R := own_blk_ne h.od h.blk (by decide)
theorem RefAt.cl (h : RefAt w base R vl vd L D) : w.cell? ⟨R, 0, none⟩ = some vl := by rw [h.blk.cell]; rfl
theorem RefAt.cd (h : RefAt w base R vl vd L D) : w.cell? ⟨R, 1, none⟩ = some vd := by rw [h.blk.cell]; rfl
theorem RefAt.free (h : RefAt w base R vl vd L D) (i : Nat) : w.frozen? ⟨R, i, none⟩ = false := h.blk.frozen i
end

/-- A step of the reference's pool: it lies at R as before, its lists in their old rows or in new ones. -/
def RefTo (w w' : World) (base R : Nat) (vl vd : Value) (L' D' : List Req) : Prop :=
  ∃ vl' vd', RefAt w' base R vl' vd' L' D' ∧ Chg (fun k => k = R ∨ vl.ownBlock = some k ∨ vd.ownBlock = some k) w w'

theorem RefTo.of_below {w w' : World} {base R : Nat} {vl vd : Value} {L D : List Req} (h : RefAt w base R vl vd L D) (hb : Below w.heap.size w w') : RefTo w w' base R vl vd L D :=
  ⟨vl, vd, h.below hb, Chg.of_below hb⟩

set_option maxHeartbeats 400000 in
theorem rwrong_yes (c n : Int) (w : World) (h : wrongB c n = true) :
    Calls Try.prog 26 #[.int .i64 c, .int .i64 n] w fun e w' => e = .returned (.bool true) ∧ w = w' := by
  by_cases h1 : c < 0
  · go_enter Try.func26, Try.ntmps26
    go_wp2
    go_ret
    exact ⟨rfl, rfl⟩
  · by_cases h2 : 63 < c
    · go_enter Try.func26, Try.ntmps26
      go_wp2
      go_ret
      exact ⟨rfl, rfl⟩
    · by_cases h3 : n < 1
      · go_enter Try.func26, Try.ntmps26
        go_wp2
        go_ret
        exact ⟨rfl, rfl⟩
      · have h4 : 1099511627776 < n := by simpa [wrongB, h1, h2, h3] using h
        go_enter Try.func26, Try.ntmps26
        go_wp2
        go_ret
        exact ⟨rfl, rfl⟩

set_option maxHeartbeats 400000 in
theorem rwrong_no (c n : Int) (w : World) (h : wrongB c n = false) :
    Calls Try.prog 26 #[.int .i64 c, .int .i64 n] w fun e w' => e = .returned (.bool false) ∧ w = w' := by
  simp only [wrongB, Bool.or_eq_false_iff, decide_eq_false_iff_not] at h
  obtain ⟨⟨⟨h1, h2⟩, h3⟩, h4⟩ := h
  go_enter Try.func26, Try.ntmps26
  go_wp2
  go_ret
  exact ⟨rfl, rfl⟩

/-- the greatest number that is done of a caller -/
def lastS (D : List Req) (c : Int) : Int := D.foldl (fun n q => if q.c = c ∧ n < q.n then q.n else n) 0
theorem lastS_snoc (D : List Req) (q : Req) (c : Int) : lastS (D ++ [q]) c = if q.c = c ∧ lastS D c < q.n then q.n else lastS D c := by unfold lastS; rw [List.foldl_append]; rfl
theorem lastS_take (D : List Req) (c : Int) (k : Nat) (hk : k < D.length) : lastS (D.take (k + 1)) c = if D[k].c = c ∧ lastS (D.take k) c < D[k].n then D[k].n else lastS (D.take k) c := by
  rw [List.take_succ_eq_append_getElem hk, lastS_snoc]

theorem own_get45 {base : Nat} {V : Value} {w : World} {l : List Req} (h : w.ownsRow base 45 3 V l.length (cellsOf l)) {k : Nat} (hk : k < l.length) :
    ∃ g c, V = .slice (some ⟨g, 0, none⟩) l.length c ∧ g < w.heap.size ∧ w.cell? ⟨g, k * 3, none⟩ = some (.int .i64 l[k].c) ∧ w.cell? ⟨g, k * 3 + 1, none⟩ = some (.int .i64 l[k].n) ∧ w.cell? ⟨g, k * 3 + 2, none⟩ = some (.string l[k].t) := by
  obtain ⟨g, c, rfl, _, hg⟩ := h.form (by omega)
  have hc := h.cells (g := g) rfl
  obtain ⟨h1, h2, h3⟩ := cellsOf_get l k hk
  have e := hc _ _ h1
  have e2 := hc _ _ h2
  have e3 := hc _ _ h3
  rw [Addr.add_lit] at e e2 e3
  simp only [Nat.zero_add] at e e2 e3
  exact ⟨g, c, rfl, hg, e, e2, e3⟩

set_option maxHeartbeats 800000 in
theorem rlast_any (base R : Nat) (vl vd : Value) (L D : List Req) (c : Int) (w : World) (hp : RefAt w base R vl vd L D) (hm : D.length ≤ 1000000) :
    Calls Try.prog 22 #[.pointer (some ⟨R, 0, none⟩), .int .i64 c] w fun e w' => e = .returned (.int .i64 (lastS D c)) ∧ Below w.heap.size w w' := by
  have hlt := hp.lt
  have hc := hp.cd
  have HO := Lib.hid hp.od
  obtain ⟨A, cc, rfl⟩ := own_shape hp.od
  clear hp
  go_enter Try.func22, Try.ntmps22
  go_wp2
  go_loopw [5, 13] (fun s i wr => ∃ k : Nat, k ≤ D.length ∧ i = .int .i64 k ∧ s = .int .i64 (lastS (D.take k) c) ∧ Hid (Below w.heap.size w wr)) (fun _ i _ => D.length - (intOf i).toNat)
  case atStart => exact ⟨0, Nat.zero_le _, rfl, rfl, Below.refl _ _⟩
  case round =>
    obtain ⟨k, hk, rfl, rfl, hbw⟩ := hrel
    by_cases hlt' : k < D.length
    · obtain ⟨g, c', hV, hg, hx0, hx1, hx2⟩ := own_get45 HO.out hlt'
      injection hV with hA _ hcc
      subst hA
      clear hcc
      have y0 := (hbw.out.cell (p := ⟨g, k * 3, none⟩) hg).trans hx0
      have y1 := (hbw.out.cell (p := ⟨g, k * 3 + 1, none⟩) hg).trans hx1
      have y2 := (hbw.out.cell (p := ⟨g, k * 3 + 2, none⟩) hg).trans hx2
      have hsnoc := Lib.hid (lastS_take D c k hlt')
      have hbs := hbw.out.size
      clear hx0 hx1 hx2 hc
      by_cases h1 : D[k].c = c
      · have h1b : (D[k].c == c) = true := by simp [h1]
        by_cases h2 : lastS (D.take k) c < D[k].n
        · have e : lastS (D.take (k + 1)) c = D[k].n := by rw [hsnoc.out, if_pos ⟨h1, h2⟩]
          have HE := Lib.hid e
          generalize lastS (D.take k) c = x at *
          clear e h1
          go_wp2
          go_roundw
          case rel => exact ⟨k + 1, by omega, by go_num, by rw [HE.out], hbw.out.alloc hbs _⟩
          case measure => simp [intOf]; omega
        · have e : lastS (D.take (k + 1)) c = lastS (D.take k) c := by rw [hsnoc.out, if_neg (fun h => h2 h.2)]
          have HE := Lib.hid e
          generalize lastS (D.take k) c = x at *
          clear e h1
          go_wp2
          go_roundw
          case rel => exact ⟨k + 1, by omega, by go_num, by rw [HE.out], hbw.out.alloc hbs _⟩
          case measure => simp [intOf]; omega
      · have h1b : (D[k].c == c) = false := by simp [h1]
        have e : lastS (D.take (k + 1)) c = lastS (D.take k) c := by rw [hsnoc.out, if_neg (fun h => h1 h.1)]
        have HE := Lib.hid e
        generalize lastS (D.take k) c = x at *
        clear e h1
        go_wp2
        go_roundw
        case rel => exact ⟨k + 1, by omega, by go_num, by rw [HE.out], hbw.out.alloc hbs _⟩
        case measure => simp [intOf]; omega
    · have e : D.take k = D := List.take_of_length_le (by omega)
      rw [e]
      clear e
      go_wp2
      go_ret
      exact ⟨rfl, hbw.out⟩

end Go.Proofs.Ytemldlfolacekaa
