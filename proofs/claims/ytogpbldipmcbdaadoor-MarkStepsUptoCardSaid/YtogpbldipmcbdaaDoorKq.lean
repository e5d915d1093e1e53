/- MarkSteps: how the document's marks lie; Right, Of; the law's ref and same. -/
import Derived.Test.YtogpbldipmcbdaaDoorKp
import Derived.Test.YtogpbldipmcbdaaDoorKk
import Derived.Deep.RegionHeld3
set_option linter.unusedVariables false
set_option linter.unusedSimpArgs false
set_option linter.unnecessarySimpa false
namespace Go.Proofs.YtogpbldipmcbdaaDoor
open Go.RowKit Go.Shelf

def cellsRV (l : List RVot) : List Value := l.flatMap RVot.cells
theorem cellsRV_length (l : List RVot) : (cellsRV l).length = l.length * 4 := by
  induction l with
  | nil => rfl
  | cons a l ih => simp only [cellsRV, List.flatMap_cons, List.length_append, List.length_cons] at ih ⊢; rw [ih]; simp [RVot.cells]; omega
theorem cellsRV_append (a b : List RVot) : cellsRV (a ++ b) = cellsRV a ++ cellsRV b := by simp [cellsRV]
theorem cellsRV_one (l : List RVot) : ∀ u ∈ cellsRV l, u.oneCell' = true := by
  intro u hu
  simp only [cellsRV, List.mem_flatMap] at hu
  obtain ⟨x, _, hx⟩ := hu
  simp [RVot.cells] at hx
  rcases hx with rfl | rfl | rfl | rfl <;> rfl
theorem rvote_info : (Tryd.prog.info? 66).map (fun i => (i.zero, i.size, i.bytes)) = some (some (.agg #[.int .i64 0, .int .i64 0, .string ⟨#[]⟩, .string ⟨#[]⟩]), 4, 48) := by kernel_rfl
theorem rtag_info : (Tryd.prog.info? 95).map (fun i => (i.zero, i.size, i.bytes)) = some (some (.agg #[.int .i64 0, .string ⟨#[]⟩]), 2, 24) := by kernel_rfl
/-- The cells of a vote of a list. -/
theorem rd_rv {w : World} {B : Nat} {v : Value} {l : List RVot} (h : Rd w B 4 v l.length (cellsRV l)) {k : Nat} (hk : k < l.length) :
    ∃ g off cap, v = .slice (some ⟨g, off, none⟩) l.length cap ∧ g < B ∧ w.cell? ⟨g, off + k * 4, none⟩ = some (.int .i64 l[k].no) ∧ w.cell? ⟨g, off + k * 4 + 1, none⟩ = some (.int .i64 l[k].n) ∧ w.cell? ⟨g, off + k * 4 + 2, none⟩ = some (.string ⟨l[k].s.toArray⟩) ∧ w.cell? ⟨g, off + k * 4 + 3, none⟩ = some (.string ⟨l[k].t.toArray⟩) := by
  obtain ⟨_, A, cap, rfl, _, h0 | ⟨g, off, rfl, hg, hc⟩⟩ := h
  · omega
  · have H := fun j hj => flat_at RVot.cells 4 (fun _ => rfl) l k hk j hj
    refine ⟨g, off, cap, rfl, hg, ?_, ?_, ?_, ?_⟩
    · have := hc (k * 4 + 0) (.int .i64 l[k].no) (H 0 (by omega)); simpa using this
    · have := hc (k * 4 + 1) (.int .i64 l[k].n) (H 1 (by omega)); simpa [Nat.add_assoc] using this
    · have := hc (k * 4 + 2) (.string ⟨l[k].s.toArray⟩) (H 2 (by omega)); simpa [Nat.add_assoc] using this
    · have := hc (k * 4 + 3) (.string ⟨l[k].t.toArray⟩) (H 3 (by omega)); simpa [Nat.add_assoc] using this
theorem rd_tg {w : World} {B : Nat} {v : Value} {l : List TagV} (h : Rd w B 2 v l.length (cellsT l)) {k : Nat} (hk : k < l.length) :
    ∃ g off cap, v = .slice (some ⟨g, off, none⟩) l.length cap ∧ g < B ∧ w.cell? ⟨g, off + k * 2, none⟩ = some (.int .i64 l[k].1) ∧ w.cell? ⟨g, off + k * 2 + 1, none⟩ = some (.string ⟨l[k].2.toArray⟩) := by
  obtain ⟨_, A, cap, rfl, _, h0 | ⟨g, off, rfl, hg, hc⟩⟩ := h
  · omega
  · obtain ⟨h1, h2⟩ := cellsT_get l k hk
    refine ⟨g, off, cap, rfl, hg, ?_, ?_⟩
    · have := hc _ _ h1; simpa [Nat.add_assoc] using this
    · have := hc _ _ h2; simpa [Nat.add_assoc] using this
/-- Block B is the document's marks. -/
structure RMkAt (w : World) (B : Nat) (r : RMk) : Prop where
  own : ∃ A c A' c', Blk w B 62 #[.int .i64 r.g, .int .i64 r.f, .slice A r.l.length c, .int .i64 r.sg, .int .i64 r.n, .string ⟨r.s.toArray⟩, .string ⟨r.c.t.toArray⟩, .int .i64 r.c.g, .slice A' r.c.tags.length c'] ∧
    w.ownsRow 0 66 4 (.slice A r.l.length c) r.l.length (cellsRV r.l) ∧ w.ownsRow 0 95 2 (.slice A' r.c.tags.length c') r.c.tags.length (cellsT r.c.tags)
  ok : 0 ≤ r.f ∧ r.f ≤ 3
section
variable {F : Nat → Prop} {w w' : World} {B V : Nat} {r : RMk} {m : Mks}
theorem RMkAt.chg (h : RMkAt w B r) (hc : Chg F w w') (ha : ∀ i, F i → ∃ t cs, Blk w i t cs ∧ 66 ≠ t ∧ 95 ≠ t) (hB : ¬ F B) : RMkAt w' B r := by
  obtain ⟨A, c, A', c', h1, h2, h3⟩ := h.own
  refine ⟨⟨A, c, A', c', h1.chg hc hB, hc.owns h2 (fun g hg hf => ?_), hc.owns h3 (fun g hg hf => ?_)⟩, h.ok⟩
  · obtain ⟨t, cs, hb, hne, _⟩ := ha g hf
    exact own_blk_ne h2 hb hne hg
  · obtain ⟨t, cs, hb, _, hne⟩ := ha g hf
    exact own_blk_ne h3 hb hne hg
theorem RMkAt.below (h : RMkAt w B r) (hb : Below w.heap.size w w') : RMkAt w' B r :=
  h.chg (Chg.of_below (F := fun _ => False) hb) (fun _ h => h.elim) (fun h => h)
theorem RMkAt.lt (h : RMkAt w B r) : B < w.heap.size := by
  obtain ⟨A, c, A', c', h1, _⟩ := h.own
  exact h1.lt
theorem mk_apartR (h : MkAt w B V m) : ∀ i, (i = B ∨ i = V) → ∃ t cs, Blk w i t cs ∧ 66 ≠ t ∧ 95 ≠ t := by
  obtain ⟨A, c, h1, _⟩ := h.own
  rintro i (rfl | rfl)
  · exact ⟨_, _, h1, by decide, by decide⟩
  · exact ⟨_, _, h.vs, by decide, by decide⟩
theorem rmk_apart (h : RMkAt w B r) : MApart w (fun k => k = B) := by
  obtain ⟨A, c, A', c', h1, _⟩ := h.own
  rintro i _ rfl
  exact ⟨_, _, h1, by decide⟩
end

set_option maxHeartbeats 4000000 in
set_option maxRecDepth 100000 in
theorem rright_any (g f : Int) (w : World) :
    Calls Tryd.prog 18 #[.int .i64 g, .int .i64 f] w fun e w' => e = .returned (.bool (decide ((0 ≤ g ∧ g ≤ 4) ∧ 0 ≤ f ∧ f ≤ 3))) ∧ w = w' := by
  obtain ⟨b, hbe⟩ : ∃ b : Bool, b = decide ((0 ≤ g ∧ g ≤ 4) ∧ 0 ≤ f ∧ f ≤ 3) := ⟨_, rfl⟩
  rw [← hbe]
  have HB := Lib.hid hbe
  clear hbe
  by_cases h1 : 0 ≤ g
  · by_cases h2 : g ≤ 4
    · by_cases h3 : 0 ≤ f
      · by_cases h4 : f ≤ 3
        · go_enter Tryd.func18, Tryd.ntmps18
          go_wp2
          go_ret
          exact ⟨by rw [HB.out, decide_eq_true (by omega)]; rfl, rfl⟩
        · go_enter Tryd.func18, Tryd.ntmps18
          go_wp2
          go_ret
          exact ⟨by rw [HB.out, decide_eq_false (by omega)]; rfl, rfl⟩
      · go_enter Tryd.func18, Tryd.ntmps18
        go_wp2
        go_ret
        exact ⟨by rw [HB.out, decide_eq_false (by omega)]; rfl, rfl⟩
    · go_enter Tryd.func18, Tryd.ntmps18
      go_wp2
      go_ret
      exact ⟨by rw [HB.out, decide_eq_false (by omega)]; rfl, rfl⟩
  · go_enter Tryd.func18, Tryd.ntmps18
    go_wp2
    go_ret
    exact ⟨by rw [HB.out, decide_eq_false (by omega)]; rfl, rfl⟩

set_option maxHeartbeats 4000000 in
set_option maxRecDepth 100000 in
theorem rofm_any (B : Nat) (r : RMk) (no : Int) (w : World) (h : RMkAt w B r) (hm : r.l.length ≤ 1000) :
    Calls Tryd.prog 24 #[.pointer (some ⟨B, 0, none⟩), .int .i64 no] w fun e w' => e = .returned (.int .i64 (rofS r.l no)) ∧ Below w.heap.size w w' := by
  obtain ⟨A, c, A', c', h1, h2, h3⟩ := h.own
  have c2 := h1.cell 2
  have HR := Lib.hid (Rd.of_own h2)
  clear h1 h2 h3 h
  go_enter Tryd.func24, Tryd.ntmps24
  go_wp2
  go_loopw [12] (fun i wr => ∃ (k : Nat), k ≤ r.l.length ∧ i = .int .i64 k ∧ Hid (rofS r.l no = rofS (r.l.drop k) no) ∧ Hid (Below w.heap.size w wr)) (fun i _ => r.l.length - (intOf i).toNat)
  case atStart => exact ⟨0, by omega, rfl, by unfold Hid; rw [List.drop_zero], Below.refl _ _⟩
  case round =>
    obtain ⟨k, hk, rfl, HQ, HB⟩ := hrel
    by_cases hlt : k < r.l.length
    · obtain ⟨g, off, cap, hV, hgl, v0, v1, v2, v3⟩ := rd_rv (HR.out.below HB.out) hlt
      injection hV with hA _ hcc
      subst hA
      clear hcc
      have HD : Hid (rofS r.l no = if r.l[k].no = no then r.l[k].n else rofS (r.l.drop (k + 1)) no) := by unfold Hid; rw [HQ.out, List.drop_eq_getElem_cons hlt, rofS]
      have hbX := Lib.hid (HB.out.alloc HB.out.size (.cells #[.int .i64 r.l[k].no, .int .i64 r.l[k].n, .string ⟨r.l[k].s.toArray⟩, .string ⟨r.l[k].t.toArray⟩] 66))
      generalize r.l[k] = x at *
      obtain ⟨xno, xn, xs, xt⟩ := x
      simp only at v0 v1 v2 v3 HD hbX
      by_cases hq : xno = no
      · have HE : Hid (rofS r.l no = xn) := by unfold Hid; rw [HD.out, if_pos hq]
        subst hq
        go_wp2
        go_ret
        exact ⟨by rw [HE.out]; rfl, hbX.out⟩
      · have HE : Hid (rofS r.l no = rofS (r.l.drop (k + 1)) no) := by unfold Hid; rw [HD.out, if_neg hq]
        go_wp2
        exact ⟨⟨k + 1, by omega, by simp, HE, hbX⟩, by simp [intOf]; omega⟩
    · have HE : Hid (rofS r.l no = 0) := by unfold Hid; rw [HQ.out, List.drop_eq_nil_of_le (by omega)]; rfl
      go_wp2
      go_ret
      exact ⟨by rw [HE.out]; rfl, HB.out⟩

set_option maxHeartbeats 4000000 in
set_option maxRecDepth 100000 in
theorem lref_any (c : CrtV) (w : World) (hc : c.Ok w) :
    Calls Tryd.prog 21 #[.agg c.cells.toArray] w fun e w' => ∃ A cap, e = .returned (.agg #[.string ⟨c.t.toArray⟩, .int .i64 c.g, .slice A c.tags.length cap]) ∧
      w'.ownsRow w.heap.size 95 2 (.slice A c.tags.length cap) c.tags.length (cellsT c.tags) ∧ Below w.heap.size w w' := by
  obtain ⟨t, g, tags, A0, cap0⟩ := c
  have hm := hc.tl
  have HR0 := Lib.hid hc.rd
  simp only [CrtV.cells] at hm HR0 ⊢
  clear hc
  have hb3 := ((below_alloc1 w (.cells #[.string ⟨t.toArray⟩, .int .i64 g, .slice A0 tags.length cap0] 35)).alloc (by simp) (.cells #[.string ⟨#[]⟩, .int .i64 0, .slice none 0 0] 60)).alloc (by simp; omega) (.cells #[.string ⟨t.toArray⟩, .int .i64 g, .slice none 0 0] 60)
  go_enter Tryd.func21, Tryd.ntmps21
  go_wp2_with fail
  go_loopw [14] (fun i wr => ∃ (k : Nat) (A : Option Addr) (cap : Nat), k ≤ tags.length ∧ i = .int .i64 k ∧ Hid (Blk wr (w.heap.size + 1 + 1) 60 #[.string ⟨t.toArray⟩, .int .i64 g, .slice A k cap]) ∧
    Hid (Blk wr (w.heap.size + 1) 60 #[.string ⟨#[]⟩, .int .i64 0, .slice none 0 0]) ∧ Hid (wr.ownsRow (w.heap.size + 3) 95 2 (.slice A k cap) k (cellsT (tags.take k))) ∧ Hid (Below w.heap.size w wr)) (fun i _ => tags.length - (intOf i).toNat)
  case atStart => exact ⟨0, none, 0, by omega, rfl, blk_new_at _ _ _ (by simp), (blk_new_at _ _ _ (by simp)).alloc _, World.ownsRow_nil _ _ _ _, hb3⟩
  case round =>
    obtain ⟨k, A, cap, hk, rfl, HX, HZ, HT, HB⟩ := hrel
    by_cases hlt : k < tags.length
    · obtain ⟨gg, off, cp, hV, hgl, v0, v1⟩ := rd_tg (HR0.out.below HB.out) hlt
      injection hV with hA _ hcc
      subst hA
      clear hcc
      have HTK : Hid (tags.take (k + 1) = tags.take k ++ [tags[k]]) := List.take_succ_eq_append_getElem hlt
      generalize tags[k] = x at *
      obtain ⟨xno, xt⟩ := x
      simp only at v0 v1 HTK
      go_upto_region 5 with (fail)
      have gX := HX.out.alloc (.cells #[.int .i64 xno, .string ⟨xt.toArray⟩] 83)
      have gZ := Lib.hid (HZ.out.alloc (.cells #[.int .i64 xno, .string ⟨xt.toArray⟩] 83))
      have gT := HT.out.alloc (.cells #[.int .i64 xno, .string ⟨xt.toArray⟩] 83)
      have gY := Blk.new wr 83 #[.int .i64 xno, .string ⟨xt.toArray⟩]
      have gB := Lib.hid (HB.out.alloc HB.out.size (.cells #[.int .i64 xno, .string ⟨xt.toArray⟩] 83))
      clear v0 v1
      generalize wr.alloc (.cells #[.int .i64 xno, .string ⟨xt.toArray⟩] 83) = w5 at *
      have x2 : w5.cell? ⟨w.heap.size + 1 + 1, 2, none⟩ = some (.slice A k cap) := gX.cell 2
      have y0 : w5.cell? ⟨wr.heap.size, 0, none⟩ = some (.int .i64 xno) := gY.cell 0
      have y1 : w5.cell? ⟨wr.heap.size, 1, none⟩ = some (.string ⟨xt.toArray⟩) := gY.cell 1
      have hxl := gX.lt
      obtain ⟨i0, hi0, hz0, hz1, hz2⟩ := info_parts rtag_info
      have hkl : (tags.take k).length = k := by rw [List.length_take]; omega
      go_wp2_with (at_builtin; refine wpList_append_own _ rfl _ _ 58 rfl (w.heap.size + 3) 95 i0 _ 2 24 Tryd.underlying58 hi0 hz0 hz1 hz2 rfl (by omega) _ _ _ rfl (gT.alloc _) ⟨w5.heap.size, 0, none⟩ 1 1 (cellsT [(xno, xt)]) rfl rfl (news_box rfl) (cellsT_one _) (by show _ ≤ 9223372036854775807; omega) (by omega) (by simp; omega) ?_; intro v' w6 hown' hgrow _; obtain ⟨g', cap', rfl⟩ := ownsRow_succ hown'; have gX6 := (gX.alloc (.cells #[.int .i64 xno, .string ⟨xt.toArray⟩] 95)).grown hgrow (fun e => by have := (gT.lt _ e.symm).1; omega); have x6 : w6.cell? ⟨w.heap.size + 1 + 1, 2, none⟩ = some (.slice A k cap) := gX6.cell 2; have f6 := gX6.frozen 2)
      refine ⟨⟨k + 1, some ⟨g', 0, none⟩, cap', by omega, by simp, ?_, ?_, ?_, ?_⟩, by simp [intOf]; omega⟩
      · have := gX6.set_ 2 (.slice (some ⟨g', 0, none⟩) (k + 1) cap')
        unfold Hid
        simpa using this
      · have hz6 := (gZ.out.alloc (.cells #[.int .i64 xno, .string ⟨xt.toArray⟩] 95)).grown hgrow (fun e => by have := (gT.lt _ e.symm).1; omega)
        exact hz6.far (p := ⟨w.heap.size + 1 + 1, 2, none⟩) (by simp) _
      · have := ((Chg.refl (fun k => k = w.heap.size + 1 + 1) w6).setCell (p := ⟨w.heap.size + 1 + 1, 2, none⟩) (fun _ => rfl) (.slice (some ⟨g', 0, none⟩) (k + 1) cap')).owns hown' (fun g h e => by have := (hown'.lt g h).1; omega)
        unfold Hid
        rw [HTK.out, cellsT_append]
        exact this
      · have hg5 := ((Below.refl w.heap.size w5).alloc (by omega) (.cells #[.int .i64 xno, .string ⟨xt.toArray⟩] 95)).grown hgrow (by simp; omega) (fun g e => by have := (gT.lt g e).1; omega)
        exact (gB.out.trans hg5).setCell (p := ⟨w.heap.size + 1 + 1, 2, none⟩) (by simp; omega) _
    · obtain rfl : k = tags.length := by omega
      rw [List.take_length] at HT
      have x0 := HX.out.cell 0
      have x1 := HX.out.cell 1
      have x2 := HX.out.cell 2
      have z0 := HZ.out.cell 0
      have z1 := HZ.out.cell 1
      have z2 := HZ.out.cell 2
      have f0 := HZ.out.frozen 0
      have f1 := HZ.out.frozen 1
      have f2 := HZ.out.frozen 2
      go_wp2
      refine bodyPost_ret (v := .agg #[.string ⟨t.toArray⟩, .int .i64 g, .slice A tags.length cap]) (by simp [results, Tryd.results21, go_sem, z0, z1, z2]) rfl ⟨A, cap, rfl, ?_, ?_⟩
      · refine own_weaken (base := w.heap.size + 3) ?_ (by omega)
        have hc := ((Chg.refl (fun k => k = w.heap.size + 1) wr).setCell (p := ⟨w.heap.size + 1, 0, none⟩) (fun _ => rfl) (.string ⟨t.toArray⟩)).setCell (p := ⟨w.heap.size + 1, 1, none⟩) (fun _ => rfl) (.int .i64 g) |>.setCell (p := ⟨w.heap.size + 1, 2, none⟩) (fun _ => rfl) (.slice A tags.length cap)
        exact hc.owns HT.out (fun g hg e => by have := (HT.out.lt g hg).1; omega)
      · exact below_set3 HB.out _ _ _ (by omega)

set_option maxHeartbeats 4000000 in
set_option maxRecDepth 100000 in
theorem lsame_any (t : Bs) (g : Int) (tags : List TagV) (A A' : Option Addr) (c c' : Nat) (w : World) (h : Rd w w.heap.size 2 (.slice A tags.length c) tags.length (cellsT tags)) (h' : Rd w w.heap.size 2 (.slice A' tags.length c') tags.length (cellsT tags)) (hm : tags.length ≤ 1048576) :
    Calls Tryd.prog 22 #[.agg #[.string ⟨t.toArray⟩, .int .i64 g, .slice A tags.length c], .agg #[.string ⟨t.toArray⟩, .int .i64 g, .slice A' tags.length c']] w fun e w' => e = .returned (.bool true) ∧ Below w.heap.size w w' := by
  have hb2 := (below_alloc1 w (.cells #[.string ⟨t.toArray⟩, .int .i64 g, .slice A tags.length c] 35)).alloc (by simp) (.cells #[.string ⟨t.toArray⟩, .int .i64 g, .slice A' tags.length c'] 60)
  have hX := (Blk.new w 35 #[.string ⟨t.toArray⟩, .int .i64 g, .slice A tags.length c]).alloc (.cells #[.string ⟨t.toArray⟩, .int .i64 g, .slice A' tags.length c'] 60)
  have hY : Blk ((w.alloc (.cells #[.string ⟨t.toArray⟩, .int .i64 g, .slice A tags.length c] 35)).alloc (.cells #[.string ⟨t.toArray⟩, .int .i64 g, .slice A' tags.length c'] 60)) (w.heap.size + 1) 60 #[.string ⟨t.toArray⟩, .int .i64 g, .slice A' tags.length c'] := blk_new_at _ _ _ (by simp)
  have HR := Lib.hid h
  have HR' := Lib.hid h'
  have HX0 := Lib.hid hX
  have HY0 := Lib.hid hY
  clear h h' hX hY
  go_enter Tryd.func22, Tryd.ntmps22
  go_wp2_with fail
  go_loopw [30] (fun i wr => ∃ (k : Nat), k ≤ tags.length ∧ i = .int .i64 k ∧ Hid (Blk wr w.heap.size 35 #[.string ⟨t.toArray⟩, .int .i64 g, .slice A tags.length c]) ∧
    Hid (Blk wr (w.heap.size + 1) 60 #[.string ⟨t.toArray⟩, .int .i64 g, .slice A' tags.length c']) ∧ Hid (Below w.heap.size w wr)) (fun i _ => tags.length - (intOf i).toNat)
  case atStart => exact ⟨0, by omega, rfl, HX0, HY0, hb2⟩
  case round =>
    obtain ⟨k, hk, rfl, HX, HY, HB⟩ := hrel
    by_cases hlt : k < tags.length
    · obtain ⟨g1, off1, cp1, hV1, _, v0, v1⟩ := rd_tg (HR.out.below HB.out) hlt
      obtain ⟨g2, off2, cp2, hV2, _, u0, u1⟩ := rd_tg (HR'.out.below HB.out) hlt
      injection hV1 with hA1 _ hc1
      injection hV2 with hA2 _ hc2
      subst hA1 hA2
      clear hc1 hc2
      generalize tags[k] = x at *
      obtain ⟨xno, xt⟩ := x
      simp only at v0 v1 u0 u1
      have x2 : wr.cell? ⟨w.heap.size, 2, none⟩ = some (.slice (some ⟨g1, off1, none⟩) tags.length c) := HX.out.cell 2
      have y2 : wr.cell? ⟨w.heap.size + 1, 2, none⟩ = some (.slice (some ⟨g2, off2, none⟩) tags.length c') := HY.out.cell 2
      go_upto_region 6 with (fail)
      rename (∀ (a : Act) (w : World), Code.wp _ _ _ a w → _) => ha
      go_quiet (fail)
      refine ha _ _ ?_
      clear x2 y2 v0 v1 u0 u1 ha
      go_wp2
      exact ⟨⟨k + 1, by omega, by simp, HX.out.drewN _, HY.out.drewN _, below_drewN HB.out _⟩, by simp [intOf]; omega⟩
    · go_wp2
      go_ret
      exact ⟨rfl, HB.out⟩

end Go.Proofs.YtogpbldipmcbdaaDoor
