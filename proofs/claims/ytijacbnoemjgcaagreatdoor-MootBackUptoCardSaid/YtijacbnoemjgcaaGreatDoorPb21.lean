/- The reference: the next configuration, whatever the command. -/
import Derived.Test.YtijacbnoemjgcaaGreatDoorPb20
set_option linter.unusedVariables false
set_option linter.unusedSimpArgs false
set_option linter.unnecessarySimpa false
namespace Go.Proofs.YtijacbnoemjgcaaGreatDoor
open Go.RowKit Go.Shelf

theorem rnext_any (c : Cfg) (x : Cmd) (s : Value) (w : World) (hr : Rd w w.heap.size 1 s c.gs.length (ints c.gs)) (hm : c.gs.length ≤ 1000) : RNext c x s w := by
  cases hck : checkB c with
  | false => exact rnext_form c x s w hr hm hck
  | true =>
    have hr0 := hr
    obtain ⟨_, A, cc, rfl, _, _⟩ := hr0
    obtain ⟨kind, grp, sh⟩ := x
    have bad : ∀ r, refusedS c ⟨kind, grp, sh⟩ = r → r ≠ 0 → Hid (nextS c ⟨kind, grp, sh⟩ = (cfg0, r)) := by
      intro r h1 h2
      unfold Hid nextS
      rw [if_neg (by rw [hck]; simp), if_pos (by rw [h1]; exact h2), h1]
    by_cases k1 : kind < 1
    · exact rnext_k1 c kind grp sh A cc w hr hm hck (bad 1 (by unfold refusedS; rw [if_pos (Or.inl k1)]) (by omega)) k1
    by_cases k3 : 3 < kind
    · exact rnext_k3 c kind grp sh A cc w hr hm hck (bad 1 (by unfold refusedS; rw [if_pos (Or.inr (Or.inl k3))]) (by omega)) k3
    have k1' : 1 ≤ kind := by omega
    have k3' : kind ≤ 3 := by omega
    by_cases g1 : grp < 1
    · have hg : groupB grp = false := by simp [groupB]; omega
      exact rnext_g1 c kind grp sh A cc w hr hm hck (bad 1 (by unfold refusedS; rw [if_pos (Or.inr (Or.inr hg))]) (by omega)) k1' k3' g1
    by_cases g4 : 4 < grp
    · have hg : groupB grp = false := by simp [groupB]; omega
      exact rnext_g4 c kind grp sh A cc w hr hm hck (bad 1 (by unfold refusedS; rw [if_pos (Or.inr (Or.inr hg))]) (by omega)) k1' k3' g4
    have hg : groupB grp = true := by simp [groupB]; omega
    have d1 : decide (grp < 1) = false := by simpa using g1
    have d4 : decide (4 < grp) = false := by simpa using g4
    have hk : kind = 3 ∨ kind = 1 ∨ kind = 2 := by omega
    clear k1 k3 k1' k3'
    rcases hk with rfl | rfl | rfl
    · by_cases s0 : sh < 0
      · exact rnext_s0 c grp sh A cc w hr hm hck (bad 1 (by unfold refusedS; simp [hg, s0]) (by omega)) d1 d4 s0
      by_cases s4 : 4 ≤ sh
      · exact rnext_s4 c grp sh A cc w hr hm hck (bad 1 (by unfold refusedS; simp [hg, s4]) (by omega)) d1 d4 s4
      have s0' : 0 ≤ sh := by omega
      have s4' : sh < 4 := by omega
      have e0 : decide (sh < 0) = false := by simpa using s0
      have e4 : decide (4 ≤ sh) = false := by simpa using s4'
      cases hj : inS grp c.gs with
      | false => exact rnext_mi c grp sh A cc w hr hm hck (bad 150 (by unfold refusedS; simp [hg, s0', s4', hj] <;> omega) (by omega)) d1 d4 s0' s4' e0 e4 hj
      | true =>
        cases ho : (c.o.get sh.toNat == grp) with
        | true =>
          have ho' : c.o.get sh.toNat = grp := by simpa using ho
          exact rnext_mo c grp sh A cc w hr hm hck (bad 150 (by unfold refusedS; simp [hg, hj, ho'] <;> omega) (by omega)) d1 d4 s0' s4' e0 e4 hj ho
        | false =>
          have ho' : c.o.get sh.toNat ≠ grp := by simpa using ho
          cases hn : (c.num == 1099511627776) with
          | true =>
            have hn' : c.num = 1099511627776 := by simpa using hn
            exact rnext_mn c grp sh A cc w hr hm hck (bad 151 (by unfold refusedS; simp [hg, hj, ho', hn'] <;> omega) (by omega)) d1 d4 s0' s4' e0 e4 hj ho hn
          | false =>
            have hn' : c.num ≠ 1099511627776 := by simpa using hn
            exact rnext_move c grp sh A cc w hr hm hck (by unfold refusedS; simp [hg, hj, ho', hn'] <;> omega) d1 d4 hj hn s0' s4' e0 e4 ho
    · cases hs : (sh == 0) with
      | false =>
        have hs' : sh ≠ 0 := by simpa using hs
        exact rnext_sj c grp sh A cc w hr hm hck (bad 1 (by unfold refusedS; simp [hg, hs']) (by omega)) d1 d4 hs
      | true =>
        obtain rfl : sh = 0 := by simpa using hs
        cases hj : inS grp c.gs with
        | true => exact rnext_ji c grp A cc w hr hm hck (bad 150 (by unfold refusedS; simp [hg, hj]) (by omega)) d1 d4 hj
        | false =>
          cases hn : (c.num == 1099511627776) with
          | true =>
            have hn' : c.num = 1099511627776 := by simpa using hn
            exact rnext_jn c grp A cc w hr hm hck (bad 151 (by unfold refusedS; simp [hg, hj, hn']) (by omega)) d1 d4 hj hn
          | false =>
            have hn' : c.num ≠ 1099511627776 := by simpa using hn
            exact rnext_join c grp A cc w hr hm hck (by unfold refusedS; simp [hg, hj, hn']) d1 d4 hj hn
    · cases hs : (sh == 0) with
      | false =>
        have hs' : sh ≠ 0 := by simpa using hs
        exact rnext_sl c grp sh A cc w hr hm hck (bad 1 (by unfold refusedS; simp [hg, hs']) (by omega)) d1 d4 hs
      | true =>
        obtain rfl : sh = 0 := by simpa using hs
        cases hj : inS grp c.gs with
        | false => exact rnext_li c grp A cc w hr hm hck (bad 150 (by unfold refusedS; simp [hg, hj]) (by omega)) d1 d4 hj
        | true =>
          cases hl : ((c.gs.length : Int) == 1) with
          | true =>
            have hl' : c.gs.length = 1 := by have : (c.gs.length : Int) = 1 := by simpa using hl
                                             omega
            exact rnext_l1 c grp A cc w hr hm hck (bad 150 (by unfold refusedS; simp [hg, hj, hl']) (by omega)) d1 d4 hj hl
          | false =>
            have hl' : c.gs.length ≠ 1 := by have : ¬ (c.gs.length : Int) = 1 := by simpa using hl
                                             omega
            cases hn : (c.num == 1099511627776) with
            | true =>
              have hn' : c.num = 1099511627776 := by simpa using hn
              exact rnext_ln c grp A cc w hr hm hck (bad 151 (by unfold refusedS; simp [hg, hj, hl', hn']) (by omega)) d1 d4 hj hl hn
            | false =>
              have hn' : c.num ≠ 1099511627776 := by simpa using hn
              exact rnext_leave c grp A cc w hr hm hck (by unfold refusedS; simp [hg, hj, hl', hn']) d1 d4 hj hn hl

end Go.Proofs.YtijacbnoemjgcaaGreatDoor

namespace Go.Proofs.YtijacbnoemjgcaaGreatDoor
open Go.RowKit Go.Shelf

/-- A configuration and the slice of its groups. -/
abbrev CfgV := Cfg × Value
def CfgV.cells (p : CfgV) : List Value := (cfgCells p.1.num p.2 p.1.o).toList
def cellsP (ps : List CfgV) : List Value := ps.flatMap CfgV.cells
theorem cellsP_length (ps : List CfgV) : (cellsP ps).length = ps.length * 6 := by
  induction ps with
  | nil => rfl
  | cons p ps ih => rw [cellsP, List.flatMap_cons, List.length_append]; unfold cellsP at ih; rw [ih]; simp [CfgV.cells, cfgCells]; omega
theorem cellsP_append (a b : List CfgV) : cellsP (a ++ b) = cellsP a ++ cellsP b := by simp [cellsP]
theorem cellsP_get (ps : List CfgV) (k : Nat) (p : CfgV) (hp : ps[k]? = some p) (i : Nat) (hi : i < 6) : (cellsP ps)[k * 6 + i]? = (cfgCells p.1.num p.2 p.1.o)[i]? := by
  induction ps generalizing k with
  | nil => simp at hp
  | cons q ps ih =>
    have hq : (CfgV.cells q).length = 6 := by simp [CfgV.cells, cfgCells]
    rw [cellsP, List.flatMap_cons]
    cases k with
    | zero =>
      simp at hp
      subst hp
      rw [Nat.zero_mul, Nat.zero_add, List.getElem?_append_left (by omega)]
      simp [CfgV.cells]
    | succ k =>
      rw [List.getElem?_append_right (by omega), hq, show (k + 1) * 6 + i - 6 = k * 6 + i by omega]
      exact ih k (by simpa using hp)
theorem cells_one (p : CfgV) : ∀ u ∈ CfgV.cells p, u.oneCell' = true → True := fun _ _ _ => trivial

/-- The chain at block h: v is the slice of its configurations ps. -/
structure ChnP (base : Nat) (w : World) (h : Nat) (v : Value) (ps : List CfgV) : Prop where
  box : Blk w h 105 #[v]
  row : w.ownsRow base 46 6 v ps.length (cellsP ps)
  own : ∀ p ∈ ps, w.ownsRow base 3 1 p.2 p.1.gs.length (ints p.1.gs)
  ok : ∀ p ∈ ps, checkB p.1 = true
  pos : 0 < ps.length
def Chn (base : Nat) (w : World) (h : Nat) (cs : List Cfg) : Prop := ∃ v ps, ChnP base w h v ps ∧ ps.map (·.1) = cs

section
variable {base : Nat} {w w' : World} {h : Nat} {v : Value} {ps : List CfgV} {F : Nat → Prop} {cs : List Cfg}
/-- The blocks of F hold cells of types that a chain has none of. -/
def Apart (w : World) (F : Nat → Prop) : Prop := ∀ i, i < w.heap.size → F i → ∃ t cs, Blk w i t cs ∧ t ≠ 105 ∧ t ≠ 46 ∧ t ≠ 3
theorem ChnP.chg (hp : ChnP base w h v ps) (hc : Chg F w w') (ha : Apart w F) : ChnP base w' h v ps := by
  refine ⟨hp.box.chg hc (fun hF => ?_), hc.owns hp.row (fun g hg hF => ?_), fun p hpm => hc.owns (hp.own p hpm) (fun g hg hF => ?_), hp.ok, hp.pos⟩
  · obtain ⟨t, cs, hb, h1, h2, h3⟩ := ha h hp.box.lt hF
    exact Blk.ne_ hb hp.box h1 rfl
  · obtain ⟨t, cs, hb, h1, h2, h3⟩ := ha g (hp.row.lt g hg).2 hF
    exact own_blk_ne hp.row hb (fun e => h2 e.symm) hg
  · obtain ⟨t, cs, hb, h1, h2, h3⟩ := ha g ((hp.own p hpm).lt g hg).2 hF
    exact own_blk_ne (hp.own p hpm) hb (fun e => h3 e.symm) hg
theorem apart_none (w : World) : Apart w (fun _ => False) := fun _ _ h => h.elim
theorem ChnP.below (hp : ChnP base w h v ps) (hb : Below w.heap.size w w') : ChnP base w' h v ps := hp.chg (Chg.of_below (F := fun _ => False) hb) (apart_none w)
theorem Chn.chg (hp : Chn base w h cs) (hc : Chg F w w') (ha : Apart w F) : Chn base w' h cs := by
  obtain ⟨v, ps, hp, he⟩ := hp; exact ⟨v, ps, hp.chg hc ha, he⟩
theorem Chn.below (hp : Chn base w h cs) (hb : Below w.heap.size w w') : Chn base w' h cs := by
  obtain ⟨v, ps, hp, he⟩ := hp; exact ⟨v, ps, hp.below hb, he⟩
theorem Chn.drewN (hp : Chn base w h cs) (n : Nat) : Chn base (w.drewN n) h cs := hp.below (below_drewN (Below.refl _ _) n)

/-- The cells of the k'th configuration. -/
theorem ChnP.get (hp : ChnP base w h v ps) {k : Nat} {p : CfgV} (hk : ps[k]? = some p) :
    ∃ g c, v = .slice (some ⟨g, 0, none⟩) ps.length c ∧ base ≤ g ∧ g < w.heap.size ∧ w.cell? ⟨g, k * 6, none⟩ = some (.int .i64 p.1.num) ∧ w.cell? ⟨g, k * 6 + 1, none⟩ = some p.2 ∧ w.cell? ⟨g, k * 6 + 2, none⟩ = some (.int .i64 p.1.o.a)
      ∧ w.cell? ⟨g, k * 6 + 3, none⟩ = some (.int .i64 p.1.o.b) ∧ w.cell? ⟨g, k * 6 + 4, none⟩ = some (.int .i64 p.1.o.c) ∧ w.cell? ⟨g, k * 6 + 5, none⟩ = some (.int .i64 p.1.o.d) := by
  obtain ⟨g, c, rfl, hb, hg⟩ := hp.row.form hp.pos
  have e : ∀ i, i < 6 → ∀ u, (cfgCells p.1.num p.2 p.1.o)[i]? = some u → w.cell? ⟨g, k * 6 + i, none⟩ = some u := by
    intro i hi u hu
    have := hp.row.cells (g := g) rfl (k * 6 + i) u ((cellsP_get ps k p hk i hi).trans hu)
    rw [Addr.add_lit, Nat.zero_add] at this
    exact this
  exact ⟨g, c, rfl, hb, hg, e 0 (by omega) _ rfl, e 1 (by omega) _ rfl, e 2 (by omega) _ rfl, e 3 (by omega) _ rfl, e 4 (by omega) _ rfl, e 5 (by omega) _ rfl⟩
end

set_option maxHeartbeats 1000000 in
set_option maxRecDepth 100000 in
theorem new_any (w : World) : Calls Tryz.prog 24 #[] w fun e w' => e = .returned (.pointer (some ⟨w.heap.size + 1, 0, none⟩)) ∧ Chn w.heap.size w' (w.heap.size + 1) [cfg0] ∧ Below w.heap.size w w' := by
  go_enter Tryz.func24, Tryz.ntmps24
  go_wp2
  go_ret
  refine ⟨rfl, ⟨.slice (some ⟨w.heap.size, 0, none⟩) 1 1, [(cfg0, .slice none 0 0)], ⟨(Blk.new (w.alloc _) _ _).cast_ (by simp), ?_, ?_, ?_, by simp⟩, rfl⟩, ((Below.refl _ _).alloc (Nat.le_refl _) _).alloc (by simp) _⟩
  · refine ⟨by simp [cellsP, CfgV.cells, cfgCells], .inr ⟨w.heap.size, 1, #[.int .i64 0, .slice none 0 0, .int .i64 0, .int .i64 0, .int .i64 0, .int .i64 0], rfl, Nat.le_refl _, ?_, by simp, by unfold maxLen; omega, by simp, by simp [cellsP, CfgV.cells, cfgCells, cfg0]⟩⟩
    exact (Below.heap_alloc _ _ _ (by simp)).trans (heap_alloc_new w _)
  · intro p hp
    simp at hp
    subst hp
    exact World.ownsRow_nil _ _ _ _
  · intro p hp
    simp at hp
    subst hp
    rfl

set_option maxHeartbeats 1000000 in
set_option maxRecDepth 100000 in
theorem last_any (base h : Nat) (v : Value) (ps : List CfgV) (m : Nat) (p : CfgV) (w : World) (hp : ChnP base w h v ps) (hl : ps.length = m + 1) (hm : ps[m]? = some p) (h41 : m ≤ 1000) :
    Calls Tryz.prog 38 #[.pointer (some ⟨h, 0, none⟩)] w fun e w' => e = .returned (p.1.val p.2) ∧ Below w.heap.size w w' := by
  obtain ⟨cf, sv⟩ := p
  obtain ⟨As, cs, hsv⟩ := own_shape (hp.own _ (List.mem_of_getElem? hm))
  simp only at hsv
  subst hsv
  have hpW := hp.below ((Below.refl _ w).alloc (Nat.le_refl _) (.cells #[.int .i64 0, .slice none 0 0, .int .i64 0, .int .i64 0, .int .i64 0, .int .i64 0] 46))
  have hzW : Blk (w.alloc (.cells #[.int .i64 0, .slice none 0 0, .int .i64 0, .int .i64 0, .int .i64 0, .int .i64 0] 46)) w.heap.size 46 (cfgCells 0 (.slice none 0 0) ⟨0, 0, 0, 0⟩) := Blk.new w _ _
  have hbW := Lib.hid ((Below.refl _ w).alloc (Nat.le_refl _) (.cells #[.int .i64 0, .slice none 0 0, .int .i64 0, .int .i64 0, .int .i64 0, .int .i64 0] 46))
  have HP := Lib.hid hpW
  have HZ := Lib.hid hzW
  have hsub : IntKind.i64.wrap (m : Int) = (m : Int) := by rw [IntKind.wrap_i64]; omega
  have hm0 : (0 : Int) ≤ (m : Int) := by omega
  have hm1 : (m : Int) < (m : Int) + 1 := by omega
  clear hp hpW hzW
  go_enter Tryz.func38, Tryz.ntmps38
  go_wp2_with fail
  generalize w.alloc (.cells #[.int .i64 0, .slice none 0 0, .int .i64 0, .int .i64 0, .int .i64 0, .int .i64 0] 46) = W at *
  obtain ⟨g, c, rfl, hb, hg, q0, q1, q2, q3, q4, q5⟩ := HP.out.get hm
  have b0 : W.cell? ⟨h, 0, none⟩ = some (.slice (some ⟨g, 0, none⟩) (m + 1) c) := by rw [← hl]; exact HP.out.box.cell 0
  obtain ⟨z0, z1, z2, z3, z4, z5⟩ := keep6 HZ.out (Below.refl _ _)
  have f0 := HZ.out.frozen 0
  have f1 := HZ.out.frozen 1
  have f2 := HZ.out.frozen 2
  have f3 := HZ.out.frozen 3
  have f4 := HZ.out.frozen 4
  have f5 := HZ.out.frozen 5
  have hnc : m + 1 ≤ c := by rw [← hl]; exact (own_form HP.out.row).2.1
  go_region
  go_wp2_with fail
  refine bodyPost_ret (v := cf.val (.slice As cf.gs.length cs)) (by simp [results, Tryz.results38, go_sem, z0, z1, z2, z3, z4, z5, Cfg.val]) rfl ?_
  exact ⟨rfl, (((((((Chg.of_below hbW.out).setCell (F := fun i => i = w.heap.size) (fun _ => rfl) _).setCell (fun _ => rfl) _).setCell (fun _ => rfl) _).setCell (fun _ => rfl) _).setCell (fun _ => rfl) _).setCell (fun _ => rfl) _).drew.to_below (by intro i hi; omega) (Nat.le_refl _)⟩

end Go.Proofs.YtijacbnoemjgcaaGreatDoor
