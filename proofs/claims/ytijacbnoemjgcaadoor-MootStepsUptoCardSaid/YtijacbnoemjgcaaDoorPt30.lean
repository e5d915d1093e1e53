/- The chain: Last. -/
import Derived.Test.YtijacbnoemjgcaaDoorPt27
import Derived.Test.YtijacbnoemjgcaaDoorPt28
import Derived.Laws.StructEq
import Derived.ChangeKeysEq
set_option linter.unusedVariables false
set_option linter.unusedSimpArgs false
set_option linter.unnecessarySimpa false
namespace Go.Proofs.YtijacbnoemjgcaaDoor
open Go.RowKit Go.Shelf

set_option maxHeartbeats 1000000 in
set_option maxRecDepth 100000 in
theorem last_nil (w : World) : GivesC 27 #[.pointer none] w cfg0 := by
  unfold GivesC
  go_enter Tryd.func27, Tryd.ntmps27
  go_wp2_with fail
  refine bodyPost_ret (v := cfg0.val (.slice none 0 0)) (by simp [results, Tryd.results27, go_sem, Cfg.val, cfg0]) rfl ?_
  exact ⟨_, rfl, World.ownsRow_nil _ _ _ _, (Below.refl _ _).alloc (Nat.le_refl _) _⟩

set_option maxHeartbeats 1000000 in
set_option maxRecDepth 100000 in
theorem lastc_any (base h : Nat) (v : Value) (ps : List CfgV) (m : Nat) (p : CfgV) (w : World) (hp : ChnP base w h v ps) (hl : ps.length = m + 1) (hm : ps[m]? = some p) (h41 : m ≤ 1000) : GivesC 27 #[.pointer (some ⟨h, 0, none⟩)] w p.1 := by
  have hg4 := (check_bounds (hp.ok _ (List.mem_of_getElem? hm))).2.2.1
  have hpl := place hp
  have HP := Lib.hid hpl
  clear hp hpl
  unfold GivesC
  go_enter Tryd.func27, Tryd.ntmps27
  go_wp2_with fail
  generalize w.alloc (.cells #[.int .i64 0, .slice none 0 0, .int .i64 0, .int .i64 0, .int .i64 0, .int .i64 0] 49) = W at *
  refine (last_any base h v ps m p W HP.out.1 hl hm h41).mono ?_
  rintro e w1 ⟨rfl, hb⟩
  have HP1 := Lib.hid (HP.out.1.below hb)
  have HZ1 := Lib.hid (HP.out.2.1.below hb HP.out.2.1.lt)
  have HB1 := Lib.hid (HP.out.2.2.trans (hb.mono HP.out.2.2.size))
  clear hb HP
  unfold Cfg.val
  go_wp2_with fail
  refine (own_any p.1 p.2 w1 w1.heap.size (Nat.le_refl _) (Rd.of_own (HP1.out.own p (List.mem_of_getElem? hm))) (by omega)).mono ?_
  rintro e w2 ⟨s', rfl, hown, hb⟩
  obtain ⟨As, cs, rfl⟩ := own_shape hown
  have hz := HZ1.out.below hb HZ1.out.lt
  have HB2 := Lib.hid (HB1.out.trans (hb.mono HB1.out.size))
  have hsz : w.heap.size ≤ w1.heap.size := HB1.out.size
  obtain ⟨z0, z1, z2, z3, z4, z5⟩ := keep6 hz (Below.refl _ _)
  have f0 := hz.frozen 0
  have f1 := hz.frozen 1
  have f2 := hz.frozen 2
  have f3 := hz.frozen 3
  have f4 := hz.frozen 4
  have f5 := hz.frozen 5
  have HZ := Lib.hid hz
  have HO := Lib.hid hown
  clear hz hown hb
  unfold Cfg.val
  go_wp2_with fail
  refine bodyPost_ret (v := p.1.val (.slice As p.1.gs.length cs)) (by simp [results, Tryd.results27, go_sem, z0, z1, z2, z3, z4, z5, Cfg.val]) rfl ?_
  exact ⟨_, rfl, put6 HB2.out HO.out hsz _ HZ.out (Nat.le_refl _) _ (((((((Chg.refl (fun i => i = w.heap.size) w2).setCell (fun _ => rfl) _).setCell (fun _ => rfl) _).setCell (fun _ => rfl) _).setCell (fun _ => rfl) _).setCell (fun _ => rfl) _).setCell (fun _ => rfl) _)⟩

theorem lastcfg_any (base h : Nat) (cs : List Cfg) (w : World) (hp : Chn base w h cs) (h41 : cs.length ≤ 1000) :
    GivesC 27 #[.pointer (some ⟨h, 0, none⟩)] w (cs.getLastD cfg0) := by
  obtain ⟨v, ps, hp, rfl⟩ := hp
  rw [List.length_map] at h41
  have hpos := hp.pos
  obtain ⟨m, hm⟩ : ∃ m, ps.length = m + 1 := ⟨ps.length - 1, by omega⟩
  have hk : m < ps.length := by omega
  have := lastc_any base h v ps m ps[m] w hp hm (List.getElem?_eq_getElem hk) (by omega)
  have e : (ps.map (·.1)).getLastD cfg0 = ps[m].1 := by
    rw [List.getLastD_eq_getLast?, List.getLast?_eq_getElem?, List.length_map, hm, Nat.add_sub_cancel, List.getElem?_map, List.getElem?_eq_getElem hk]; rfl
  rw [e]; exact this

end Go.Proofs.YtijacbnoemjgcaaDoor

namespace Go.Proofs.YtijacbnoemjgcaaDoor
open Go.RowKit Go.Shelf

def ownEq (o p : Own) : Bool := o.a == p.a && (o.b == p.b && (o.c == p.c && o.d == p.d))
theorem ownEq_refl (o : Own) : ownEq o o = true := by simp [ownEq]
theorem ownEq_iff (o p : Own) : ownEq o p = true ↔ o = p := by
  obtain ⟨a, b, c, d⟩ := o
  obtain ⟨e, f, g, h⟩ := p
  simp [ownEq]
theorem eqi_one {d : Nat} {xs ys : Array Value} {i : Nat} {is : List Nat} {a b : Value} {r s : Bool} {w : World}
    (ha : (part 3 xs (i * Tryd.prog.cellsOf 3)).run Tryd.prog w = .ok a w) (hb : (part 3 ys (i * Tryd.prog.cellsOf 3)).run Tryd.prog w = .ok b w) (he : (Op.equalIn d 3 a b).run Tryd.prog w = .ok r w) (hr : (Op.eqItems d 3 (Tryd.prog.cellsOf 3) xs ys is).run Tryd.prog w = .ok s w) :
    (Op.eqItems d 3 (Tryd.prog.cellsOf 3) xs ys (i :: is)).run Tryd.prog w = .ok (r && s) w := by
  rw [Op.eqItems]
  simp only [Sem.run_bind, ha, hb, he, Result.andThen_ok]
  cases r
  · simp
  · simpa using hr
theorem eql_own (o p : Own) (w : World) :
    (binOp .eql 47 (.agg #[.int .i64 o.a, .int .i64 o.b, .int .i64 o.c, .int .i64 o.d]) (.agg #[.int .i64 p.a, .int .i64 p.b, .int .i64 p.c, .int .i64 p.d])).run Tryd.prog w = .ok (.bool (ownEq o p)) w := by
  obtain ⟨i0, hi0, hz0, hz1, hz2⟩ := info_parts int_info
  rw [run_eql_struct, run_equalIn_array w 9999 _ _ Tryd.underlying47 hi0]
  have h3 := fun (d : Nat) (a b : Int) => run_equalIn_int (P := Tryd.prog) w d 3 .i64 .i64 a b Tryd.underlying3
  have p0 : ∀ x : Own, (part 3 #[.int .i64 x.a, .int .i64 x.b, .int .i64 x.c, .int .i64 x.d] (0 * Tryd.prog.cellsOf 3)).run Tryd.prog w = .ok (.int .i64 x.a) w := fun x => by kernel_rfl
  have p1 : ∀ x : Own, (part 3 #[.int .i64 x.a, .int .i64 x.b, .int .i64 x.c, .int .i64 x.d] (1 * Tryd.prog.cellsOf 3)).run Tryd.prog w = .ok (.int .i64 x.b) w := fun x => by kernel_rfl
  have p2 : ∀ x : Own, (part 3 #[.int .i64 x.a, .int .i64 x.b, .int .i64 x.c, .int .i64 x.d] (2 * Tryd.prog.cellsOf 3)).run Tryd.prog w = .ok (.int .i64 x.c) w := fun x => by kernel_rfl
  have p3 : ∀ x : Own, (part 3 #[.int .i64 x.a, .int .i64 x.b, .int .i64 x.c, .int .i64 x.d] (3 * Tryd.prog.cellsOf 3)).run Tryd.prog w = .ok (.int .i64 x.d) w := fun x => by kernel_rfl
  have e4 : (Op.eqItems 9999 3 (Tryd.prog.cellsOf 3) #[.int .i64 o.a, .int .i64 o.b, .int .i64 o.c, .int .i64 o.d] #[.int .i64 p.a, .int .i64 p.b, .int .i64 p.c, .int .i64 p.d] []).run Tryd.prog w = .ok true w := by simp [Op.eqItems]
  have e3 := eqi_one (p3 o) (p3 p) (h3 9998 o.d p.d) e4
  have e2 := eqi_one (p2 o) (p2 p) (h3 9998 o.c p.c) e3
  have e1 := eqi_one (p1 o) (p1 p) (h3 9998 o.b p.b) e2
  have e0 := eqi_one (p0 o) (p0 p) (h3 9998 o.a p.a) e1
  rw [show List.range 4 = [0, 1, 2, 3] from rfl, e0]
  simp [ownEq]

def intsEq (l m : List Int) : Bool := l == m
theorem intsEq_refl (l : List Int) : intsEq l l = true := by simp [intsEq]

set_option maxHeartbeats 1000000 in
set_option maxRecDepth 100000 in
theorem ints_any (v u : Value) (l m : List Int) (w : World) (B : Nat) (hr : Rd w B 1 v l.length (ints l)) (hq : Rd w B 1 u m.length (ints m)) (hm : l.length ≤ 9223372036854775807) (hm2 : m.length ≤ 9223372036854775807) :
    Calls Tryd.prog 26 #[v, u] w fun e w' => e = .returned (.bool (intsEq l m)) ∧ Below w.heap.size w w' := by
  have HR := Lib.hid hr
  have HQ := Lib.hid hq
  obtain ⟨_, A, c, rfl, _, _⟩ := hr
  obtain ⟨_, A2, c2, rfl, hmc, _⟩ := hq
  go_enter Tryd.func26, Tryd.ntmps26
  go_wp2
  go_loopw [8] (fun i wr => ∃ k : Nat, k ≤ l.length ∧ i = .int .i64 k ∧ Hid (k ≤ m.length ∧ l.take k = m.take k) ∧ Hid (Below w.heap.size w wr) ∧ ∀ p : Addr, p.block < B → wr.cell? p = w.cell? p) (fun i _ => l.length - (intOf i).toNat)
  case atStart => exact ⟨0, Nat.zero_le _, rfl, ⟨by omega, by simp⟩, Below.refl _ _, fun _ _ => rfl⟩
  case round =>
    obtain ⟨k, hk, rfl, hI, hB, hC⟩ := hrel
    have HC := Lib.hid hC
    clear hC
    by_cases hlt : k < l.length
    · obtain ⟨g, off, c', hV, hg, hc⟩ := rd_get1 HR.out hlt
      injection hV with hA _ hcc
      subst hA hcc
      have hc1 := (HC.out _ hg).trans hc
      clear hc
      by_cases hmk : k < m.length
      · obtain ⟨g2, off2, c2', hV2, hg2, hd⟩ := rd_get1 HQ.out hmk
        injection hV2 with hA2 _ hcc2
        subst hA2 hcc2
        have hd1 := (HC.out _ hg2).trans hd
        clear hd
        have hmk2 : decide ((m.length : Int) ≤ (k : Int)) = false := by rw [decide_eq_false_iff_not]; omega
        have hmk3 : decide (m.length ≤ k) = false := by rw [decide_eq_false_iff_not]; omega
        have hmk4 : (k : Int) < (m.length : Int) := by omega
        have hk0 : (0 : Int) ≤ (k : Int) := by omega
        have hk1 : (k : Int) < (l.length : Int) := by omega
        cases hne : (l[k] != m[k]) with
        | true =>
          have hf : Hid (intsEq l m = false) := by
            unfold Hid intsEq
            rw [beq_eq_false_iff_ne]
            rintro rfl
            simp at hne
          go_wp2_with fail
          go_quiet (fail)
          go_wp2_with fail
          go_ret
          rw [hf.out]
          exact ⟨rfl, below_drewN hB.out _⟩
        | false =>
          have he : l[k] = m[k] := by simpa using hne
          have hI2 : Hid (k + 1 ≤ m.length ∧ l.take (k + 1) = m.take (k + 1)) := by
            refine ⟨by omega, ?_⟩
            rw [List.take_succ_eq_append_getElem hlt, List.take_succ_eq_append_getElem hmk, hI.out.2, he]
          clear he
          go_wp2_with fail
          go_quiet (fail)
          go_wp2_with fail
          go_roundw
          case rel => exact ⟨k + 1, by omega, by go_num, hI2, below_drewN hB.out _, fun p hp => HC.out p hp⟩
          case measure => simp [intOf]; omega
      · have hf : Hid (intsEq l m = false) := by
          unfold Hid intsEq
          rw [beq_eq_false_iff_ne]
          rintro rfl
          omega
        have hmk2 : (m.length : Int) ≤ (k : Int) := by omega
        have hmk3 : decide (m.length ≤ k) = true := by rw [decide_eq_true_iff]; omega
        go_wp2_with fail
        go_quiet (fail)
        go_wp2_with fail
        go_ret
        rw [hf.out]
        exact ⟨rfl, below_drewN hB.out _⟩
    · obtain rfl : k = l.length := by omega
      cases hml : ((l.length : Int) == (m.length : Int)) with
      | true =>
        have hml' : l.length = m.length := by have : (l.length : Int) = (m.length : Int) := by simpa using hml
                                              omega
        have hf : Hid (intsEq l m = true) := by
          unfold Hid intsEq
          rw [beq_iff_eq]
          have := hI.out.2
          rw [List.take_of_length_le (Nat.le_refl _), hml', List.take_of_length_le (Nat.le_refl _)] at this
          exact this
        clear hml'
        go_wp2_with fail
        go_ret
        rw [hf.out]
        exact ⟨rfl, hB.out⟩
      | false =>
        have hf : Hid (intsEq l m = false) := by
          unfold Hid intsEq
          rw [beq_eq_false_iff_ne]
          rintro rfl
          simp at hml
        go_wp2_with fail
        go_ret
        rw [hf.out]
        exact ⟨rfl, hB.out⟩

end Go.Proofs.YtijacbnoemjgcaaDoor
