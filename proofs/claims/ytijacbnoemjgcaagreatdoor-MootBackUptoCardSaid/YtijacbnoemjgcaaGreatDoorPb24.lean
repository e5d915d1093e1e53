/- Do, with the chain as its configurations alone. -/
import Derived.Test.YtijacbnoemjgcaaGreatDoorPb23
import Derived.Test.YtijacbnoemjgcaaGreatDoorPb22
import Derived.Laws.StructEq
import Derived.ChangeKeysEq
set_option linter.unusedVariables false
set_option linter.unusedSimpArgs false
set_option linter.unnecessarySimpa false
namespace Go.Proofs.YtijacbnoemjgcaaGreatDoor
open Go.RowKit Go.Shelf

/-- Blocks of a chain, from base on. -/
def Mine (base : Nat) (w : World) (i : Nat) : Prop := base ≤ i ∧ ∃ t cs, Blk w i t cs ∧ (t = 105 ∨ t = 46)
theorem do_in (base h : Nat) (cs : List Cfg) (x : Cmd) (w : World) (hp : Chn base w h cs) (hb : base ≤ h) (h41 : cs.length ≤ 41) :
    Calls Tryz.prog 29 #[.pointer (some ⟨h, 0, none⟩), .agg #[.int .i64 x.kind, .int .i64 x.group, .int .i64 x.shard]] w fun e w' =>
      e = .returned (.int .i64 (doS cs x).2) ∧ Chn base w' h (doS cs x).1 ∧ Chg (Mine base w) w w' := by
  obtain ⟨v, ps, hp, rfl⟩ := hp
  rw [List.length_map] at h41
  refine (do_any base h v ps x w hp h41).mono ?_
  rintro e w' ⟨v', ps', rfl, hp', he, hc, _⟩
  refine ⟨rfl, ⟨v', ps', hp', he⟩, hc.mono fun i hi hF => ?_⟩
  rcases hF with rfl | hF
  · exact ⟨hb, _, _, hp.box, .inl rfl⟩
  · refine ⟨(hp.row.lt i hF).1, ?_⟩
    rcases hp.row.2 with ⟨_, h0⟩ | ⟨g', cap', cur', hv', _, hb', _⟩
    · have := hp.pos; omega
    · rw [hv'] at hF
      simp only [Value.ownBlock, Option.some.injEq] at hF
      subst hF
      exact ⟨_, _, hb', .inr rfl⟩
theorem mine_below {base : Nat} {w w' : World} (h : Chg (Mine base w) w w') (hb : base ≤ w.heap.size) : Below base w w' := h.to_below (fun i hi hF => by have := hF.1; omega) hb
theorem Chn.base_le {base h : Nat} {w : World} {cs : List Cfg} (hp : Chn base w h cs) : base ≤ w.heap.size := by
  obtain ⟨v, ps, hp, rfl⟩ := hp
  obtain ⟨g, c, _, hb, hg⟩ := hp.row.form hp.pos
  omega


end Go.Proofs.YtijacbnoemjgcaaGreatDoor

namespace Go.Proofs.YtijacbnoemjgcaaGreatDoor
open Go.RowKit Go.Shelf

theorem rblkC {W w2 : World} (h : Below (W.alloc (.cells #[.int .i64 0, .slice none 0 0, .int .i64 0, .int .i64 0, .int .i64 0, .int .i64 0] 92)).drew.heap.size (W.alloc (.cells #[.int .i64 0, .slice none 0 0, .int .i64 0, .int .i64 0, .int .i64 0, .int .i64 0] 92)).drew w2) :
    Blk w2 W.heap.size 92 (cfgCells 0 (.slice none 0 0) ⟨0, 0, 0, 0⟩) := Blk.below (Blk.new W _ _).drew h (by simp)
theorem rsix_own {w : World} {b base : Nat} {cs : Array Value} (h : Blk w b 92 cs) {s : Value} {n : Nat} {xs : List Value} (ho : w.ownsRow base 3 1 s n xs) (v0 v1 v2 v3 v4 v5 : Value) :
    ((((((w.setCell ⟨b, 0, none⟩ v0).setCell ⟨b, 1, none⟩ v1).setCell ⟨b, 2, none⟩ v2).setCell ⟨b, 3, none⟩ v3).setCell ⟨b, 4, none⟩ v4).setCell ⟨b, 5, none⟩ v5).ownsRow base 3 1 s n xs :=
  (((((((Chg.refl (fun i => i = b) w).setCell (fun _ => rfl) _).setCell (fun _ => rfl) _).setCell (fun _ => rfl) _).setCell (fun _ => rfl) _).setCell (fun _ => rfl) _).setCell (fun _ => rfl) _).owns ho (fun g hg e => own_blk_ne ho h (by decide) (by rw [hg, e]))

/-- What holds behind 'b, f := Next(ref(c), ..)'. -/
def NxMid (W : World) (r : Cfg × Int) (vc ve : Value) (wc : World) : Prop :=
  ∃ b s2, vc = .pointer (some ⟨b, 0, none⟩) ∧ ve = .int .i64 r.2 ∧ Below W.heap.size W wc ∧ W.heap.size ≤ b ∧ Blk wc b 92 (cfgCells r.1.num s2 r.1.o) ∧ wc.ownsRow W.heap.size 3 1 s2 r.1.gs.length (ints r.1.gs)

def Cmd.cells (x : Cmd) : List Value := [.int .i64 x.kind, .int .i64 x.group, .int .i64 x.shard]
def cellsX (l : List Cmd) : List Value := l.flatMap Cmd.cells
theorem cellsX_length (l : List Cmd) : (cellsX l).length = l.length * 3 := by
  induction l with
  | nil => rfl
  | cons p l ih => rw [cellsX, List.flatMap_cons, List.length_append]; unfold cellsX at ih; rw [ih]; simp [Cmd.cells]; omega
theorem cellsX_append (a b : List Cmd) : cellsX (a ++ b) = cellsX a ++ cellsX b := by simp [cellsX]
theorem cellsX_get (l : List Cmd) (k : Nat) (hk : k < l.length) : (cellsX l)[k * 3]? = some (.int .i64 l[k].kind) ∧ (cellsX l)[k * 3 + 1]? = some (.int .i64 l[k].group) ∧ (cellsX l)[k * 3 + 2]? = some (.int .i64 l[k].shard) := by
  induction l generalizing k with
  | nil => simp at hk
  | cons x l ih =>
    cases k with
    | zero => exact ⟨rfl, rfl, rfl⟩
    | succ k =>
      have := ih k (by simpa using hk)
      have e : ∀ i, (cellsX (x :: l))[(k + 1) * 3 + i]? = (cellsX l)[k * 3 + i]? := by
        intro i
        rw [cellsX, List.flatMap_cons, List.getElem?_append_right (by simp [Cmd.cells]; omega)]
        rw [show (k + 1) * 3 + i - (Cmd.cells x).length = k * 3 + i by simp [Cmd.cells]; omega]
        rfl
      have e0 := e 0
      simp only [Nat.add_zero] at e0
      rw [e0, e 1, e 2]
      simpa using this
theorem rd_cmd {w : World} {B : Nat} {v : Value} {l : List Cmd} (h : Rd w B 3 v l.length (cellsX l)) {k : Nat} (hk : k < l.length) :
    ∃ g off c, v = .slice (some ⟨g, off, none⟩) l.length c ∧ g < B ∧ w.cell? ⟨g, off + k * 3, none⟩ = some (.int .i64 l[k].kind) ∧ w.cell? ⟨g, off + k * 3 + 1, none⟩ = some (.int .i64 l[k].group) ∧ w.cell? ⟨g, off + k * 3 + 2, none⟩ = some (.int .i64 l[k].shard) := by
  obtain ⟨_, A, c, rfl, hnc, h0⟩ := h
  rcases h0 with h0 | ⟨g, off, rfl, hg, hc⟩
  · omega
  · obtain ⟨h1, h2, h3⟩ := cellsX_get l k hk
    exact ⟨g, off, c, rfl, hg, hc _ _ h1, hc _ _ h2, hc _ _ h3⟩

/-- The chain of commands. -/
def runS (l : List Cmd) : List Cfg := l.foldl (fun cs x => (doS cs x).1) [cfg0]
theorem runS_snoc (l : List Cmd) (x : Cmd) : runS (l ++ [x]) = (doS (runS l) x).1 := by simp [runS, List.foldl_append]
theorem doS_len (cs : List Cfg) (x : Cmd) (h : cs.length ≤ 41) (h0 : 0 < cs.length) : (doS cs x).1.length ≤ 41 ∧ 0 < (doS cs x).1.length := by
  unfold doS
  split
  · exact ⟨h, h0⟩
  · split
    · exact ⟨h, h0⟩
    · simp; omega
theorem foldS_len (l : List Cmd) : ∀ cs : List Cfg, cs.length ≤ 41 → 0 < cs.length → (l.foldl (fun cs x => (doS cs x).1) cs).length ≤ 41 ∧ 0 < (l.foldl (fun cs x => (doS cs x).1) cs).length := by
  induction l with
  | nil => intro cs h h0; exact ⟨h, h0⟩
  | cons x l ih => intro cs h h0; exact ih _ (doS_len cs x h h0).1 (doS_len cs x h h0).2
theorem runS_len (l : List Cmd) : (runS l).length ≤ 41 ∧ 0 < (runS l).length := foldS_len l [cfg0] (by simp) (by simp)
theorem runS_take (l : List Cmd) (k : Nat) (hk : k < l.length) : runS (l.take (k + 1)) = (doS (runS (l.take k)) l[k]).1 := by rw [List.take_succ_eq_append_getElem hk, runS_snoc]

/-- The reference's configurations: v is their slice. -/
structure RowP (base : Nat) (w : World) (v : Value) (ps : List CfgV) : Prop where
  row : w.ownsRow base 92 6 v ps.length (cellsP ps)
  own : ∀ p ∈ ps, w.ownsRow base 3 1 p.2 p.1.gs.length (ints p.1.gs)
  ok : ∀ p ∈ ps, checkB p.1 = true
  pos : 0 < ps.length
section
variable {base : Nat} {w w' : World} {v : Value} {ps : List CfgV} {F : Nat → Prop}
def RApart (w : World) (F : Nat → Prop) : Prop := ∀ i, i < w.heap.size → F i → ∃ t cs, Blk w i t cs ∧ t ≠ 92 ∧ t ≠ 3
theorem RowP.chg (hp : RowP base w v ps) (hc : Chg F w w') (ha : RApart w F) : RowP base w' v ps := by
  refine ⟨hc.owns hp.row (fun g hg hF => ?_), fun p hpm => hc.owns (hp.own p hpm) (fun g hg hF => ?_), hp.ok, hp.pos⟩
  · obtain ⟨t, cs, hb, h2, h3⟩ := ha g (hp.row.lt g hg).2 hF
    exact own_blk_ne hp.row hb (fun e => h2 e.symm) hg
  · obtain ⟨t, cs, hb, h2, h3⟩ := ha g ((hp.own p hpm).lt g hg).2 hF
    exact own_blk_ne (hp.own p hpm) hb (fun e => h3 e.symm) hg
theorem RowP.below (hp : RowP base w v ps) (hb : Below w.heap.size w w') : RowP base w' v ps := hp.chg (Chg.of_below (F := fun _ => False) hb) (fun _ _ h => h.elim)
theorem RowP.get (hp : RowP base w v ps) {k : Nat} {p : CfgV} (hk : ps[k]? = some p) :
    ∃ g c, v = .slice (some ⟨g, 0, none⟩) ps.length c ∧ base ≤ g ∧ g < w.heap.size ∧ w.cell? ⟨g, k * 6, none⟩ = some (.int .i64 p.1.num) ∧ w.cell? ⟨g, k * 6 + 1, none⟩ = some p.2 ∧ w.cell? ⟨g, k * 6 + 2, none⟩ = some (.int .i64 p.1.o.a)
      ∧ w.cell? ⟨g, k * 6 + 3, none⟩ = some (.int .i64 p.1.o.b) ∧ w.cell? ⟨g, k * 6 + 4, none⟩ = some (.int .i64 p.1.o.c) ∧ w.cell? ⟨g, k * 6 + 5, none⟩ = some (.int .i64 p.1.o.d) := by
  obtain ⟨g, c, rfl, hb, hg⟩ := hp.row.form hp.pos
  have e : ∀ i, i < 6 → ∀ u, (cfgCells p.1.num p.2 p.1.o)[i]? = some u → w.cell? ⟨g, k * 6 + i, none⟩ = some u := by
    intro i hi u hu
    have := hp.row.cells (g := g) rfl (k * 6 + i) u ((cellsP_get ps k p hk i hi).trans hu)
    rw [Addr.add_lit, Nat.zero_add] at this
    exact this
  exact ⟨g, c, rfl, hb, hg, e 0 (by omega) _ rfl, e 1 (by omega) _ rfl, e 2 (by omega) _ rfl, e 3 (by omega) _ rfl, e 4 (by omega) _ rfl, e 5 (by omega) _ rfl⟩
end

theorem rcfg_info : (Tryz.prog.info? 92).map (fun i => (i.zero, i.size, i.bytes)) = some (some (.agg #[.int .i64 0, .slice none 0 0, .int .i64 0, .int .i64 0, .int .i64 0, .int .i64 0]), 6, 64) := by kernel_rfl
theorem row_push {base : Nat} {v v2 : Value} {ps : List CfgV} {wc w2 : World} {o : Obj} (hp : RowP base wc v ps) (p : CfgV) (hpo : wc.ownsRow base 3 1 p.2 p.1.gs.length (ints p.1.gs)) (hok : checkB p.1 = true)
    (hg : (wc.alloc o).grownBy w2 v.ownBlock) (ho : w2.ownsRow base 92 6 v2 (ps.length + 1) (cellsP ps ++ CfgV.cells p)) : RowP base w2 v2 (ps ++ [p]) := by
  have hch : Chg (fun i => v.ownBlock = some i) wc w2 := (((Chg.refl (fun i => v.ownBlock = some i) wc)).alloc o).grown hg (fun k hk _ => hk)
  have hint : ∀ q : CfgV, wc.ownsRow base 3 1 q.2 q.1.gs.length (ints q.1.gs) → w2.ownsRow base 3 1 q.2 q.1.gs.length (ints q.1.gs) := fun q hq => hch.owns hq (fun k hk hF => by
    rcases hp.row.2 with ⟨_, h0⟩ | ⟨g', cap', cur', hv', _, hb', _⟩
    · have := hp.pos; omega
    · rw [hv'] at hF
      simp only [Value.ownBlock, Option.some.injEq] at hF
      subst hF
      exact own_blk_ne hq hb' (by decide) hk)
  refine ⟨?_, ?_, ?_, by simp⟩
  · rw [cellsP_append, List.length_append]
    simpa [cellsP] using ho
  · intro q hq
    rcases List.mem_append.1 hq with hq | hq
    · exact hint q (hp.own q hq)
    · simp at hq; subst hq; exact hint q hpo
  · intro q hq
    rcases List.mem_append.1 hq with hq | hq
    · exact hp.ok q hq
    · simp at hq; subst hq; exact hok

theorem keepr {W w' : World} {b : Nat} {x : Cmd} {g m : Nat} {p : CfgV} {base : Nat} {v : Value} {ps : List CfgV} (hx : Blk W b 68 #[.int .i64 x.kind, .int .i64 x.group, .int .i64 x.shard]) (hp : RowP base W v ps) (hv : ∃ n c, v = .slice (some ⟨g, 0, none⟩) n c) (hm : ps[m]? = some p) (h : Below W.heap.size W w') :
    w'.cell? ⟨b, 0, none⟩ = some (.int .i64 x.kind) ∧ w'.cell? ⟨b, 1, none⟩ = some (.int .i64 x.group) ∧ w'.cell? ⟨b, 2, none⟩ = some (.int .i64 x.shard) ∧
    w'.cell? ⟨g, m * 6, none⟩ = some (.int .i64 p.1.num) ∧ w'.cell? ⟨g, m * 6 + 1, none⟩ = some p.2 ∧ w'.cell? ⟨g, m * 6 + 2, none⟩ = some (.int .i64 p.1.o.a) ∧ w'.cell? ⟨g, m * 6 + 3, none⟩ = some (.int .i64 p.1.o.b) ∧ w'.cell? ⟨g, m * 6 + 4, none⟩ = some (.int .i64 p.1.o.c) ∧ w'.cell? ⟨g, m * 6 + 5, none⟩ = some (.int .i64 p.1.o.d) := by
  have h2 := hx.below h hx.lt
  obtain ⟨g', c', hv', _, hg', e0, e1, e2, e3, e4, e5⟩ := hp.get hm
  obtain ⟨n, c, hv⟩ := hv
  rw [hv] at hv'
  injection hv' with hv' _ _
  injection hv' with hv'
  injection hv' with hv' _ _
  subst hv'
  have k := fun (i : Nat) (u : Value) (e : W.cell? ⟨g, i, none⟩ = some u) => (h.cell (p := ⟨g, i, none⟩) hg').trans e
  exact ⟨h2.cell 0, h2.cell 1, h2.cell 2, k _ _ e0, k _ _ e1, k _ _ e2, k _ _ e3, k _ _ e4, k _ _ e5⟩

end Go.Proofs.YtijacbnoemjgcaaGreatDoor

namespace Go.Proofs.YtijacbnoemjgcaaGreatDoor
open Go.RowKit Go.Shelf

set_option maxHeartbeats 1000000 in
set_option maxRecDepth 100000 in
theorem last_nil (w : World) : GivesC 25 #[.pointer none] w cfg0 := by
  unfold GivesC
  go_enter Tryz.func25, Tryz.ntmps25
  go_wp2_with fail
  refine bodyPost_ret (v := cfg0.val (.slice none 0 0)) (by simp [results, Tryz.results25, go_sem, Cfg.val, cfg0]) rfl ?_
  exact ⟨_, rfl, World.ownsRow_nil _ _ _ _, (Below.refl _ _).alloc (Nat.le_refl _) _⟩

set_option maxHeartbeats 1000000 in
set_option maxRecDepth 100000 in
theorem lastc_any (base h : Nat) (v : Value) (ps : List CfgV) (m : Nat) (p : CfgV) (w : World) (hp : ChnP base w h v ps) (hl : ps.length = m + 1) (hm : ps[m]? = some p) (h41 : m ≤ 1000) : GivesC 25 #[.pointer (some ⟨h, 0, none⟩)] w p.1 := by
  have hg4 := (check_bounds (hp.ok _ (List.mem_of_getElem? hm))).2.2.1
  have hpl := place hp
  have HP := Lib.hid hpl
  clear hp hpl
  unfold GivesC
  go_enter Tryz.func25, Tryz.ntmps25
  go_wp2_with fail
  generalize w.alloc (.cells #[.int .i64 0, .slice none 0 0, .int .i64 0, .int .i64 0, .int .i64 0, .int .i64 0] 46) = W at *
  refine (last_any base h v ps m p W HP.out.1 hl hm h41).mono ?_
  rintro e w1 ⟨rfl, hb⟩
  have HP1 := Lib.hid (HP.out.1.below hb)
  have HZ1 := Lib.hid (HP.out.2.1.below hb HP.out.2.1.lt)
  have HB1 := Lib.hid (HP.out.2.2.trans (hb.mono HP.out.2.2.size))
  clear hb HP
  unfold Cfg.val
  go_wp2_with fail
  refine (own_any p.1 p.2 w1 w1.heap.size (Nat.le_refl _) (Rd.of_own (HP1.out.own p (List.mem_of_getElem? hm))) (by omega)).mono ?_
  rintro e w2 ⟨s', rfl, hown, hb⟩
  obtain ⟨As, cs, rfl⟩ := own_shape hown
  have hz := HZ1.out.below hb HZ1.out.lt
  have HB2 := Lib.hid (HB1.out.trans (hb.mono HB1.out.size))
  have hsz : w.heap.size ≤ w1.heap.size := HB1.out.size
  obtain ⟨z0, z1, z2, z3, z4, z5⟩ := keep6 hz (Below.refl _ _)
  have f0 := hz.frozen 0
  have f1 := hz.frozen 1
  have f2 := hz.frozen 2
  have f3 := hz.frozen 3
  have f4 := hz.frozen 4
  have f5 := hz.frozen 5
  have HZ := Lib.hid hz
  have HO := Lib.hid hown
  clear hz hown hb
  unfold Cfg.val
  go_wp2_with fail
  refine bodyPost_ret (v := p.1.val (.slice As p.1.gs.length cs)) (by simp [results, Tryz.results25, go_sem, z0, z1, z2, z3, z4, z5, Cfg.val]) rfl ?_
  exact ⟨_, rfl, put6 HB2.out HO.out hsz _ HZ.out (Nat.le_refl _) _ (((((((Chg.refl (fun i => i = w.heap.size) w2).setCell (fun _ => rfl) _).setCell (fun _ => rfl) _).setCell (fun _ => rfl) _).setCell (fun _ => rfl) _).setCell (fun _ => rfl) _).setCell (fun _ => rfl) _)⟩

theorem lastcfg_any (base h : Nat) (cs : List Cfg) (w : World) (hp : Chn base w h cs) (h41 : cs.length ≤ 1000) :
    GivesC 25 #[.pointer (some ⟨h, 0, none⟩)] w (cs.getLastD cfg0) := by
  obtain ⟨v, ps, hp, rfl⟩ := hp
  rw [List.length_map] at h41
  have hpos := hp.pos
  obtain ⟨m, hm⟩ : ∃ m, ps.length = m + 1 := ⟨ps.length - 1, by omega⟩
  have hk : m < ps.length := by omega
  have := lastc_any base h v ps m ps[m] w hp hm (List.getElem?_eq_getElem hk) (by omega)
  have e : (ps.map (·.1)).getLastD cfg0 = ps[m].1 := by
    rw [List.getLastD_eq_getLast?, List.getLast?_eq_getElem?, List.length_map, hm, Nat.add_sub_cancel, List.getElem?_map, List.getElem?_eq_getElem hk]; rfl
  rw [e]; exact this

end Go.Proofs.YtijacbnoemjgcaaGreatDoor

namespace Go.Proofs.YtijacbnoemjgcaaGreatDoor
open Go.RowKit Go.Shelf

def ownEq (o p : Own) : Bool := o.a == p.a && (o.b == p.b && (o.c == p.c && o.d == p.d))
theorem ownEq_refl (o : Own) : ownEq o o = true := by simp [ownEq]
theorem ownEq_iff (o p : Own) : ownEq o p = true ↔ o = p := by
  obtain ⟨a, b, c, d⟩ := o
  obtain ⟨e, f, g, h⟩ := p
  simp [ownEq]
theorem eqi_one {d : Nat} {xs ys : Array Value} {i : Nat} {is : List Nat} {a b : Value} {r s : Bool} {w : World}
    (ha : (part 3 xs (i * Tryz.prog.cellsOf 3)).run Tryz.prog w = .ok a w) (hb : (part 3 ys (i * Tryz.prog.cellsOf 3)).run Tryz.prog w = .ok b w) (he : (Op.equalIn d 3 a b).run Tryz.prog w = .ok r w) (hr : (Op.eqItems d 3 (Tryz.prog.cellsOf 3) xs ys is).run Tryz.prog w = .ok s w) :
    (Op.eqItems d 3 (Tryz.prog.cellsOf 3) xs ys (i :: is)).run Tryz.prog w = .ok (r && s) w := by
  rw [Op.eqItems]
  simp only [Sem.run_bind, ha, hb, he, Result.andThen_ok]
  cases r
  · simp
  · simpa using hr
theorem eql_own (o p : Own) (w : World) :
    (binOp .eql 44 (.agg #[.int .i64 o.a, .int .i64 o.b, .int .i64 o.c, .int .i64 o.d]) (.agg #[.int .i64 p.a, .int .i64 p.b, .int .i64 p.c, .int .i64 p.d])).run Tryz.prog w = .ok (.bool (ownEq o p)) w := by
  obtain ⟨i0, hi0, hz0, hz1, hz2⟩ := info_parts int_info
  rw [run_eql_struct, run_equalIn_array w 9999 _ _ Tryz.underlying44 hi0]
  have h3 := fun (d : Nat) (a b : Int) => run_equalIn_int (P := Tryz.prog) w d 3 .i64 .i64 a b Tryz.underlying3
  have p0 : ∀ x : Own, (part 3 #[.int .i64 x.a, .int .i64 x.b, .int .i64 x.c, .int .i64 x.d] (0 * Tryz.prog.cellsOf 3)).run Tryz.prog w = .ok (.int .i64 x.a) w := fun x => by kernel_rfl
  have p1 : ∀ x : Own, (part 3 #[.int .i64 x.a, .int .i64 x.b, .int .i64 x.c, .int .i64 x.d] (1 * Tryz.prog.cellsOf 3)).run Tryz.prog w = .ok (.int .i64 x.b) w := fun x => by kernel_rfl
  have p2 : ∀ x : Own, (part 3 #[.int .i64 x.a, .int .i64 x.b, .int .i64 x.c, .int .i64 x.d] (2 * Tryz.prog.cellsOf 3)).run Tryz.prog w = .ok (.int .i64 x.c) w := fun x => by kernel_rfl
  have p3 : ∀ x : Own, (part 3 #[.int .i64 x.a, .int .i64 x.b, .int .i64 x.c, .int .i64 x.d] (3 * Tryz.prog.cellsOf 3)).run Tryz.prog w = .ok (.int .i64 x.d) w := fun x => by kernel_rfl
  have e4 : (Op.eqItems 9999 3 (Tryz.prog.cellsOf 3) #[.int .i64 o.a, .int .i64 o.b, .int .i64 o.c, .int .i64 o.d] #[.int .i64 p.a, .int .i64 p.b, .int .i64 p.c, .int .i64 p.d] []).run Tryz.prog w = .ok true w := by simp [Op.eqItems]
  have e3 := eqi_one (p3 o) (p3 p) (h3 9998 o.d p.d) e4
  have e2 := eqi_one (p2 o) (p2 p) (h3 9998 o.c p.c) e3
  have e1 := eqi_one (p1 o) (p1 p) (h3 9998 o.b p.b) e2
  have e0 := eqi_one (p0 o) (p0 p) (h3 9998 o.a p.a) e1
  rw [show List.range 4 = [0, 1, 2, 3] from rfl, e0]
  simp [ownEq]

def intsEq (l m : List Int) : Bool := l == m
theorem intsEq_refl (l : List Int) : intsEq l l = true := by simp [intsEq]

end Go.Proofs.YtijacbnoemjgcaaGreatDoor
