/- The moot's take, with the blocks that it writes named. -/
import Derived.Test.YtijacbnoemjgcaaGreatDoorPb26
set_option linter.unusedVariables false
set_option linter.unusedSimpArgs false
set_option linter.unnecessarySimpa false
namespace Go.Proofs.YtijacbnoemjgcaaGreatDoor
open Go.RowKit Go.Shelf

/-- A moot with its chain's slice. -/
structure MtAt (base : Nat) (w : World) (m h : Nat) (v tv : Value) (ps : List CfgV) (tk : List Cmd) (cl : Cls) : Prop where
  mp : MootP base w m h tv cl tk
  ch : ChnP base w h v ps
/-- The blocks that a moot's Do writes. -/
def MFoot (m h : Nat) (v tv : Value) : Nat → Prop := fun i => i = m ∨ i = h ∨ v.ownBlock = some i ∨ tv.ownBlock = some i
def TakeF (base : Nat) (w : World) (m h : Nat) (v tv : Value) (cl : Cls) (ps : List CfgV) (tk : List Cmd) (x : Cmd) (e : Ending) (w' : World) : Prop :=
  ∃ v' tv' ps', e = .returned (.int .i64 (doS (ps.map (·.1)) x).2) ∧ MtAt base w' m h v' tv' ps' (tkS (ps.map (·.1)) tk x) cl ∧ ps'.map (·.1) = (doS (ps.map (·.1)) x).1 ∧ Chg (MFoot m h v tv) w w' ∧ (∀ g, v'.ownBlock = some g → v.ownBlock = some g ∨ w.heap.size ≤ g) ∧ (∀ g, tv'.ownBlock = some g → tv.ownBlock = some g ∨ w.heap.size ≤ g)
theorem do_fine (base h : Nat) (v : Value) (ps : List CfgV) (x : Cmd) (w : World) (hp : ChnP base w h v ps) (hb : base ≤ h) (h41 : ps.length ≤ 41) :
    Calls Tryz.prog 29 #[.pointer (some ⟨h, 0, none⟩), .agg #[.int .i64 x.kind, .int .i64 x.group, .int .i64 x.shard]] w fun e w' =>
      ∃ v' ps', e = .returned (.int .i64 (doS (ps.map (·.1)) x).2) ∧ ChnP base w' h v' ps' ∧ ps'.map (·.1) = (doS (ps.map (·.1)) x).1 ∧ Chg (FDo h v) w w' ∧ (∀ g, v'.ownBlock = some g → v.ownBlock = some g ∨ w.heap.size ≤ g) ∧ Chg (Mine base w) w w' := by
  refine (do_any base h v ps x w hp h41).mono ?_
  rintro e w' ⟨v', ps', rfl, hp', he, hc, hl⟩
  refine ⟨v', ps', rfl, hp', he, hc, hl, hc.mono fun i hi hF => ?_⟩
  rcases hF with rfl | hF
  · exact ⟨hb, _, _, hp.box, .inl rfl⟩
  · refine ⟨(hp.row.lt i hF).1, ?_⟩
    rcases hp.row.2 with ⟨_, h0⟩ | ⟨g', cap', cur', hv', _, hb', _⟩
    · have := hp.pos; omega
    · rw [hv'] at hF
      simp only [Value.ownBlock, Option.some.injEq] at hF
      subst hF
      exact ⟨_, _, hb', .inr rfl⟩
theorem ChnP.moot {base : Nat} {w w' : World} {h : Nat} {v : Value} {ps : List CfgV} {F : Nat → Prop} (hc : ChnP base w h v ps) (hch : Chg F w w') (hF : ∀ i, i < w.heap.size → F i → ∃ t cs, Blk w i t cs ∧ (t = 63 ∨ t = 38)) : ChnP base w' h v ps :=
  hc.chg hch (fun i hi hf => by
    obtain ⟨t, cs, hb, ht | ht⟩ := hF i hi hf <;> subst ht
    · exact ⟨_, _, hb, by decide, by decide, by decide⟩
    · exact ⟨_, _, hb, by decide, by decide, by decide⟩)

set_option maxHeartbeats 4000000 in
set_option maxRecDepth 100000 in
theorem mtake_fine (base m h : Nat) (v tv : Value) (cl : Cls) (ps : List CfgV) (tk : List Cmd) (x : Cmd) (w : World) (hp : MootP base w m h tv cl tk) (hc : ChnP base w h v ps) (h41 : ps.length ≤ 41) (htk : tk.length ≤ 1000) :
    Calls Tryz.prog 15 #[.pointer (some ⟨m, 0, none⟩), .agg #[.int .i64 x.kind, .int .i64 x.group, .int .i64 x.shard]] w (TakeF base w m h v tv cl ps tk x) := by
  obtain ⟨Av, cv, rfl⟩ := own_shape hp.row
  have hpW := hp.below ((Below.refl _ w).alloc (Nat.le_refl _) (.cells #[.int .i64 x.kind, .int .i64 x.group, .int .i64 x.shard] 38))
  have hcW := hc.below ((Below.refl _ w).alloc (Nat.le_refl _) (.cells #[.int .i64 x.kind, .int .i64 x.group, .int .i64 x.shard] 38))
  have hxW : Blk (w.alloc (.cells #[.int .i64 x.kind, .int .i64 x.group, .int .i64 x.shard] 38)) w.heap.size 38 #[.int .i64 x.kind, .int .i64 x.group, .int .i64 x.shard] := Blk.new w _ _
  have hbW : Below w.heap.size w (w.alloc (.cells #[.int .i64 x.kind, .int .i64 x.group, .int .i64 x.shard] 38)) := (Below.refl _ w).alloc (Nat.le_refl _) _
  have hbase : base ≤ w.heap.size := by have := hp.box.lt; have := hp.hm; omega
  have HDO : Hid (∀ w1 : World, ChnP base w1 h v ps → Calls Tryz.prog 29 #[.pointer (some ⟨h, 0, none⟩), .agg #[.int .i64 x.kind, .int .i64 x.group, .int .i64 x.shard]] w1 fun e w' =>
    ∃ v' ps', e = .returned (.int .i64 (doS (ps.map (·.1)) x).2) ∧ ChnP base w' h v' ps' ∧ ps'.map (·.1) = (doS (ps.map (·.1)) x).1 ∧ Chg (FDo h v) w1 w' ∧ (∀ g, v'.ownBlock = some g → v.ownBlock = some g ∨ w1.heap.size ≤ g) ∧ Chg (Mine base w1) w1 w') := fun w1 hc1 => do_fine base h v ps x w1 hc1 hp.hh h41
  have HTK : Hid (tkS (ps.map (·.1)) tk x = if (doS (ps.map (·.1)) x).2 = 0 then tk ++ [x] else tk) := rfl
  unfold TakeF
  generalize tkS (ps.map (·.1)) tk x = tk' at *
  generalize doS (ps.map (·.1)) x = rr at *
  obtain ⟨cs', e'⟩ := rr
  simp only at HDO HTK ⊢
  have HP := Lib.hid hpW
  have HC := Lib.hid hcW
  have HX := Lib.hid hxW
  have HB := Lib.hid hbW
  clear hp hc hpW hcW hxW hbW
  go_enter Tryz.func15, Tryz.ntmps15
  go_upto_region 1 with fail
  generalize w.alloc (.cells #[.int .i64 x.kind, .int .i64 x.group, .int .i64 x.shard] 38) = W at *
  have HXB : Hid (∀ w', Below W.heap.size W w' → Blk w' w.heap.size 38 #[.int .i64 x.kind, .int .i64 x.group, .int .i64 x.shard]) := fun w' h => HX.out.below h HX.out.lt
  have HPB : Hid (∀ w', Below W.heap.size W w' → MootP base w' m h (.slice Av tk.length cv) cl tk) := fun w' h => HP.out.below h
  have hwW : w.heap.size ≤ W.heap.size := Nat.le_of_lt HX.out.lt
  have HCA : Hid (∀ w1 w2, Below W.heap.size W w1 → Chg (FDo h v) w1 w2 → Chg (FDo h v) W w2) := fun w1 w2 hb hch => (Chg.of_below hb).trans hch (fun i hi hF => hF)
  have HCB : Hid (∀ (v' : Value) w1, Below W.heap.size W w1 → (∀ g, v'.ownBlock = some g → v.ownBlock = some g ∨ w1.heap.size ≤ g) → ∀ g, v'.ownBlock = some g → v.ownBlock = some g ∨ w.heap.size ≤ g) := fun v' w1 hb hl g hg => (hl g hg).imp id (fun h => by have := hb.size; omega)
  go_region_held3 (fun w' => w'.cell? ⟨w.heap.size, 0, none⟩ = some (.int .i64 x.kind) ∧ w'.cell? ⟨w.heap.size, 1, none⟩ = some (.int .i64 x.group) ∧ w'.cell? ⟨w.heap.size, 2, none⟩ = some (.int .i64 x.shard) ∧ w'.cell? ⟨m, 0, none⟩ = some (.pointer (some ⟨h, 0, none⟩)))
    ((first | (refine keept (HXB.out _ ?_) (HPB.out _ ?_).box <;> (simp only [bl_drew, bl_refl]; done)) | (with_reducible exact keept hxa hpa.box)))
    ((go_at_call 29; refine Calls.mono (HDO.out _ (HC.out.below (by simp only [bl_drew, bl_refl]))) ?_; rintro e w2 ⟨v2, ps2, rfl, hc2, hps, hch, hlie, hmi⟩; have hxa := mine_cmdb hmi (HXB.out _ (by simp only [bl_drew, bl_refl])); have hpa := MootP.mine (HPB.out _ (by simp only [bl_drew, bl_refl])) hmi; have hca := HCA.out _ _ (by simp only [bl_drew, bl_refl]) hch; have hlb := HCB.out _ _ (by simp only [bl_drew, bl_refl]) hlie))
  have HXA := Lib.hid hxa
  have HPA := Lib.hid hpa
  have HCC := Lib.hid hc2
  have HCH : Hid (Chg (MFoot m h v (.slice Av tk.length cv)) w w2) := ((Chg.of_below (F := MFoot m h v (.slice Av tk.length cv)) HB.out).trans hca (fun i hi hF => hF.elim (fun e => .inr (.inl e)) (fun e => .inr (.inr (.inl e)))))
  have HPS := Lib.hid hps
  have HLB := Lib.hid hlb
  clear hxa hpa hc2 hca hch hlie hmi hps hlb HDO HXB HPB HCA HCB
  cases he : (e' == 0) with
  | false =>
    have hne : e' ≠ 0 := by simpa using he
    have HT : Hid (tk' = tk) := by unfold Hid; rw [HTK.out, if_neg hne]
    clear HTK hne
    go_wp2_with fail
    go_ret
    exact ⟨v2, _, ps2, rfl, ⟨by rw [HT.out]; exact HPA.out, HCC.out⟩, HPS.out, HCH.out, HLB.out, fun g hg => .inl hg⟩
  | true =>
    obtain rfl : e' = 0 := by simpa using he
    have HT : Hid (tk' = tk ++ [x]) := by unfold Hid; rw [HTK.out, if_pos rfl]
    obtain ⟨i0, hi0, hz0, hz1, hz2⟩ := info_parts cmd_info
    have y0 := HXA.out.cell 0
    have y1 := HXA.out.cell 1
    have y2 := HXA.out.cell 2
    have b1 : w2.cell? ⟨m, 1, none⟩ = some (.slice Av tk.length cv) := HPA.out.box.cell 1
    have fb1 := HPA.out.box.frozen 1
    have hmlt : m < w2.heap.size := HPA.out.box.lt
    have hne1 : Hid (some m ≠ (Value.slice Av tk.length cv).ownBlock) := fun e => own_blk_ne HPA.out.row HPA.out.box (by decide) e.symm
    have hone : Hid (∀ u ∈ Cmd.cells x, u.oneCell' = true) := by intro u hu; simp [Cmd.cells] at hu; rcases hu with rfl | rfl | rfl <;> rfl
    have HO : Hid (∀ (o : Obj), (w2.drew.alloc o).ownsRow base 38 3 (.slice Av tk.length cv) tk.length (cellsX tk)) := fun o => World.ownsRow.alloc (w := w2.drew) HPA.out.row o
    have hbase2 : base ≤ w2.heap.size := by have := HPA.out.hm; omega
    clear HTK
    generalize hL : cellsX tk = L at *
    have HL := Lib.hid hL
    clear hL
    go_wp2_with fail
    go_region_law ((refine step_append_lies _ (by rfl) (.tmp 18) (.tmp 20) _ (by rfl) base 38 i0 _ 3 24 Tryz.underlying60 hi0 hz0 hz1 hz2 (by rfl) (by omega) (.slice Av tk.length cv) tk.length L (by simp [Act.eval]) (HO.out _) ⟨w2.heap.size, 0, none⟩ 1 1 (Cmd.cells x) (by simp [Act.eval]) (by rfl) (World.news_of_block (heap_alloc_new _ _)) hone.out (by omega) (by unfold maxLen; omega) (by omega) (by simp; omega) (w2.heap.size + 1) (by simp) ?_; intro g2 cap2 w4 hown4 hg4 hat4 hlt4; have hc4 := (hg4.cell_far ⟨m, 1, none⟩ (by simp; omega) hne1.out).trans ((World.cell?_alloc_lt _ _ _ (by simp; omega)).trans b1); have hf4 := (hg4.frozen_far ⟨m, 1, none⟩ (by simp; omega) hne1.out).trans ((World.frozen?_alloc_old _ _ _ (by simp; omega)).trans fb1)))
    all_goals
      have hg5 : (w2.alloc (.cells #[.int .i64 x.kind, .int .i64 x.group, .int .i64 x.shard] 38)).grownBy w4 (Value.slice Av tk.length cv).ownBlock := ⟨hg4.os, hg4.tape, hg4.output, hg4.size, hg4.block⟩
      have hcc := Lib.hid (moot_append HPA.out x hg5 (by rw [HL.out]; exact hown4))
      have hrow := HPA.out.row
      have HAT : Hid (∀ g, (Value.slice (some ⟨g2, 0, none⟩) (tk.length + 1) cap2).ownBlock = some g → (Value.slice Av tk.length cv).ownBlock = some g ∨ w.heap.size ≤ g) := fun g hg => by
        simp only [Value.ownBlock, Option.some.injEq] at hg
        subst hg
        have hs := HCH.out.size
        exact hat4.imp id (fun h => by omega)
      clear hat4 hlt4 hg4 hg5 hown4
      have HFIN : Hid (ChnP base (w4.setCell ⟨m, 1, none⟩ (.slice (some ⟨g2, 0, none⟩) (tk.length + 1) cap2)) h v2 ps2 ∧ Chg (MFoot m h v (.slice Av tk.length cv)) w (w4.setCell ⟨m, 1, none⟩ (.slice (some ⟨g2, 0, none⟩) (tk.length + 1) cap2))) := by
        have hF : ∀ i, i < w2.heap.size → (i = m ∨ (Value.slice Av tk.length cv).ownBlock = some i) → base ≤ i ∧ ∃ t cs, Blk w2 i t cs ∧ (t = 63 ∨ t = 38) := by
          intro i hi hF
          rcases hF with rfl | hF
          · exact ⟨HPA.out.hm, _, _, HPA.out.box, .inl rfl⟩
          · refine ⟨(hrow.lt i hF).1, ?_⟩
            rcases hrow.2 with ⟨hv, _⟩ | ⟨g', cap', cur', hv', _, hb', _⟩
            · rw [hv] at hF; simp [Value.ownBlock] at hF
            · rw [hv'] at hF
              simp only [Value.ownBlock, Option.some.injEq] at hF
              subst hF
              exact ⟨_, _, hb', .inr rfl⟩
        exact ⟨HCC.out.moot hcc.out.2 (fun i hi h => (hF i hi h).2), HCH.out.trans hcc.out.2 (fun i hi h => h.elim .inl (fun e => .inr (.inr (.inr e))))⟩
      clear hrow
      go_wp2_with fail
      go_ret
      exact ⟨v2, _, ps2, rfl, ⟨by rw [HT.out]; exact hcc.out.1, HFIN.out.1⟩, HPS.out, HFIN.out.2, HLB.out, HAT.out⟩

end Go.Proofs.YtijacbnoemjgcaaGreatDoor
