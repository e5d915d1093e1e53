/- The moot in memory; New, take. -/
import Derived.Test.YtijacbnoemjgcaaGreatDoorPb24
set_option linter.unusedVariables false
set_option linter.unusedSimpArgs false
set_option linter.unnecessarySimpa false
namespace Go.Proofs.YtijacbnoemjgcaaGreatDoor
open Go.RowKit Go.Shelf

/-- Of each client its last number and answer. -/
abbrev Cls := Nat → Int × Int
def upd (cl : Cls) (i : Nat) (p : Int × Int) : Cls := fun j => if j = i then p else cl j
def mootCells (h : Nat) (tv : Value) (cl : Cls) : Array Value := #[.pointer (some ⟨h, 0, none⟩), tv, .int .i64 (cl 0).1, .int .i64 (cl 0).2, .int .i64 (cl 1).1, .int .i64 (cl 1).2, .int .i64 (cl 2).1, .int .i64 (cl 2).2, .int .i64 (cl 3).1, .int .i64 (cl 3).2,
  .int .i64 (cl 4).1, .int .i64 (cl 4).2, .int .i64 (cl 5).1, .int .i64 (cl 5).2, .int .i64 (cl 6).1, .int .i64 (cl 6).2, .int .i64 (cl 7).1, .int .i64 (cl 7).2]
theorem moot_num (h : Nat) (tv : Value) (cl : Cls) (k : Nat) (hk : k < 8) : (mootCells h tv cl)[2 + k * 2]? = some (.int .i64 (cl k).1) ∧ (mootCells h tv cl)[2 + k * 2 + 1]? = some (.int .i64 (cl k).2) := by
  have e : k = 0 ∨ k = 1 ∨ k = 2 ∨ k = 3 ∨ k = 4 ∨ k = 5 ∨ k = 6 ∨ k = 7 := by omega
  rcases e with rfl | rfl | rfl | rfl | rfl | rfl | rfl | rfl <;> exact ⟨rfl, rfl⟩
theorem moot_set (h : Nat) (tv : Value) (cl : Cls) (k : Nat) (hk : k < 8) (n a : Int) : ((mootCells h tv cl).setIfInBounds (2 + k * 2) (.int .i64 n)).setIfInBounds (2 + k * 2 + 1) (.int .i64 a) = mootCells h tv (upd cl k (n, a)) := by
  have e : k = 0 ∨ k = 1 ∨ k = 2 ∨ k = 3 ∨ k = 4 ∨ k = 5 ∨ k = 6 ∨ k = 7 := by omega
  rcases e with rfl | rfl | rfl | rfl | rfl | rfl | rfl | rfl <;> simp [mootCells, upd]

/-- The moot at block m: its chain lies at h, the slice tv has the commands that were taken. -/
structure MootP (base : Nat) (w : World) (m h : Nat) (tv : Value) (cl : Cls) (tk : List Cmd) : Prop where
  box : Blk w m 63 (mootCells h tv cl)
  row : w.ownsRow base 38 3 tv tk.length (cellsX tk)
  hm : base ≤ m
  hh : base ≤ h
/-- Blocks of a moot, from base on. -/
def MMine (base : Nat) (w : World) (i : Nat) : Prop := base ≤ i ∧ ∃ t cs, Blk w i t cs ∧ (t = 105 ∨ t = 46 ∨ t = 63 ∨ t = 38)
def Moot (base : Nat) (w : World) (m : Nat) (cs : List Cfg) (tk : List Cmd) (cl : Cls) : Prop := ∃ h tv, MootP base w m h tv cl tk ∧ Chn base w h cs
section
variable {base : Nat} {w w' : World} {m h : Nat} {tv : Value} {cl : Cls} {tk : List Cmd} {cs : List Cfg}
theorem MootP.below (hp : MootP base w m h tv cl tk) (hb : Below w.heap.size w w') : MootP base w' m h tv cl tk := ⟨hp.box.below hb hp.box.lt, own_below hp.row hb, hp.hm, hp.hh⟩
theorem Moot.below (hp : Moot base w m cs tk cl) (hb : Below w.heap.size w w') : Moot base w' m cs tk cl := by
  obtain ⟨h, tv, hp, hc⟩ := hp
  exact ⟨h, tv, hp.below hb, hc.below hb⟩
theorem mine_mine (h : Chg (Mine base w) w w') : Chg (MMine base w) w w' := h.mono fun i hi hF => by
  obtain ⟨hb, t, cs, hk, ht⟩ := hF
  exact ⟨hb, t, cs, hk, ht.elim .inl (fun h => .inr (.inl h))⟩
theorem MootP.mine (hp : MootP base w m h tv cl tk) (hc : Chg (Mine base w) w w') : MootP base w' m h tv cl tk := by
  refine ⟨hp.box.chg hc (fun hF => ?_), hc.owns hp.row (fun g hg hF => ?_), hp.hm, hp.hh⟩
  · obtain ⟨_, t, cs, hb, ht | ht⟩ := hF <;> subst ht
    · exact Blk.ne_ hp.box hb (by decide) rfl
    · exact Blk.ne_ hp.box hb (by decide) rfl
  · obtain ⟨_, t, cs, hb, ht | ht⟩ := hF <;> subst ht
    · exact own_blk_ne hp.row hb (by decide) hg
    · exact own_blk_ne hp.row hb (by decide) hg
theorem mmine_below (h : Chg (MMine base w) w w') (hb : base ≤ w.heap.size) : Below base w w' := h.to_below (fun i hi hF => by have := hF.1; omega) hb
/-- Chains are left alone where only a moot's own blocks turn. -/
theorem Chn.moot {F : Nat → Prop} (hc : Chn base w h cs) (hch : Chg F w w') (hF : ∀ i, i < w.heap.size → F i → ∃ t cs, Blk w i t cs ∧ (t = 63 ∨ t = 38)) : Chn base w' h cs :=
  hc.chg hch (fun i hi hf => by
    obtain ⟨t, cs, hb, ht | ht⟩ := hF i hi hf <;> subst ht
    · exact ⟨_, _, hb, by decide, by decide, by decide⟩
    · exact ⟨_, _, hb, by decide, by decide, by decide⟩)
end

set_option maxHeartbeats 1000000 in
set_option maxRecDepth 100000 in
theorem mnew_any (w : World) : Calls Tryz.prog 10 #[] w fun e w' => ∃ m, e = .returned (.pointer (some ⟨m, 0, none⟩)) ∧ Moot w.heap.size w' m [cfg0] [] (fun _ => (0, 0)) ∧ Below w.heap.size w w' := by
  go_enter Tryz.func10, Tryz.ntmps10
  go_wp2_with fail
  refine (new_any w).mono ?_
  rintro e w1 ⟨rfl, hc, hb⟩
  have HC := Lib.hid hc
  have HB := Lib.hid hb
  clear hc hb
  go_wp2_with fail
  go_ret
  refine ⟨_, rfl, ⟨w.heap.size + 1, .slice none 0 0, ⟨Blk.new w1 _ _, World.ownsRow_nil _ _ _ _, HB.out.size, by omega⟩, HC.out.below ((Below.refl _ _).alloc (Nat.le_refl _) _)⟩, HB.out.alloc HB.out.size _⟩

theorem cmd_info : (Tryz.prog.info? 38).map (fun i => (i.zero, i.size, i.bytes)) = some (some (.agg #[.int .i64 0, .int .i64 0, .int .i64 0]), 3, 24) := by kernel_rfl
theorem mine_cmdb {base : Nat} {w w' : World} {b : Nat} {cs : Array Value} (h : Chg (Mine base w) w w') (hb : Blk w b 38 cs) : Blk w' b 38 cs :=
  hb.chg h (fun hF => by
    obtain ⟨_, t, cs', hb', ht | ht⟩ := hF <;> subst ht
    · exact Blk.ne_ hb hb' (by decide) rfl
    · exact Blk.ne_ hb hb' (by decide) rfl)

/-- What was taken, behind a command. -/
def tkS (cs : List Cfg) (tk : List Cmd) (x : Cmd) : List Cmd := if (doS cs x).2 = 0 then tk ++ [x] else tk
def TakePost (base : Nat) (w : World) (m h : Nat) (cl : Cls) (cs : List Cfg) (tk : List Cmd) (x : Cmd) (e : Ending) (w' : World) : Prop :=
  ∃ tv', e = .returned (.int .i64 (doS cs x).2) ∧ MootP base w' m h tv' cl (tkS cs tk x) ∧ Chn base w' h (doS cs x).1 ∧ Chg (MMine base w) w w'

theorem keept {w : World} {b m h : Nat} {tv : Value} {cl : Cls} {v0 v1 v2 : Value} (hx : Blk w b 38 #[v0, v1, v2]) (hm : Blk w m 63 (mootCells h tv cl)) :
    w.cell? ⟨b, 0, none⟩ = some v0 ∧ w.cell? ⟨b, 1, none⟩ = some v1 ∧ w.cell? ⟨b, 2, none⟩ = some v2 ∧ w.cell? ⟨m, 0, none⟩ = some (.pointer (some ⟨h, 0, none⟩)) := ⟨hx.cell 0, hx.cell 1, hx.cell 2, hm.cell 0⟩

theorem mmine_back {base : Nat} {W w1 : World} {i : Nat} (hb : Below W.heap.size W w1) (hi : i < W.heap.size) (h : MMine base w1 i) : MMine base W i := by
  obtain ⟨h1, t, cs, hk, ht⟩ := h
  exact ⟨h1, t, cs, (hb.block i hi).symm.trans hk, ht⟩
theorem mm_trans {base : Nat} {w w1 w2 : World} (h : Chg (MMine base w) w w1) (k : Chg (MMine base w1) w1 w2) : Chg (MMine base w) w w2 := h.trans k (fun i hi hF => by
  by_cases hm : MMine base w i
  · exact hm
  · obtain ⟨hb, t, cs, hk, ht⟩ := hF
    exact ⟨hb, t, cs, (h.block i hi hm).symm.trans hk, ht⟩)
theorem moot_append {base m h : Nat} {v v2 : Value} {cl : Cls} {tk : List Cmd} {wc w2 : World} {o : Obj} (hp : MootP base wc m h v cl tk) (x : Cmd)
    (hg : (wc.alloc o).grownBy w2 v.ownBlock) (ho : w2.ownsRow base 38 3 v2 (tk.length + 1) (cellsX tk ++ Cmd.cells x)) :
    MootP base (w2.setCell ⟨m, 1, none⟩ v2) m h v2 cl (tk ++ [x]) ∧ Chg (fun i => i = m ∨ v.ownBlock = some i) wc (w2.setCell ⟨m, 1, none⟩ v2) := by
  have hbox : Blk w2 m 63 (mootCells h v cl) := (hp.box.alloc o).grown hg (fun e => own_blk_ne hp.row hp.box (by decide) e.symm)
  have hch : Chg (fun i => i = m ∨ v.ownBlock = some i) wc (w2.setCell ⟨m, 1, none⟩ v2) := ((((Chg.refl (fun i => i = m ∨ v.ownBlock = some i) wc).alloc o).grown hg (fun k hk _ => .inr hk))).setCell (p := ⟨m, 1, none⟩) (fun _ => .inl rfl) v2
  refine ⟨⟨hbox.set_ 1 v2, ?_, hp.hm, hp.hh⟩, hch⟩
  have := ((Chg.refl (fun i => i = m) w2).setCell (p := ⟨m, 1, none⟩) (fun _ => rfl) v2).owns ho (fun k hk e => own_blk_ne ho hbox (by decide) (by rw [hk, e]))
  rw [cellsX_append, List.length_append]
  simpa [cellsX] using this

set_option maxHeartbeats 4000000 in
set_option maxRecDepth 100000 in
theorem mtake_any (base m h : Nat) (tv : Value) (cl : Cls) (cs : List Cfg) (tk : List Cmd) (x : Cmd) (w : World) (hp : MootP base w m h tv cl tk) (hc : Chn base w h cs) (h41 : cs.length ≤ 41) (htk : tk.length ≤ 1000) :
    Calls Tryz.prog 15 #[.pointer (some ⟨m, 0, none⟩), .agg #[.int .i64 x.kind, .int .i64 x.group, .int .i64 x.shard]] w (TakePost base w m h cl cs tk x) := by
  obtain ⟨Av, cv, rfl⟩ := own_shape hp.row
  have hpW := hp.below ((Below.refl _ w).alloc (Nat.le_refl _) (.cells #[.int .i64 x.kind, .int .i64 x.group, .int .i64 x.shard] 38))
  have hcW := hc.below ((Below.refl _ w).alloc (Nat.le_refl _) (.cells #[.int .i64 x.kind, .int .i64 x.group, .int .i64 x.shard] 38))
  have hxW : Blk (w.alloc (.cells #[.int .i64 x.kind, .int .i64 x.group, .int .i64 x.shard] 38)) w.heap.size 38 #[.int .i64 x.kind, .int .i64 x.group, .int .i64 x.shard] := Blk.new w _ _
  have hbW : Below w.heap.size w (w.alloc (.cells #[.int .i64 x.kind, .int .i64 x.group, .int .i64 x.shard] 38)) := (Below.refl _ w).alloc (Nat.le_refl _) _
  have hbase : base ≤ w.heap.size := by have := hp.box.lt; have := hp.hm; omega
  have HDO : Hid (∀ w1 : World, Chn base w1 h cs → Calls Tryz.prog 29 #[.pointer (some ⟨h, 0, none⟩), .agg #[.int .i64 x.kind, .int .i64 x.group, .int .i64 x.shard]] w1 fun e w' =>
    e = .returned (.int .i64 (doS cs x).2) ∧ Chn base w' h (doS cs x).1 ∧ Chg (Mine base w1) w1 w') := fun w1 hc1 => do_in base h cs x w1 hc1 hp.hh h41
  have HTK : Hid (tkS cs tk x = if (doS cs x).2 = 0 then tk ++ [x] else tk) := rfl
  unfold TakePost
  generalize tkS cs tk x = tk' at *
  generalize doS cs x = rr at *
  obtain ⟨cs', e'⟩ := rr
  simp only at HDO HTK ⊢
  have HP := Lib.hid hpW
  have HC := Lib.hid hcW
  have HX := Lib.hid hxW
  have HB := Lib.hid hbW
  clear hp hc hpW hcW hxW hbW
  go_enter Tryz.func15, Tryz.ntmps15
  go_upto_region 1 with fail
  generalize w.alloc (.cells #[.int .i64 x.kind, .int .i64 x.group, .int .i64 x.shard] 38) = W at *
  have HXB : Hid (∀ w', Below W.heap.size W w' → Blk w' w.heap.size 38 #[.int .i64 x.kind, .int .i64 x.group, .int .i64 x.shard]) := fun w' h => HX.out.below h HX.out.lt
  have HPB : Hid (∀ w', Below W.heap.size W w' → MootP base w' m h (.slice Av tk.length cv) cl tk) := fun w' h => HP.out.below h
  have hwW : w.heap.size ≤ W.heap.size := Nat.le_of_lt HX.out.lt
  have HCA : Hid (∀ w1 w2, Below W.heap.size W w1 → Chg (Mine base w1) w1 w2 → Chg (MMine base W) W w2) := fun w1 w2 hb hch => (Chg.of_below hb).trans (mine_mine hch) (fun i hi hF => mmine_back hb hi hF)
  go_region_held3 (fun w' => w'.cell? ⟨w.heap.size, 0, none⟩ = some (.int .i64 x.kind) ∧ w'.cell? ⟨w.heap.size, 1, none⟩ = some (.int .i64 x.group) ∧ w'.cell? ⟨w.heap.size, 2, none⟩ = some (.int .i64 x.shard) ∧ w'.cell? ⟨m, 0, none⟩ = some (.pointer (some ⟨h, 0, none⟩)))
    ((first | (refine keept (HXB.out _ ?_) (HPB.out _ ?_).box <;> (simp only [bl_drew, bl_refl]; done)) | (with_reducible exact keept hxa hpa.box)))
    ((go_at_call 29; refine Calls.mono (HDO.out _ (HC.out.below (by simp only [bl_drew, bl_refl]))) ?_; rintro e w2 ⟨rfl, hc2, hch⟩; have hxa := mine_cmdb hch (HXB.out _ (by simp only [bl_drew, bl_refl])); have hpa := MootP.mine (HPB.out _ (by simp only [bl_drew, bl_refl])) hch; have hca := HCA.out _ _ (by simp only [bl_drew, bl_refl]) hch))
  have HXA := Lib.hid hxa
  have HPA := Lib.hid hpa
  have HCC := Lib.hid hc2
  have HCH : Hid (Chg (MMine base w) w w2) := mm_trans (Chg.of_below HB.out) hca
  clear hxa hpa hc2 hca HDO HXB HPB HCA
  cases he : (e' == 0) with
  | false =>
    have hne : e' ≠ 0 := by simpa using he
    have HT : Hid (tk' = tk) := by unfold Hid; rw [HTK.out, if_neg hne]
    clear HTK hne
    go_wp2_with fail
    go_ret
    exact ⟨_, rfl, by rw [HT.out]; exact HPA.out, HCC.out, HCH.out⟩
  | true =>
    obtain rfl : e' = 0 := by simpa using he
    have HT : Hid (tk' = tk ++ [x]) := by unfold Hid; rw [HTK.out, if_pos rfl]
    obtain ⟨i0, hi0, hz0, hz1, hz2⟩ := info_parts cmd_info
    have y0 := HXA.out.cell 0
    have y1 := HXA.out.cell 1
    have y2 := HXA.out.cell 2
    have b1 : w2.cell? ⟨m, 1, none⟩ = some (.slice Av tk.length cv) := HPA.out.box.cell 1
    have fb1 := HPA.out.box.frozen 1
    have hmlt : m < w2.heap.size := HPA.out.box.lt
    have hne1 : Hid (some m ≠ (Value.slice Av tk.length cv).ownBlock) := fun e => own_blk_ne HPA.out.row HPA.out.box (by decide) e.symm
    have hone : Hid (∀ u ∈ Cmd.cells x, u.oneCell' = true) := by intro u hu; simp [Cmd.cells] at hu; rcases hu with rfl | rfl | rfl <;> rfl
    have HO : Hid (∀ (o : Obj), (w2.drew.alloc o).ownsRow base 38 3 (.slice Av tk.length cv) tk.length (cellsX tk)) := fun o => World.ownsRow.alloc (w := w2.drew) HPA.out.row o
    have hbase2 : base ≤ w2.heap.size := by have := HPA.out.hm; omega
    clear HTK
    generalize hL : cellsX tk = L at *
    have HL := Lib.hid hL
    clear hL
    go_wp2_with fail
    go_region_law ((refine step_append_lies _ (by rfl) (.tmp 18) (.tmp 20) _ (by rfl) base 38 i0 _ 3 24 Tryz.underlying60 hi0 hz0 hz1 hz2 (by rfl) (by omega) (.slice Av tk.length cv) tk.length L (by simp [Act.eval]) (HO.out _) ⟨w2.heap.size, 0, none⟩ 1 1 (Cmd.cells x) (by simp [Act.eval]) (by rfl) (World.news_of_block (heap_alloc_new _ _)) hone.out (by omega) (by unfold maxLen; omega) (by omega) (by simp; omega) (w2.heap.size + 1) (by simp) ?_; intro g2 cap2 w4 hown4 hg4 hat4 hlt4; have hc4 := (hg4.cell_far ⟨m, 1, none⟩ (by simp; omega) hne1.out).trans ((World.cell?_alloc_lt _ _ _ (by simp; omega)).trans b1); have hf4 := (hg4.frozen_far ⟨m, 1, none⟩ (by simp; omega) hne1.out).trans ((World.frozen?_alloc_old _ _ _ (by simp; omega)).trans fb1)))
    all_goals
      have hg5 : (w2.alloc (.cells #[.int .i64 x.kind, .int .i64 x.group, .int .i64 x.shard] 38)).grownBy w4 (Value.slice Av tk.length cv).ownBlock := ⟨hg4.os, hg4.tape, hg4.output, hg4.size, hg4.block⟩
      have hcc := Lib.hid (moot_append HPA.out x hg5 (by rw [HL.out]; exact hown4))
      have hrow := HPA.out.row
      clear hat4 hlt4 hg4 hg5 hown4
      have HFIN : Hid (Chn base (w4.setCell ⟨m, 1, none⟩ (.slice (some ⟨g2, 0, none⟩) (tk.length + 1) cap2)) h cs' ∧ Chg (MMine base w) w (w4.setCell ⟨m, 1, none⟩ (.slice (some ⟨g2, 0, none⟩) (tk.length + 1) cap2))) := by
        have hF : ∀ i, i < w2.heap.size → (i = m ∨ (Value.slice Av tk.length cv).ownBlock = some i) → base ≤ i ∧ ∃ t cs, Blk w2 i t cs ∧ (t = 63 ∨ t = 38) := by
          intro i hi hF
          rcases hF with rfl | hF
          · exact ⟨HPA.out.hm, _, _, HPA.out.box, .inl rfl⟩
          · refine ⟨(hrow.lt i hF).1, ?_⟩
            rcases hrow.2 with ⟨hv, _⟩ | ⟨g', cap', cur', hv', _, hb', _⟩
            · rw [hv] at hF; simp [Value.ownBlock] at hF
            · rw [hv'] at hF
              simp only [Value.ownBlock, Option.some.injEq] at hF
              subst hF
              exact ⟨_, _, hb', .inr rfl⟩
        refine ⟨HCC.out.moot hcc.out.2 (fun i hi h => (hF i hi h).2), mm_trans HCH.out (hcc.out.2.mono (fun i hi h => ?_))⟩
        obtain ⟨hb, t, cs3, hk, ht⟩ := hF i hi h
        exact ⟨hb, t, cs3, hk, ht.elim (fun h => .inr (.inr (.inl h))) (fun h => .inr (.inr (.inr h)))⟩
      clear hrow
      go_wp2_with fail
      go_ret
      exact ⟨_, rfl, by rw [HT.out]; exact hcc.out.1, HFIN.out.1, HFIN.out.2⟩

end Go.Proofs.YtijacbnoemjgcaaGreatDoor
