/- A moot's text, walked. -/
import Derived.Test.YtijacbnoemjgcaaGreatDoorPb33
import Derived.Test.YtijacbnoemjgcaaGreatDoorPb38
set_option linter.unusedVariables false
set_option linter.unusedSimpArgs false
set_option linter.unnecessarySimpa false
namespace Go.Proofs.YtijacbnoemjgcaaGreatDoor
open Go.RowKit Go.Shelf

theorem rd_newU (w : World) (l : List Bs) (cs : Array Value) (h : cs.toList = strs l) (n : Nat) (hn : l.length = n) : Rd (w.alloc (.cells cs 9)) (w.heap.size + 1) 1 (.slice (some ⟨w.heap.size, 0, none⟩) n n) l.length (strs l) := by
  subst hn
  refine ⟨by simp [strs_length], _, l.length, rfl, Nat.le_refl _, .inr ⟨w.heap.size, 0, rfl, by omega, fun j u hu => ?_⟩⟩
  rw [(Blk.new w 9 cs).cell (0 + j), Nat.zero_add, ← hu, ← h]
  simp
theorem strs_append (a b : List Bs) : strs (a ++ b) = strs a ++ strs b := by simp [strs]
/-- The clients as a value. -/
def clsV (cl : Cls) : Value := .agg #[.int .i64 (cl 0).1, .int .i64 (cl 0).2, .int .i64 (cl 1).1, .int .i64 (cl 1).2, .int .i64 (cl 2).1, .int .i64 (cl 2).2, .int .i64 (cl 3).1, .int .i64 (cl 3).2,
  .int .i64 (cl 4).1, .int .i64 (cl 4).2, .int .i64 (cl 5).1, .int .i64 (cl 5).2, .int .i64 (cl 6).1, .int .i64 (cl 6).2, .int .i64 (cl 7).1, .int .i64 (cl 7).2]
theorem idx8 (a0 b0 a1 b1 a2 b2 a3 b3 a4 b4 a5 b5 a6 b6 a7 b7 : Value) (w : World) :
    (Instr.index 61 (.agg #[a0, b0, a1, b1, a2, b2, a3, b3, a4, b4, a5, b5, a6, b6, a7, b7]) (.int .i64 0)).run Tryz.prog w = .ok (.agg #[a0, b0]) w ∧
    (Instr.index 61 (.agg #[a0, b0, a1, b1, a2, b2, a3, b3, a4, b4, a5, b5, a6, b6, a7, b7]) (.int .i64 1)).run Tryz.prog w = .ok (.agg #[a1, b1]) w ∧
    (Instr.index 61 (.agg #[a0, b0, a1, b1, a2, b2, a3, b3, a4, b4, a5, b5, a6, b6, a7, b7]) (.int .i64 2)).run Tryz.prog w = .ok (.agg #[a2, b2]) w ∧
    (Instr.index 61 (.agg #[a0, b0, a1, b1, a2, b2, a3, b3, a4, b4, a5, b5, a6, b6, a7, b7]) (.int .i64 3)).run Tryz.prog w = .ok (.agg #[a3, b3]) w ∧
    (Instr.index 61 (.agg #[a0, b0, a1, b1, a2, b2, a3, b3, a4, b4, a5, b5, a6, b6, a7, b7]) (.int .i64 4)).run Tryz.prog w = .ok (.agg #[a4, b4]) w ∧
    (Instr.index 61 (.agg #[a0, b0, a1, b1, a2, b2, a3, b3, a4, b4, a5, b5, a6, b6, a7, b7]) (.int .i64 5)).run Tryz.prog w = .ok (.agg #[a5, b5]) w ∧
    (Instr.index 61 (.agg #[a0, b0, a1, b1, a2, b2, a3, b3, a4, b4, a5, b5, a6, b6, a7, b7]) (.int .i64 6)).run Tryz.prog w = .ok (.agg #[a6, b6]) w ∧
    (Instr.index 61 (.agg #[a0, b0, a1, b1, a2, b2, a3, b3, a4, b4, a5, b5, a6, b6, a7, b7]) (.int .i64 7)).run Tryz.prog w = .ok (.agg #[a7, b7]) w :=
  ⟨by kernel_rfl, by kernel_rfl, by kernel_rfl, by kernel_rfl, by kernel_rfl, by kernel_rfl, by kernel_rfl, by kernel_rfl⟩
theorem cls_at (cl : Cls) (k : Nat) (hk : k < 8) (w : World) : (Instr.index 61 (clsV cl) (.int .i64 k)).run Tryz.prog w = .ok (.agg #[.int .i64 (cl k).1, .int .i64 (cl k).2]) w := by
  have h := idx8 (.int .i64 (cl 0).1) (.int .i64 (cl 0).2) (.int .i64 (cl 1).1) (.int .i64 (cl 1).2) (.int .i64 (cl 2).1) (.int .i64 (cl 2).2) (.int .i64 (cl 3).1) (.int .i64 (cl 3).2) (.int .i64 (cl 4).1) (.int .i64 (cl 4).2) (.int .i64 (cl 5).1) (.int .i64 (cl 5).2) (.int .i64 (cl 6).1) (.int .i64 (cl 6).2) (.int .i64 (cl 7).1) (.int .i64 (cl 7).2) w
  obtain ⟨h0, h1, h2, h3, h4, h5, h6, h7⟩ := h
  have e : k = 0 ∨ k = 1 ∨ k = 2 ∨ k = 3 ∨ k = 4 ∨ k = 5 ∨ k = 6 ∨ k = 7 := by omega
  rcases e with rfl | rfl | rfl | rfl | rfl | rfl | rfl | rfl
  · exact h0
  · exact h1
  · exact h2
  · exact h3
  · exact h4
  · exact h5
  · exact h6
  · exact h7
theorem keep3U {t : TypeId} {W w' : World} {b : Nat} {v0 v1 v2 : Value} (h : Blk W b t #[v0, v1, v2]) (hb : Below W.heap.size W w') : w'.cell? ⟨b, 0, none⟩ = some v0 ∧ w'.cell? ⟨b, 1, none⟩ = some v1 ∧ w'.cell? ⟨b, 2, none⟩ = some v2 := ⟨(h.below hb h.lt).cell 0, (h.below hb h.lt).cell 1, (h.below hb h.lt).cell 2⟩
theorem keep2U {t : TypeId} {W w' : World} {b : Nat} {v0 v1 : Value} (h : Blk W b t #[v0, v1]) (hb : Below W.heap.size W w') : w'.cell? ⟨b, 0, none⟩ = some v0 ∧ w'.cell? ⟨b, 1, none⟩ = some v1 := ⟨(h.below hb h.lt).cell 0, (h.below hb h.lt).cell 1⟩
/-- Texts collected so far. -/
structure TxP (w : World) (A' : Option Addr) (n c' : Nat) (l : List Bs) (wr : World) : Prop where
  len : n = l.length
  own : wr.ownsRow w.heap.size 9 1 (.slice A' n c') n (strs l)
  bel : Below w.heap.size w wr
theorem TxP.nil (w : World) : TxP w none 0 0 [] w := ⟨rfl, World.ownsRow_nil _ _ _ _, Below.refl _ _⟩
theorem TxP.more {w wr w2 : World} {A' : Option Addr} {n c' : Nat} {l : List Bs} (h : TxP w A' n c' l wr) (hb : Below wr.heap.size wr w2) : TxP w A' n c' l w2 := ⟨h.len, own_below h.own hb, h.bel.trans (hb.mono h.bel.size)⟩
theorem TxP.push {w wr w4 : World} {A' : Option Addr} {n c' g2 cap2 : Nat} {l : List Bs} {o : Obj} (h : TxP w A' n c' l wr) (x : Tri)
    (hg : (wr.alloc o).grownBy w4 (Value.slice A' n c').ownBlock) (ho : w4.ownsRow w.heap.size 9 1 (.slice (some ⟨g2, 0, none⟩) (n + 3) cap2) (n + 3) (strs l ++ strs (triB x))) :
    TxP w (some ⟨g2, 0, none⟩) (n + 3) cap2 (l ++ triB x) w4 := by
  have hsz := h.bel.size
  refine ⟨by rw [List.length_append, h.len]; rfl, by rw [strs_append]; exact ho, h.bel.trans ((((Below.refl w.heap.size wr).alloc hsz o)).grown hg (by simp; omega) (fun g e => (h.own.lt g e).1))⟩
theorem tri_one (x : Tri) : ∀ u ∈ strs (triB x), u.oneCell' = true := by
  intro u hu
  simp [strs, triB] at hu
  rcases hu with rfl | rfl | rfl <;> rfl

theorem cliB_yes {cl : Cls} {k : Nat} (h : 0 < (cl k).1) : clisB cl (k + 1) = clisB cl k ++ triB ((k : Int), (cl k).1, (cl k).2) := by
  rw [clisB_succ]; unfold cliB; rw [if_pos h]
theorem cliB_no {cl : Cls} {k : Nat} (h : ¬ 0 < (cl k).1) : clisB cl (k + 1) = clisB cl k := by
  rw [clisB_succ]; unfold cliB; rw [if_neg h, List.append_nil]
theorem moot16 {w : World} {m h : Nat} {tv : Value} {cl : Cls} (hb : Blk w m 63 (mootCells h tv cl)) : ∀ i v, (mootCells h tv cl)[i]? = some v → w.cell? ⟨m, i, none⟩ = some v := fun i v e => (hb.cell i).trans e

set_option maxHeartbeats 4000000 in
set_option maxRecDepth 100000 in
theorem mtext_any (base m : Nat) (s : Mt) (w : World) (hl : Lay w) (hp : Moot base w m s.cs s.tk s.cl) (hk : MtOk s) :
    Calls Tryz.prog 8 #[.pointer (some ⟨m, 0, none⟩)] w fun e w' => e = .returned (.string ⟨(mtxt s.tk s.cl).toArray⟩) ∧ Below w.heap.size w w' := by
  obtain ⟨h, tv, hm, hc⟩ := hp
  have HM := Lib.hid hm
  have HRW := Lib.hid (Rd.of_own hm.row)
  have hparts := mtxt_parts hk
  have hlen : s.tk.length ≤ 40 := by have := hk.len; have := hk.l41; omega
  have HIN := Lib.hid hk.tin
  have HCL := Lib.hid hk.cl
  have HPR := Lib.hid hparts
  obtain ⟨i0, hi0, hz0, hz1, hz2⟩ := info_parts infoS
  obtain ⟨Av, cv, rfl⟩ := own_shape hm.row
  have b1 : w.cell? ⟨m, 1, none⟩ = some (.slice Av s.tk.length cv) := hm.box.cell 1
  obtain ⟨scs, tk, cl⟩ := s
  simp only at *
  clear hm hc hk hparts
  go_enter Tryz.func8, Tryz.ntmps8
  go_wp2_with fail
  go_loopw [3, 16] (fun o i wr => ∃ (k : Nat) (A' : Option Addr) (n c' : Nat), k ≤ tk.length ∧ i = .int .i64 k ∧ o = .slice A' n c' ∧ n ≤ 3 * k ∧ Hid (TxP w A' n c' (cmdsB (tk.take k)) wr)) (fun _ i _ => tk.length - (intOf i).toNat)
  case atStart => exact ⟨0, none, 0, 0, Nat.zero_le _, rfl, rfl, by omega, TxP.nil w⟩
  case round =>
    obtain ⟨k, A', n, c', hk, rfl, rfl, hn3, HT⟩ := hrel
    have hwsz := HT.out.bel.size
    by_cases hlt : k < tk.length
    · obtain ⟨g, off, c1, hV, hg, q0, q1, q2⟩ := rd_cmd (HRW.out.below HT.out.bel) hlt
      injection hV with hA _ hcc
      subst hA
      clear hcc
      have hsn := Lib.hid (cmdsB_take tk k hlt)
      obtain ⟨⟨x0, x1⟩, ⟨x2, x3⟩, ⟨x4, x5⟩⟩ := HIN.out tk[k] (List.getElem_mem hlt)
      generalize tk[k] = x at *
      obtain ⟨kind, group, shard⟩ := x
      simp only [cmdT] at *
      go_upto_region 7 with fail
      have hX := Blk.new wr 38 #[.int .i64 kind, .int .i64 group, .int .i64 shard]
      have hb0 := (Below.refl wr.heap.size wr).alloc (Nat.le_refl _) (.cells #[.int .i64 kind, .int .i64 group, .int .i64 shard] 38)
      have HTW := Lib.hid (HT.out.more hb0)
      clear q0 q1 q2 hb0 HT b1
      generalize wr.heap.size = b at *
      generalize wr.alloc (.cells #[.int .i64 kind, .int .i64 group, .int .i64 shard] 38) = W at *
      have HX := Lib.hid hX
      have HLW : Hid (∀ w', Below W.heap.size W w' → Lay w') := fun w' h => (hl.later HTW.out.bel).later h
      clear hX
      have hone := Lib.hid (tri_one (kind, group, shard))
      go_region_held3 (fun w' => w'.cell? ⟨b, 0, none⟩ = some (.int .i64 kind) ∧ w'.cell? ⟨b, 1, none⟩ = some (.int .i64 group) ∧ w'.cell? ⟨b, 2, none⟩ = some (.int .i64 shard))
        ((first | (refine keep3U HX.out ?_; simp only [bl_drew, bl_alloc, bl_refl, *]; done) | (with_reducible exact hxc)))
        ((first
          | (go_at_call 19; have hq := hbl2; refine Calls.mono (num_any shard x4 x5 _ (HLW.out _ hbl2)) ?_; rintro e w3 ⟨rfl, hb3⟩; have hbl3 : Below W.heap.size W w3 := below_then hbl2 hb3; have hT3 := HTW.out.more hbl3; have hs3 := hT3.bel.size)
          | (go_at_call 19; have hq := hbl1; refine Calls.mono (num_any group x2 x3 _ (HLW.out _ hbl1)) ?_; rintro e w2 ⟨rfl, hb2⟩; have hbl2 : Below W.heap.size W w2 := below_then hbl1 hb2)
          | (go_at_call 19; have hq : Below W.heap.size W W.drew := (by simp only [bl_drew, bl_refl]); refine Calls.mono (num_any kind x0 x1 _ (HLW.out _ hq)) ?_; rintro e w1 ⟨rfl, hb1⟩; have hbl1 : Below W.heap.size W w1 := below_then hq hb1)
          | (have hq := hbl3; (refine step_append_lies _ (by rfl) (.tmp 20) (.tmp 30) _ (by rfl) w.heap.size 9 i0 _ 1 16 Tryz.underlying49 hi0 hz0 hz1 hz2 (by rfl) (by omega) (.slice A' n c') n (strs (cmdsB (tk.take k))) (by simp [Act.eval]) (hT3.own.alloc _) ⟨w3.heap.size, 0, none⟩ 3 3 (strs (triB (kind, group, shard))) (by simp [Act.eval]) (by rfl) (World.news_of_block (heap_alloc_new _ _)) hone.out (by omega) (by unfold maxLen; omega) (by omega) (by simp; omega) (w3.heap.size + 1) (by simp) ?_; intro g2 cap2 w4 hown4 hg4 hat4 hlt4; have hxc := keep3U (((HX.out.below hbl3 HX.out.lt).alloc _).grown hg4 (fun e => own_blk_ne hT3.own (HX.out.below hbl3 HX.out.lt) (by decide) e.symm)) (Below.refl _ _)))))
      all_goals
        have hfin := Lib.hid (hT3.push (kind, group, shard) hg4 hown4)
        clear hown4 hg4 hat4 hlt4 hT3
        go_wp2_with fail
        refine ⟨⟨k + 1, some ⟨g2, 0, none⟩, n + 3, cap2, by omega, by simp, rfl, by omega, ?_⟩, by simp [intOf]; omega⟩
        unfold Hid
        rw [hsn.out]
        exact hfin.out
    · obtain rfl : k = tk.length := by omega
      rw [List.take_length] at HT
      obtain ⟨wo, rfl⟩ : ∃ wo : World, wo = wr := ⟨_, rfl⟩
      have hbox := HM.out.box.below HT.out.bel HM.out.box.lt
      have hz := moot16 hbox
      have z2 : wo.cell? ⟨m, 2, none⟩ = some (.int .i64 (cl 0).1) := hz 2 _ rfl
      have z3 : wo.cell? ⟨m, 3, none⟩ = some (.int .i64 (cl 0).2) := hz 3 _ rfl
      have z4 : wo.cell? ⟨m, 4, none⟩ = some (.int .i64 (cl 1).1) := hz 4 _ rfl
      have z5 : wo.cell? ⟨m, 5, none⟩ = some (.int .i64 (cl 1).2) := hz 5 _ rfl
      have z6 : wo.cell? ⟨m, 6, none⟩ = some (.int .i64 (cl 2).1) := hz 6 _ rfl
      have z7 : wo.cell? ⟨m, 7, none⟩ = some (.int .i64 (cl 2).2) := hz 7 _ rfl
      have z8 : wo.cell? ⟨m, 8, none⟩ = some (.int .i64 (cl 3).1) := hz 8 _ rfl
      have z9 : wo.cell? ⟨m, 9, none⟩ = some (.int .i64 (cl 3).2) := hz 9 _ rfl
      have z10 : wo.cell? ⟨m, 10, none⟩ = some (.int .i64 (cl 4).1) := hz 10 _ rfl
      have z11 : wo.cell? ⟨m, 11, none⟩ = some (.int .i64 (cl 4).2) := hz 11 _ rfl
      have z12 : wo.cell? ⟨m, 12, none⟩ = some (.int .i64 (cl 5).1) := hz 12 _ rfl
      have z13 : wo.cell? ⟨m, 13, none⟩ = some (.int .i64 (cl 5).2) := hz 13 _ rfl
      have z14 : wo.cell? ⟨m, 14, none⟩ = some (.int .i64 (cl 6).1) := hz 14 _ rfl
      have z15 : wo.cell? ⟨m, 15, none⟩ = some (.int .i64 (cl 6).2) := hz 15 _ rfl
      have z16 : wo.cell? ⟨m, 16, none⟩ = some (.int .i64 (cl 7).1) := hz 16 _ rfl
      have z17 : wo.cell? ⟨m, 17, none⟩ = some (.int .i64 (cl 7).2) := hz 17 _ rfl
      have hlo := Lib.hid (hl.later HT.out.bel)
      clear hz hbox b1 hlt
      go_wp2_with fail
      clear z2 z3 z4 z5 z6 z7 z8 z9 z10 z11 z12 z13 z14 z15 z16 z17
      go_loopw [4, 37] (fun o i wr => ∃ (k : Nat) (A2 : Option Addr) (n2 c2 : Nat), k ≤ 8 ∧ i = .int .i64 k ∧ o = .slice A2 n2 c2 ∧ n2 ≤ 3 * k ∧ Hid (TxP wo A2 n2 c2 (clisB cl k) wr)) (fun _ i _ => 8 - (intOf i).toNat)
      case atStart => exact ⟨0, none, 0, 0, Nat.zero_le _, rfl, rfl, by omega, TxP.nil wo⟩
      case round =>
        obtain ⟨k, A2, n2, c2, hk8, rfl, rfl, hn8, HT2⟩ := hrel
        have hwsz2 := HT2.out.bel.size
        by_cases hlt : k < 8
        · have hix := fun W => cls_at cl k hlt W
          unfold clsV at hix
          have hX := Blk.new wr 58 #[.int .i64 (cl k).1, .int .i64 (cl k).2]
          have hb0 := (Below.refl wr.heap.size wr).alloc (Nat.le_refl _) (.cells #[.int .i64 (cl k).1, .int .i64 (cl k).2] 58)
          have HTW := Lib.hid (HT2.out.more hb0)
          have HX := Lib.hid hX
          clear hb0 hX
          by_cases h0 : 0 < (cl k).1
          · have hsn := Lib.hid (cliB_yes h0)
            have hbd : (1 ≤ (cl k).1 ∧ (cl k).1 ≤ 1099511627776 ∧ 0 ≤ (cl k).2 ∧ (cl k).2 ≤ 999) := by
              rcases HCL.out k with e | ⟨_, e⟩
              · rw [e] at h0; simp at h0
              · exact e
            obtain ⟨y0, y1, y2, y3⟩ := hbd
            go_upto_region 13 with fail
            clear hix HT2
            generalize wr.heap.size = b at *
            generalize (cl k).1 = cn at *
            generalize (cl k).2 = ca at *
            generalize wr.alloc (.cells #[.int .i64 cn, .int .i64 ca] 58) = W at *
            have HLW : Hid (∀ w', Below W.heap.size W w' → Lay w') := fun w' h => (hlo.out.later HTW.out.bel).later h
            have hone := Lib.hid (tri_one ((k : Int), cn, ca))
            go_region_held3 (fun w' => w'.cell? ⟨b, 0, none⟩ = some (.int .i64 cn) ∧ w'.cell? ⟨b, 1, none⟩ = some (.int .i64 ca))
              ((first | (refine keep2U HX.out ?_; simp only [bl_drew, bl_alloc, bl_refl, *]; done) | (with_reducible exact hxc)))
              ((first
                | (go_at_call 19; have hq := hbl2; refine Calls.mono (num_any ca (by omega) (by omega) _ (HLW.out _ hbl2)) ?_; rintro e w3 ⟨rfl, hb3⟩; have hbl3 : Below W.heap.size W w3 := below_then hbl2 hb3; have hT3 := HTW.out.more hbl3; have hs3 := hT3.bel.size)
                | (go_at_call 19; have hq := hbl1; refine Calls.mono (num_any cn (by omega) (by omega) _ (HLW.out _ hbl1)) ?_; rintro e w2 ⟨rfl, hb2⟩; have hbl2 : Below W.heap.size W w2 := below_then hbl1 hb2)
                | (go_at_call 19; have hq : Below W.heap.size W W.drew := (by simp only [bl_drew, bl_refl]); refine Calls.mono (num_any (k : Int) (by omega) (by omega) _ (HLW.out _ hq)) ?_; rintro e w1 ⟨rfl, hb1⟩; have hbl1 : Below W.heap.size W w1 := below_then hq hb1)
                | (have hq := hbl3; (refine step_append_lies _ (by rfl) (.tmp 44) (.tmp 53) _ (by rfl) wo.heap.size 9 i0 _ 1 16 Tryz.underlying49 hi0 hz0 hz1 hz2 (by rfl) (by omega) (.slice A2 n2 c2) n2 (strs (clisB cl k)) (by simp [Act.eval]) (hT3.own.alloc _) ⟨w3.heap.size, 0, none⟩ 3 3 (strs (triB ((k : Int), cn, ca))) (by simp [Act.eval]) (by rfl) (World.news_of_block (heap_alloc_new _ _)) hone.out (by omega) (by unfold maxLen; omega) (by omega) (by simp; omega) (w3.heap.size + 1) (by simp) ?_; intro g2 cap2 w4 hown4 hg4 hat4 hlt4; have hxc := keep2U (((HX.out.below hbl3 HX.out.lt).alloc _).grown hg4 (fun e => own_blk_ne hT3.own (HX.out.below hbl3 HX.out.lt) (by decide) e.symm)) (Below.refl _ _)))))
            all_goals
              have hfin := Lib.hid (hT3.push ((k : Int), cn, ca) hg4 hown4)
              clear hown4 hg4 hat4 hlt4 hT3
              go_wp2_with fail
              refine ⟨⟨k + 1, some ⟨g2, 0, none⟩, n2 + 3, cap2, by omega, by simp, rfl, by omega, ?_⟩, by simp [intOf]; omega⟩
              unfold Hid
              rw [hsn.out]
              exact hfin.out
          · have hsn := Lib.hid (cliB_no h0)
            have hd : decide (0 < (cl k).1) = false := decide_eq_false h0
            clear h0
            go_wp2_with fail
            refine ⟨⟨k + 1, A2, n2, c2, by omega, by simp, rfl, by omega, ?_⟩, by simp [intOf]; omega⟩
            unfold Hid
            rw [hsn.out]
            exact HTW.out
        · obtain rfl : k = 8 := by omega
          have HOc := Lib.hid (Rd.of_own (own_below HT.out.own HT2.out.bel))
          have HOk := Lib.hid (Rd.of_own HT2.out.own)
          have hc1 := HT.out.len
          have hc2 := HT2.out.len
          have hlr := hlo.out.later HT2.out.bel
          have HLR := Lib.hid hlr
          have HBR := Lib.hid (HT.out.bel.trans (HT2.out.bel.mono HT.out.bel.size))
          have hcc := Lib.hid (cmdsB_length tk)
          have HP1 : Hid ((packB (cmdsB tk)).length ≤ 140737488355328) := Nat.le_trans HPR.out.1 (by omega)
          have HP2 : Hid ((packB (clisB cl 8)).length ≤ 140737488355328) := Nat.le_trans HPR.out.2.1 (by omega)
          have HP3 : Hid ((packB [packB (cmdsB tk), packB (clisB cl 8)]).length ≤ 140737488355328) := Nat.le_trans HPR.out.2.2 (by omega)
          rw [hc1] at HOc
          rw [hc2] at HOk
          subst hc1 hc2
          generalize hcm : cmdsB tk = cm at *
          generalize hck : clisB cl 8 = ck at *
          have HTXT : Hid (mtxt tk cl = packB [packB cm, packB ck]) := by unfold Hid mtxt; rw [hcm, hck]
          clear hlr HT HT2 hcm hck HPR hlt
          go_wp2_with fail
          refine (pack_any _ cm wr.heap.size _ HLR.out (Nat.le_refl _) HOc.out (by omega) HP1.out).mono ?_
          rintro e w1 ⟨rfl, hb1⟩
          have HOk1 := Lib.hid (HOk.out.below hb1)
          have hl1 := HLR.out.later hb1
          have HBR1 := Lib.hid (HBR.out.trans (hb1.mono HBR.out.size))
          have hs1 := hb1.size
          clear hb1 HOk
          go_wp2_with fail
          refine (pack_any _ ck wr.heap.size _ hl1 hs1 HOk1.out (by omega) HP2.out).mono ?_
          rintro e w2 ⟨rfl, hb2⟩
          have hl2 := hl1.later hb2
          have HBR2 := Lib.hid (HBR1.out.trans (hb2.mono HBR1.out.size))
          clear hb2 hl1
          have hb3 := (Below.refl w2.heap.size w2).alloc (Nat.le_refl _) (.cells #[.string ⟨(packB cm).toArray⟩, .string ⟨(packB ck).toArray⟩] 9)
          have hl3 := hl2.later hb3
          have HBR3 := Lib.hid (HBR2.out.trans (hb3.mono HBR2.out.size))
          go_wp2_with fail
          refine (pack_any _ [packB cm, packB ck] (w2.heap.size + 1) _ hl3 (by simp) (rd_newU w2 [packB cm, packB ck] _ rfl 2 rfl) (by simp) HP3.out).mono ?_
          rintro e w4 ⟨rfl, hb4⟩
          go_wp2
          go_ret
          exact ⟨by rw [HTXT.out]; rfl, HBR3.out.trans (hb4.mono HBR3.out.size)⟩

end Go.Proofs.YtijacbnoemjgcaaGreatDoor
