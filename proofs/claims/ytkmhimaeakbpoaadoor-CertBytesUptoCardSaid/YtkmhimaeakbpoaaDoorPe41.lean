/- The reference: Is, Add. -/
import Derived.Test.YtkmhimaeakbpoaaDoorPe40
set_option linter.unusedVariables false
set_option linter.unusedSimpArgs false
set_option linter.unnecessarySimpa false
namespace Go.Proofs.YtkmhimaeakbpoaaDoor
open Go.RowKit Go.Shelf

set_option maxHeartbeats 1000000 in
set_option maxRecDepth 100000 in
theorem ris_any (g n : Int) (w : World) : Calls Tryd.prog 32 #[.agg #[.int .i64 g, .int .i64 n]] w fun e w' => e = .returned (.bool (isPB g n)) ∧ Below w.heap.size w w' := by
  have hb := (Below.refl w.heap.size w).alloc (Nat.le_refl _) (.cells #[.int .i64 g, .int .i64 n] 26)
  unfold isPB
  cases h1 : decide (-1 ≤ g) with
  | false =>
    go_enter Tryd.func32, Tryd.ntmps32
    go_wp2
    go_ret
    exact ⟨by simp, hb⟩
  | true =>
    cases h2 : decide (g ≤ 4) with
    | false =>
      go_enter Tryd.func32, Tryd.ntmps32
      go_wp2
      go_ret
      exact ⟨by simp, hb⟩
    | true =>
      cases h3 : decide (0 ≤ n) with
      | false =>
        go_enter Tryd.func32, Tryd.ntmps32
        go_wp2
        go_ret
        exact ⟨by simp, hb⟩
      | true =>
        cases h4 : decide (n ≤ 15) with
        | false =>
          go_enter Tryd.func32, Tryd.ntmps32
          go_wp2
          go_ret
          exact ⟨by simp, hb⟩
        | true =>
          go_enter Tryd.func32, Tryd.ntmps32
          go_wp2
          go_ret
          exact ⟨by simp, hb⟩

theorem insL_none (l : List TagV) (x : TagV) (h : ∀ y ∈ l, ¬ x.1 < y.1) : insL l x = l ++ [x] := by
  induction l with
  | nil => rfl
  | cons y l ih =>
    rw [insL, if_neg (h y (by simp)), ih (fun z hz => h z (by simp [hz]))]; rfl
theorem insL_first (l : List TagV) (x y : TagV) (h : ∀ z ∈ l, ¬ x.1 < z.1) (hy : x.1 < y.1) : insL (l ++ [y]) x = l ++ [x] ++ [y] := by
  induction l with
  | nil => show insL [y] x = _; rw [insL, if_pos hy]; rfl
  | cons z l ih =>
    rw [List.cons_append, insL, if_neg (h z (by simp)), ih (fun u hu => h u (by simp [hu]))]; rfl
theorem insL_more (l : List TagV) (x y : TagV) (h : ∃ z ∈ l, x.1 < z.1) : insL (l ++ [y]) x = insL l x ++ [y] := by
  induction l with
  | nil => obtain ⟨z, hz, _⟩ := h; cases hz
  | cons z l ih =>
    rw [List.cons_append, insL, insL]
    by_cases hz : x.1 < z.1
    · rw [if_pos hz, if_pos hz]; rfl
    · rw [if_neg hz, if_neg hz, ih (by
        obtain ⟨u, hu, h⟩ := h
        rcases List.mem_cons.1 hu with rfl | hu
        · exact absurd h hz
        · exact ⟨u, hu, h⟩)]; rfl
/-- What stands in the new list behind k tags: whether the tag was put already. -/
def OutK (T : List TagV) (x : TagV) (k : Nat) (put : Bool) (L : List TagV) : Prop :=
  (∀ y ∈ T.take k, y.1 ≠ x.1) ∧ if put = true then (∃ z ∈ T.take k, x.1 < z.1) ∧ L = insL (T.take k) x else (∀ z ∈ T.take k, ¬ x.1 < z.1) ∧ L = T.take k
theorem OutK.start (T : List TagV) (x : TagV) : OutK T x 0 false [] := ⟨by simp, by rw [if_neg (by simp)]; exact ⟨by simp, rfl⟩⟩
theorem outK_ne {T : List TagV} {x : TagV} {k : Nat} (hk : k < T.length) (h : ∀ y ∈ T.take k, y.1 ≠ x.1) (hne : T[k].1 ≠ x.1) : ∀ y ∈ T.take (k + 1), y.1 ≠ x.1 := by
  rw [List.take_succ_eq_append_getElem hk]
  intro y hy
  rcases List.mem_append.1 hy with hy | hy
  · exact h y hy
  · rw [List.mem_singleton] at hy; subst hy; exact hne
theorem OutK.now {T : List TagV} {x : TagV} {k : Nat} {L : List TagV} (h : OutK T x k false L) (hk : k < T.length) (hne : T[k].1 ≠ x.1) (hlt : x.1 < T[k].1) : OutK T x (k + 1) true (L ++ [x] ++ [T[k]]) := by
  obtain ⟨h1, h2⟩ := h
  rw [if_neg (by simp)] at h2
  refine ⟨outK_ne hk h1 hne, ?_⟩
  rw [if_pos rfl, List.take_succ_eq_append_getElem hk]
  exact ⟨⟨T[k], List.mem_append_right _ (List.mem_singleton.2 rfl), hlt⟩, by rw [insL_first _ _ _ h2.1 hlt, h2.2]⟩
theorem OutK.later {T : List TagV} {x : TagV} {k : Nat} {L : List TagV} (h : OutK T x k true L) (hk : k < T.length) (hne : T[k].1 ≠ x.1) : OutK T x (k + 1) true (L ++ [T[k]]) := by
  obtain ⟨h1, h2⟩ := h
  rw [if_pos rfl] at h2
  refine ⟨outK_ne hk h1 hne, ?_⟩
  rw [if_pos rfl, List.take_succ_eq_append_getElem hk]
  obtain ⟨⟨z, hz, hlt⟩, h3⟩ := h2
  exact ⟨⟨z, List.mem_append_left _ hz, hlt⟩, by rw [insL_more _ _ _ ⟨z, hz, hlt⟩, h3]⟩
theorem OutK.notyet {T : List TagV} {x : TagV} {k : Nat} {L : List TagV} (h : OutK T x k false L) (hk : k < T.length) (hne : T[k].1 ≠ x.1) (hlt : ¬ x.1 < T[k].1) : OutK T x (k + 1) false (L ++ [T[k]]) := by
  obtain ⟨h1, h2⟩ := h
  rw [if_neg (by simp)] at h2
  refine ⟨outK_ne hk h1 hne, ?_⟩
  rw [if_neg (by simp), List.take_succ_eq_append_getElem hk]
  refine ⟨fun z hz => ?_, by rw [h2.2]⟩
  rcases List.mem_append.1 hz with hz | hz
  · exact h2.1 z hz
  · rw [List.mem_singleton] at hz; subst hz; exact hlt
theorem OutK.done {T : List TagV} {x : TagV} {put : Bool} {L : List TagV} (h : OutK T x T.length put L) (hf : tagsE (-1) T = 0) : insT T x = (if put = true then L else L ++ [x]) ∧ T.any (fun y => decide (y.1 = x.1)) = false := by
  obtain ⟨h1, h2⟩ := h
  rw [List.take_length] at h1 h2
  refine ⟨?_, by rw [List.any_eq_false]; intro y hy; simpa using h1 y hy⟩
  rw [← ins_is hf h1]
  cases put with
  | true => rw [if_pos rfl] at h2 ⊢; exact h2.2.symm
  | false => rw [if_neg (by simp)] at h2 ⊢; rw [h2.2]; exact insL_none _ _ h2.1
theorem OutK.len {T : List TagV} {x : TagV} {k : Nat} {put : Bool} {L : List TagV} (h : OutK T x k put L) (hk : k ≤ T.length) : L.length ≤ k + 1 := by
  obtain ⟨_, h2⟩ := h
  cases put with
  | true => rw [if_pos rfl] at h2; rw [h2.2, insL_length, List.length_take]; omega
  | false => rw [if_neg (by simp)] at h2; rw [h2.2, List.length_take]; omega

/-- A certificate of the reference and an error come back. -/
def RCrtOut (w : World) (r : Crt × Int) (e : Ending) (w' : World) : Prop :=
  ∃ A cc, e = .returned (.tuple #[.agg #[.string ⟨r.1.t.toArray⟩, .int .i64 r.1.g, .slice A r.1.tags.length cc], .int .i64 r.2]) ∧ w'.ownsRow w.heap.size 75 2 (.slice A r.1.tags.length cc) r.1.tags.length (cellsT r.1.tags) ∧ Below w.heap.size w w'
theorem rown_set3Y {w1 : World} {b base : Nat} {cs : Array Value} {v : Value} {n : Nat} {xs : List Value} (h : Blk w1 b 36 cs) (ho : w1.ownsRow base 75 2 v n xs) (v0 v1 v2 : Value) :
    (((w1.setCell ⟨b, 0, none⟩ v0).setCell ⟨b, 1, none⟩ v1).setCell ⟨b, 2, none⟩ v2).ownsRow base 75 2 v n xs :=
  ((((Chg.refl (fun i => i = b) w1).setCell (p := ⟨b, 0, none⟩) (fun _ => rfl) v0).setCell (p := ⟨b, 1, none⟩) (fun _ => rfl) v1).setCell (p := ⟨b, 2, none⟩) (fun _ => rfl) v2).owns ho (fun g hg e => own_blk_ne ho h (by decide) (by rw [hg, e]))
/-- The blocks of a call of Add, known whole. -/
structure RA (w : World) (c : Crt) (g n : Int) (A : Option Addr) (cc : Nat) (wr : World) : Prop where
  x : Blk wr w.heap.size 36 #[.string ⟨c.t.toArray⟩, .int .i64 c.g, .slice A c.tags.length cc]
  p : Blk wr (w.heap.size + 1) 26 #[.int .i64 g, .int .i64 n]
  z : Blk wr (w.heap.size + 1 + 1) 36 #[.string ⟨#[]⟩, .int .i64 0, .slice none 0 0]
  b : Below w.heap.size w wr
theorem RA.more {w wr w2 : World} {c : Crt} {g n : Int} {A : Option Addr} {cc : Nat} (h : RA w c g n A cc wr) (hb : Below wr.heap.size wr w2) : RA w c g n A cc w2 := ⟨h.x.below hb h.x.lt, h.p.below hb h.p.lt, h.z.below hb h.z.lt, h.b.trans (hb.mono h.b.size)⟩
theorem RA.grown {w wr w2 : World} {c : Crt} {g n : Int} {A : Option Addr} {cc m : Nat} {v : Value} {xs : List Value} {o : Obj} (h : RA w c g n A cc wr) (ho : wr.ownsRow w.heap.size 75 2 v m xs) (hg : (wr.alloc o).grownBy w2 v.ownBlock) : RA w c g n A cc w2 :=
  ⟨(h.x.alloc o).grown hg (fun e => own_blk_ne ho h.x (by decide) e.symm), (h.p.alloc o).grown hg (fun e => own_blk_ne ho h.p (by decide) e.symm), (h.z.alloc o).grown hg (fun e => own_blk_ne ho h.z (by decide) e.symm),
    h.b.trans (((Below.refl w.heap.size wr).alloc h.b.size o).grown hg (by have := h.b.size; simp; omega) (fun k e => (ho.lt k e).1))⟩
theorem news1 (wr : World) (n : Int) (s : Bs) : ∀ j u, (tagC (n, s))[j]? = some u → (wr.alloc (.cells #[.int .i64 n, .string ⟨s.toArray⟩] 75)).cell? ((⟨wr.heap.size, 0, none⟩ : Addr).add j) = some u := fun j u hu => by
  rw [add_lit2, Nat.zero_add, (Blk.new _ 75 #[.int .i64 n, .string ⟨s.toArray⟩]).cell j]
  simpa [tagC, ← List.getElem?_toArray] using hu
theorem one1Y (n : Int) (s : Bs) : ∀ u ∈ tagC (n, s), u.oneCell' = true := by simp [tagC, Value.oneCell']
theorem RA.start (c : Crt) (g n : Int) (A : Option Addr) (cc : Nat) (w : World) : RA w c g n A cc (((w.alloc (.cells #[.string ⟨c.t.toArray⟩, .int .i64 c.g, .slice A c.tags.length cc] 36)).alloc (.cells #[.int .i64 g, .int .i64 n] 26)).alloc (.cells #[.string ⟨#[]⟩, .int .i64 0, .slice none 0 0] 36)) := by
  have hs1 : (w.alloc (.cells #[.string ⟨c.t.toArray⟩, .int .i64 c.g, .slice A c.tags.length cc] 36)).heap.size = w.heap.size + 1 := by simp
  have hs2 : ((w.alloc (.cells #[.string ⟨c.t.toArray⟩, .int .i64 c.g, .slice A c.tags.length cc] 36)).alloc (.cells #[.int .i64 g, .int .i64 n] 26)).heap.size = w.heap.size + 1 + 1 := by simp
  refine ⟨((Blk.new w _ _).alloc _).alloc _, ?_, ?_, (((Below.refl _ w).alloc (Nat.le_refl _) _).alloc (by simp) _).alloc (by simp; omega) _⟩
  · rw [← hs1]; exact (Blk.new _ _ _).alloc _
  · rw [← hs2]; exact Blk.new _ _ _

set_option maxHeartbeats 8000000 in
set_option maxRecDepth 100000 in
theorem radd_any (c : Crt) (v : Value) (g n : Int) (text tag : Bs) (w : World) (B : Nat) (hB : B ≤ w.heap.size) (hr : Rd w B 2 v c.tags.length (cellsT c.tags)) (hm : c.tags.length ≤ 1048576) :
    Calls Tryd.prog 11 #[.agg #[.string ⟨c.t.toArray⟩, .int .i64 c.g, v], .agg #[.int .i64 g, .int .i64 n], .string ⟨text.toArray⟩, .string ⟨tag.toArray⟩] w (RCrtOut w (addS c g n text tag)) := by
  obtain ⟨A, cc, rfl⟩ : ∃ A cc, v = .slice A c.tags.length cc := by obtain ⟨_, A, cc, rfl, _⟩ := hr; exact ⟨_, _, rfl⟩
  have HR := Lib.hid (hr.more hB)
  clear hr
  obtain ⟨i0, hi0, hz0, hz1, hz2⟩ := info_parts rtag_info
  have hst := RA.start c g n A cc w
  generalize hW0 : ((w.alloc (.cells #[.string ⟨c.t.toArray⟩, .int .i64 c.g, .slice A c.tags.length cc] 36)).alloc (.cells #[.int .i64 g, .int .i64 n] 26)).alloc (.cells #[.string ⟨#[]⟩, .int .i64 0, .slice none 0 0] 36) = W0 at hst
  have HST := Lib.hid hst
  clear hst
  have hF := rform_any c (.slice A c.tags.length cc) W0 w.heap.size HST.out.b.size (HR.out.below HST.out.b) hm
  have x0 : W0.cell? ⟨w.heap.size, 0, none⟩ = some (.string ⟨c.t.toArray⟩) := HST.out.x.cell 0
  have x1 : W0.cell? ⟨w.heap.size, 1, none⟩ = some (.int .i64 c.g) := HST.out.x.cell 1
  have x2 : W0.cell? ⟨w.heap.size, 2, none⟩ = some (.slice A c.tags.length cc) := HST.out.x.cell 2
  by_cases hf : formS c = 0
  · obtain ⟨f1, f2, f3⟩ := form_in hf
    have HFM := Lib.hid f3
    have HDS := Lib.hid (show addS c g n text tag = if isPB g n = false then (crt0, 1) else if g ≠ c.g then (crt0, 41) else if text ≠ c.t ∨ tag.length ≠ 16 then (crt0, 4) else if c.tags.any (fun y => decide (y.1 = n)) then (crt0, 42) else (⟨c.t, c.g, insT c.tags (n, tag)⟩, 0) by unfold addS; rw [if_neg (by simpa using hf)])
    rw [hf] at hF
    clear hf f1 f2 f3
    go_enter Tryd.func11, Tryd.ntmps11
    go_upto_region 1 with fail
    clear hW0
    go_wp2_with fail
    refine hF.mono ?_
    rintro e W1 ⟨rfl, hb1⟩
    have HR1 := Lib.hid (HST.out.more hb1)
    have p0 : W1.cell? ⟨w.heap.size + 1, 0, none⟩ = some (.int .i64 g) := HR1.out.p.cell 0
    have p1 : W1.cell? ⟨w.heap.size + 1, 1, none⟩ = some (.int .i64 n) := HR1.out.p.cell 1
    have HI := Lib.hid (ris_any g n W1)
    clear hb1 hF x0 x1 x2 HST
    go_wp2_with fail
    refine HI.out.mono ?_
    rintro e W ⟨rfl, hb⟩
    have HRA := Lib.hid (HR1.out.more hb)
    clear hb HI HR1 p0 p1
    cases hp : isPB g n with
    | false =>
      have HE : Hid (addS c g n text tag = (crt0, 1)) := by unfold Hid; rw [HDS.out, if_pos hp]
      clear hp HDS HFM
      have z0 : W.cell? ⟨w.heap.size + 1 + 1, 0, none⟩ = some (.string ⟨#[]⟩) := HRA.out.z.cell 0
      have z1 : W.cell? ⟨w.heap.size + 1 + 1, 1, none⟩ = some (.int .i64 0) := HRA.out.z.cell 1
      have z2 : W.cell? ⟨w.heap.size + 1 + 1, 2, none⟩ = some (.slice none 0 0) := HRA.out.z.cell 2
      have q0 := HRA.out.z.frozen 0
      have q1 := HRA.out.z.frozen 1
      have q2 := HRA.out.z.frozen 2
      go_wp2_with fail
      refine bodyPost_ret (v := .tuple #[.agg #[.string ⟨#[]⟩, .int .i64 0, .slice none 0 0], .int .i64 1]) (by simp [results, Tryd.results11, go_sem, z0, z1, z2]) rfl ?_
      rw [HE.out]
      exact ⟨none, 0, rfl, World.ownsRow_nil _ _ _ _, below_set3Y HRA.out.b _ _ _ (by omega)⟩
    | true =>
      have HD2 : Hid (addS c g n text tag = if g ≠ c.g then (crt0, 41) else if text ≠ c.t ∨ tag.length ≠ 16 then (crt0, 4) else if c.tags.any (fun y => decide (y.1 = n)) then (crt0, 42) else (⟨c.t, c.g, insT c.tags (n, tag)⟩, 0)) := by unfold Hid; rw [HDS.out, if_neg (by rw [hp]; simp)]
      clear hp HDS
      have x0 : W.cell? ⟨w.heap.size, 0, none⟩ = some (.string ⟨c.t.toArray⟩) := HRA.out.x.cell 0
      have x1 : W.cell? ⟨w.heap.size, 1, none⟩ = some (.int .i64 c.g) := HRA.out.x.cell 1
      have x2 : W.cell? ⟨w.heap.size, 2, none⟩ = some (.slice A c.tags.length cc) := HRA.out.x.cell 2
      have p0 : W.cell? ⟨w.heap.size + 1, 0, none⟩ = some (.int .i64 g) := HRA.out.p.cell 0
      have p1 : W.cell? ⟨w.heap.size + 1, 1, none⟩ = some (.int .i64 n) := HRA.out.p.cell 1
      by_cases hg : g = c.g
      · have dg : (g != c.g) = false := by simp [hg]
        by_cases ht : text = c.t
        · subst ht
          by_cases hl16 : tag.length = 16
          · have d16 : ((tag.length : Int) != 16) = false := by simp [hl16]
            have HD3 : Hid (addS c g n c.t tag = if c.tags.any (fun y => decide (y.1 = n)) then (crt0, 42) else (⟨c.t, c.g, insT c.tags (n, tag)⟩, 0)) := by unfold Hid; rw [HD2.out, if_neg (by simpa using hg), if_neg (by simp [hl16])]
            clear hg hl16 HD2
            go_wp2_with fail
            have HST2 : Hid (∃ L, OutK c.tags (n, tag) 0 false L ∧ L.length = 0 ∧ W.ownsRow w.heap.size 75 2 (.slice none 0 0) 0 (cellsT L)) := ⟨[], OutK.start _ _, rfl, World.ownsRow_nil _ _ _ _⟩
            clear x0 x1 x2 p0 p1
            go_loopw [11, 12, 44] (fun o pu i wr => ∃ (k : Nat) (put : Bool) (A' : Option Addr) (m c' : Nat), k ≤ c.tags.length ∧ i = .int .i64 k ∧ pu = .bool put ∧ o = .slice A' m c' ∧ Hid (RA w c g n A cc wr ∧ ∃ L, OutK c.tags (n, tag) k put L ∧ L.length = m ∧ wr.ownsRow w.heap.size 75 2 (.slice A' m c') m (cellsT L))) (fun _ _ i _ => c.tags.length - (intOf i).toNat)
            case atStart => exact ⟨0, false, none, 0, 0, Nat.zero_le _, rfl, rfl, rfl, HRA.out, HST2.out⟩
            case round =>
              obtain ⟨k, put, A', m, c', hk, rfl, rfl, rfl, HH⟩ := hrel
              obtain ⟨hra, L, hout, hLl, hown⟩ := HH.out
              clear HH HST2 HRA
              by_cases hlt : k < c.tags.length
              · obtain ⟨gb, off, c0, hV, hgb, t0, t1⟩ := rd_tag (HR.out.below hra.b) hlt
                injection hV with hA _ hcc
                subst hA
                clear hcc
                have hlen := hout.len (Nat.le_of_lt hlt)
                have HNOW := Lib.hid (fun (L2 : List TagV) (h : OutK c.tags (n, tag) k false L2) (h1 : c.tags[k].1 ≠ n) (h2 : n < c.tags[k].1) => h.now hlt h1 h2)
                have HLAT := Lib.hid (fun (L2 : List TagV) (h : OutK c.tags (n, tag) k true L2) (h1 : c.tags[k].1 ≠ n) => h.later hlt h1)
                have HNOT := Lib.hid (fun (L2 : List TagV) (h : OutK c.tags (n, tag) k false L2) (h1 : c.tags[k].1 ≠ n) (h2 : ¬ n < c.tags[k].1) => h.notyet hlt h1 h2)
                have HANY : Hid (c.tags[k].1 = n → c.tags.any (fun y => decide (y.1 = n)) = true) := fun h => by rw [List.any_eq_true]; exact ⟨c.tags[k], List.getElem_mem hlt, by simpa using h⟩
                have hb0 := (Below.refl wr.heap.size wr).alloc (Nat.le_refl _) (.cells #[.int .i64 c.tags[k].1, .string ⟨c.tags[k].2.toArray⟩] 75)
                have HRA2 := Lib.hid (hra.more hb0)
                have HOW2 := Lib.hid (own_below hown hb0)
                have HNE : Hid ((Value.slice A' m c').ownBlock ≠ some wr.heap.size) := fun e => by have := (hown.lt _ e).2; omega
                have HTB := Lib.hid (Blk.new wr 75 #[.int .i64 c.tags[k].1, .string ⟨c.tags[k].2.toArray⟩])
                have HOUT := Lib.hid hout
                have p1 : wr.cell? ⟨w.heap.size + 1, 1, none⟩ = some (.int .i64 n) := hra.p.cell 1
                have hplt : w.heap.size + 1 < wr.heap.size := hra.p.lt
                have hlle : m ≤ 1048577 := by omega
                generalize hy : c.tags[k] = y at *
                obtain ⟨yn, ys⟩ := y
                simp only at t0 t1 HNOW HLAT HNOT HANY HRA2 HOW2 HTB
                clear hra hown hout hb0 hy
                by_cases hyn : yn = n
                · have HE : Hid (addS c g n c.t tag = (crt0, 42)) := by unfold Hid; rw [HD3.out, if_pos (HANY.out hyn)]
                  have dy : (yn == n) = true := by simpa using hyn
                  clear hyn HD3 HNOW HLAT HNOT HANY
                  go_upto_region 15 with fail
                  generalize hW2 : wr.alloc (.cells #[.int .i64 yn, .string ⟨ys.toArray⟩] 75) = W2 at *
                  have tb0 : W2.cell? ⟨wr.heap.size, 0, none⟩ = some (.int .i64 yn) := HTB.out.cell 0
                  have p1 : W2.cell? ⟨w.heap.size + 1, 1, none⟩ = some (.int .i64 n) := HRA2.out.p.cell 1
                  have z0 : W2.cell? ⟨w.heap.size + 1 + 1, 0, none⟩ = some (.string ⟨#[]⟩) := HRA2.out.z.cell 0
                  have z1 : W2.cell? ⟨w.heap.size + 1 + 1, 1, none⟩ = some (.int .i64 0) := HRA2.out.z.cell 1
                  have z2 : W2.cell? ⟨w.heap.size + 1 + 1, 2, none⟩ = some (.slice none 0 0) := HRA2.out.z.cell 2
                  have q0 := HRA2.out.z.frozen 0
                  have q1 := HRA2.out.z.frozen 1
                  have q2 := HRA2.out.z.frozen 2
                  clear hW2 t0 t1 hplt
                  go_wp2_with fail
                  refine bodyPost_ret (v := .tuple #[.agg #[.string ⟨#[]⟩, .int .i64 0, .slice none 0 0], .int .i64 42]) (by simp [results, Tryd.results11, go_sem, z0, z1, z2]) rfl ?_
                  rw [HE.out]
                  exact ⟨none, 0, rfl, World.ownsRow_nil _ _ _ _, below_set3Y HRA2.out.b _ _ _ (by omega)⟩
                · have dy : (yn == n) = false := by simpa using hyn
                  have HYN := Lib.hid hyn
                  clear HD3 HANY hyn
                  go_upto_region 15 with fail
                  generalize hW2 : wr.alloc (.cells #[.int .i64 yn, .string ⟨ys.toArray⟩] 75) = W2 at *
                  have tb0 : W2.cell? ⟨wr.heap.size, 0, none⟩ = some (.int .i64 yn) := HTB.out.cell 0
                  have p1 : W2.cell? ⟨w.heap.size + 1, 1, none⟩ = some (.int .i64 n) := HRA2.out.p.cell 1
                  have hsz2 : w.heap.size ≤ W2.heap.size := HRA2.out.b.size
                  clear hW2 t0 t1 hplt
                  cases put with
                  | true =>
                    have tb1 : W2.cell? ⟨wr.heap.size, 1, none⟩ = some (.string ⟨ys.toArray⟩) := HTB.out.cell 1
                    go_upto_region 20 with fail
                    go_wp2_with (at_builtin; refine wpList_append_own _ rfl _ _ 34 rfl w.heap.size 75 i0 _ 2 24 Tryd.underlying34 hi0 hz0 hz1 hz2 rfl (by omega) _ (m) (cellsT L) rfl (HOW2.out.alloc _) ⟨W2.heap.size, 0, none⟩ 1 1 (tagC (yn, ys)) rfl rfl (news1 W2 yn ys) (one1Y yn ys) (by unfold maxLen; omega) (by omega) (by simp; omega) ?_; intro v5 w5 hown5 hg5 _; obtain ⟨A5, c5, rfl⟩ := own_shape hown5)
                    have hra5 := HRA2.out.grown HOW2.out hg5
                    have HF : Hid (RA w c g n _ cc w5 ∧ ∃ L', OutK c.tags (n, tag) (k + 1) true L' ∧ L'.length = m + 1 ∧ w5.ownsRow w.heap.size 75 2 (.slice A5 (m + 1) c5) (m + 1) (cellsT L')) := ⟨hra5, L ++ [(yn, ys)], HLAT.out L HOUT.out HYN.out, by simp [hLl], by rw [cellsT_append]; simpa [cellsT] using hown5⟩
                    clear hown5 hg5 hra5
                    go_wp2_with fail
                    exact ⟨⟨k + 1, true, A5, m + 1, c5, by omega, by simp, rfl, rfl, HF.out⟩, by simp [intOf]; omega⟩
                  | false =>
                    by_cases hnl : n < yn
                    · have HNL := Lib.hid hnl
                      go_upto_region 18 with fail
                      go_upto_region 20 with (at_builtin; refine wpList_append_own _ rfl _ _ 34 rfl w.heap.size 75 i0 _ 2 24 Tryd.underlying34 hi0 hz0 hz1 hz2 rfl (by omega) _ (m) (cellsT L) rfl (HOW2.out.alloc _) ⟨W2.heap.size, 0, none⟩ 1 1 (tagC (n, tag)) rfl rfl (news1 W2 n tag) (one1Y n tag) (by unfold maxLen; omega) (by omega) (by simp; omega) ?_; intro v4 w4 hown4 hg4 _; obtain ⟨A4, c4, rfl⟩ := own_shape hown4)
                      have hra4 := HRA2.out.grown HOW2.out hg4
                      have htb4 := (HTB.out.alloc (.cells #[.int .i64 n, .string ⟨tag.toArray⟩] 75)).grown hg4 (fun e => HNE.out e.symm)
                      have tb0 : w4.cell? ⟨wr.heap.size, 0, none⟩ = some (.int .i64 yn) := htb4.cell 0
                      have tb1 : w4.cell? ⟨wr.heap.size, 1, none⟩ = some (.string ⟨ys.toArray⟩) := htb4.cell 1
                      have HRA4 := Lib.hid hra4
                      have HOW4 := Lib.hid hown4
                      have hsz4 : w.heap.size ≤ w4.heap.size := hra4.b.size
                      clear hra4 hown4 hg4 htb4
                      go_wp2_with (at_builtin; refine wpList_append_own _ rfl _ _ 34 rfl w.heap.size 75 i0 _ 2 24 Tryd.underlying34 hi0 hz0 hz1 hz2 rfl (by omega) _ (m + 1) (cellsT L ++ tagC (n, tag)) rfl (HOW4.out.alloc _) ⟨w4.heap.size, 0, none⟩ 1 1 (tagC (yn, ys)) rfl rfl (news1 w4 yn ys) (one1Y yn ys) (by unfold maxLen; omega) (by omega) (by simp; omega) ?_; intro v5 w5 hown5 hg5 _; obtain ⟨A5, c5, rfl⟩ := own_shape hown5)
                      have hra5 := HRA4.out.grown HOW4.out hg5
                      have HF : Hid (RA w c g n _ cc w5 ∧ ∃ L', OutK c.tags (n, tag) (k + 1) true L' ∧ L'.length = m + 1 + 1 ∧ w5.ownsRow w.heap.size 75 2 (.slice A5 (m + 1 + 1) c5) (m + 1 + 1) (cellsT L')) := ⟨hra5, L ++ [(n, tag)] ++ [(yn, ys)], HNOW.out L HOUT.out HYN.out HNL.out, by simp [hLl], by rw [cellsT_append, cellsT_append]; simpa [cellsT] using hown5⟩
                      clear hown5 hg5 hra5
                      go_wp2_with fail
                      exact ⟨⟨k + 1, true, A5, m + 1 + 1, c5, by omega, by simp, rfl, rfl, HF.out⟩, by simp [intOf]; omega⟩
                    · have dnl : decide (n < yn) = false := decide_eq_false hnl
                      have HNL := Lib.hid hnl
                      have tb1 : W2.cell? ⟨wr.heap.size, 1, none⟩ = some (.string ⟨ys.toArray⟩) := HTB.out.cell 1
                      clear hnl
                      go_upto_region 20 with fail
                      go_wp2_with (at_builtin; refine wpList_append_own _ rfl _ _ 34 rfl w.heap.size 75 i0 _ 2 24 Tryd.underlying34 hi0 hz0 hz1 hz2 rfl (by omega) _ (m) (cellsT L) rfl (HOW2.out.alloc _) ⟨W2.heap.size, 0, none⟩ 1 1 (tagC (yn, ys)) rfl rfl (news1 W2 yn ys) (one1Y yn ys) (by unfold maxLen; omega) (by omega) (by simp; omega) ?_; intro v5 w5 hown5 hg5 _; obtain ⟨A5, c5, rfl⟩ := own_shape hown5)
                      have hra5 := HRA2.out.grown HOW2.out hg5
                      have HF : Hid (RA w c g n _ cc w5 ∧ ∃ L', OutK c.tags (n, tag) (k + 1) false L' ∧ L'.length = m + 1 ∧ w5.ownsRow w.heap.size 75 2 (.slice A5 (m + 1) c5) (m + 1) (cellsT L')) := ⟨hra5, L ++ [(yn, ys)], HNOT.out L HOUT.out HYN.out HNL.out, by simp [hLl], by rw [cellsT_append]; simpa [cellsT] using hown5⟩
                      clear hown5 hg5 hra5
                      go_wp2_with fail
                      exact ⟨⟨k + 1, false, A5, m + 1, c5, by omega, by simp, rfl, rfl, HF.out⟩, by simp [intOf]; omega⟩
              · obtain rfl : k = c.tags.length := by omega
                obtain ⟨hd1, hd2⟩ := hout.done HFM.out
                have hlen := hout.len (Nat.le_refl _)
                have HE0 : Hid (addS c g n c.t tag = (⟨c.t, c.g, if put = true then L else L ++ [(n, tag)]⟩, 0)) := by unfold Hid; rw [HD3.out, if_neg (by rw [hd2]; simp), hd1]
                have HRAW := Lib.hid hra
                have HOWW := Lib.hid hown
                have hsz2 : w.heap.size ≤ wr.heap.size := hra.b.size
                have p1 : wr.cell? ⟨w.heap.size + 1, 1, none⟩ = some (.int .i64 n) := hra.p.cell 1
                have hmm : m ≤ 1048577 := by omega
                clear hd1 hd2 HD3 HFM hout hra hown hlt
                cases put with
                | true =>
                  have HE : Hid (addS c g n c.t tag = (⟨c.t, c.g, L⟩, 0)) := by unfold Hid; rw [HE0.out, if_pos rfl]
                  have x0 : wr.cell? ⟨w.heap.size, 0, none⟩ = some (.string ⟨c.t.toArray⟩) := HRAW.out.x.cell 0
                  have x1 : wr.cell? ⟨w.heap.size, 1, none⟩ = some (.int .i64 c.g) := HRAW.out.x.cell 1
                  have z0 : wr.cell? ⟨w.heap.size + 1 + 1, 0, none⟩ = some (.string ⟨#[]⟩) := HRAW.out.z.cell 0
                  have z1 : wr.cell? ⟨w.heap.size + 1 + 1, 1, none⟩ = some (.int .i64 0) := HRAW.out.z.cell 1
                  have z2 : wr.cell? ⟨w.heap.size + 1 + 1, 2, none⟩ = some (.slice none 0 0) := HRAW.out.z.cell 2
                  have q0 := HRAW.out.z.frozen 0
                  have q1 := HRAW.out.z.frozen 1
                  have q2 := HRAW.out.z.frozen 2
                  clear HE0
                  go_wp2_with fail
                  refine bodyPost_ret (v := .tuple #[.agg #[.string ⟨c.t.toArray⟩, .int .i64 c.g, .slice A' m c'], .int .i64 0]) (by simp [results, Tryd.results11, go_sem, z0, z1, z2]) rfl ?_
                  rw [HE.out]
                  subst hLl
                  exact ⟨A', c', rfl, rown_set3Y HRAW.out.z HOWW.out _ _ _, below_set3Y HRAW.out.b _ _ _ (by omega)⟩
                | false =>
                  have HE : Hid (addS c g n c.t tag = (⟨c.t, c.g, L ++ [(n, tag)]⟩, 0)) := by unfold Hid; rw [HE0.out, if_neg (by simp)]
                  clear HE0
                  go_upto_region 23 with fail
                  go_upto_region 24 with (at_builtin; refine wpList_append_own _ rfl _ _ 34 rfl w.heap.size 75 i0 _ 2 24 Tryd.underlying34 hi0 hz0 hz1 hz2 rfl (by omega) _ (m) (cellsT L) rfl (HOWW.out.alloc _) ⟨wr.heap.size, 0, none⟩ 1 1 (tagC (n, tag)) rfl rfl (news1 wr n tag) (one1Y n tag) (by unfold maxLen; omega) (by omega) (by simp; omega) ?_; intro v4 w4 hown4 hg4 _; obtain ⟨A4, c4, rfl⟩ := own_shape hown4)
                  have hra4 := HRAW.out.grown HOWW.out hg4
                  have x0 : w4.cell? ⟨w.heap.size, 0, none⟩ = some (.string ⟨c.t.toArray⟩) := hra4.x.cell 0
                  have x1 : w4.cell? ⟨w.heap.size, 1, none⟩ = some (.int .i64 c.g) := hra4.x.cell 1
                  have z0 : w4.cell? ⟨w.heap.size + 1 + 1, 0, none⟩ = some (.string ⟨#[]⟩) := hra4.z.cell 0
                  have z1 : w4.cell? ⟨w.heap.size + 1 + 1, 1, none⟩ = some (.int .i64 0) := hra4.z.cell 1
                  have z2 : w4.cell? ⟨w.heap.size + 1 + 1, 2, none⟩ = some (.slice none 0 0) := hra4.z.cell 2
                  have q0 := hra4.z.frozen 0
                  have q1 := hra4.z.frozen 1
                  have q2 := hra4.z.frozen 2
                  have HRA4 := Lib.hid hra4
                  have HOW4 : Hid (w4.ownsRow w.heap.size 75 2 (.slice A4 (m + 1) c4) (m + 1) (cellsT (L ++ [(n, tag)]))) := by unfold Hid; rw [cellsT_append]; simpa [cellsT] using hown4
                  have hll : (L ++ [(n, tag)]).length = m + 1 := by simp [hLl]
                  have HLL := Lib.hid hll
                  clear hra4 hown4 hg4 hll
                  go_wp2_with fail
                  refine bodyPost_ret (v := .tuple #[.agg #[.string ⟨c.t.toArray⟩, .int .i64 c.g, .slice A4 (m + 1) c4], .int .i64 0]) (by simp [results, Tryd.results11, go_sem, z0, z1, z2]) rfl ?_
                  rw [HE.out]
                  have h9 := HOW4.out
                  rw [← HLL.out] at h9 ⊢
                  exact ⟨A4, c4, rfl, rown_set3Y HRA4.out.z h9 _ _ _, below_set3Y HRA4.out.b _ _ _ (by omega)⟩
          · have d16 : ((tag.length : Int) != 16) = true := by simp only [bne_iff_ne, ne_eq]; omega
            have HE : Hid (addS c g n c.t tag = (crt0, 4)) := by unfold Hid; rw [HD2.out, if_neg (by simpa using hg), if_pos (.inr hl16)]
            clear hg hl16 HD2 HFM
            have z0 : W.cell? ⟨w.heap.size + 1 + 1, 0, none⟩ = some (.string ⟨#[]⟩) := HRA.out.z.cell 0
            have z1 : W.cell? ⟨w.heap.size + 1 + 1, 1, none⟩ = some (.int .i64 0) := HRA.out.z.cell 1
            have z2 : W.cell? ⟨w.heap.size + 1 + 1, 2, none⟩ = some (.slice none 0 0) := HRA.out.z.cell 2
            have q0 := HRA.out.z.frozen 0
            have q1 := HRA.out.z.frozen 1
            have q2 := HRA.out.z.frozen 2
            go_wp2_with fail
            refine bodyPost_ret (v := .tuple #[.agg #[.string ⟨#[]⟩, .int .i64 0, .slice none 0 0], .int .i64 4]) (by simp [results, Tryd.results11, go_sem, z0, z1, z2]) rfl ?_
            rw [HE.out]
            exact ⟨none, 0, rfl, World.ownsRow_nil _ _ _ _, below_set3Y HRA.out.b _ _ _ (by omega)⟩
        · have HE : Hid (addS c g n text tag = (crt0, 4)) := by unfold Hid; rw [HD2.out, if_neg (by simpa using hg), if_pos (.inl ht)]
          clear hg HD2 HFM
          have z0 : W.cell? ⟨w.heap.size + 1 + 1, 0, none⟩ = some (.string ⟨#[]⟩) := HRA.out.z.cell 0
          have z1 : W.cell? ⟨w.heap.size + 1 + 1, 1, none⟩ = some (.int .i64 0) := HRA.out.z.cell 1
          have z2 : W.cell? ⟨w.heap.size + 1 + 1, 2, none⟩ = some (.slice none 0 0) := HRA.out.z.cell 2
          have q0 := HRA.out.z.frozen 0
          have q1 := HRA.out.z.frozen 1
          have q2 := HRA.out.z.frozen 2
          go_wp2_with fail
          refine bodyPost_ret (v := .tuple #[.agg #[.string ⟨#[]⟩, .int .i64 0, .slice none 0 0], .int .i64 4]) (by simp [results, Tryd.results11, go_sem, z0, z1, z2]) rfl ?_
          rw [HE.out]
          exact ⟨none, 0, rfl, World.ownsRow_nil _ _ _ _, below_set3Y HRA.out.b _ _ _ (by omega)⟩
      · have dg : (g != c.g) = true := by simpa using hg
        have HE : Hid (addS c g n text tag = (crt0, 41)) := by unfold Hid; rw [HD2.out, if_pos hg]
        clear hg HD2 HFM
        have z0 : W.cell? ⟨w.heap.size + 1 + 1, 0, none⟩ = some (.string ⟨#[]⟩) := HRA.out.z.cell 0
        have z1 : W.cell? ⟨w.heap.size + 1 + 1, 1, none⟩ = some (.int .i64 0) := HRA.out.z.cell 1
        have z2 : W.cell? ⟨w.heap.size + 1 + 1, 2, none⟩ = some (.slice none 0 0) := HRA.out.z.cell 2
        have q0 := HRA.out.z.frozen 0
        have q1 := HRA.out.z.frozen 1
        have q2 := HRA.out.z.frozen 2
        go_wp2_with fail
        refine bodyPost_ret (v := .tuple #[.agg #[.string ⟨#[]⟩, .int .i64 0, .slice none 0 0], .int .i64 41]) (by simp [results, Tryd.results11, go_sem, z0, z1, z2]) rfl ?_
        rw [HE.out]
        exact ⟨none, 0, rfl, World.ownsRow_nil _ _ _ _, below_set3Y HRA.out.b _ _ _ (by omega)⟩
  · have HE := Lib.hid (addS_form (c := c) (g := g) (n := n) (text := text) (tag := tag) hf)
    have hne : (formS c != 0) = true := by simpa using hf
    generalize formS c = f at *
    clear hf
    go_enter Tryd.func11, Tryd.ntmps11
    go_upto_region 1 with fail
    clear hW0
    go_wp2_with fail
    refine hF.mono ?_
    rintro e W ⟨rfl, hb1⟩
    have HRA := Lib.hid (HST.out.more hb1)
    clear hb1 hF x0 x1 x2 HST
    have z0 : W.cell? ⟨w.heap.size + 1 + 1, 0, none⟩ = some (.string ⟨#[]⟩) := HRA.out.z.cell 0
    have z1 : W.cell? ⟨w.heap.size + 1 + 1, 1, none⟩ = some (.int .i64 0) := HRA.out.z.cell 1
    have z2 : W.cell? ⟨w.heap.size + 1 + 1, 2, none⟩ = some (.slice none 0 0) := HRA.out.z.cell 2
    have q0 := HRA.out.z.frozen 0
    have q1 := HRA.out.z.frozen 1
    have q2 := HRA.out.z.frozen 2
    go_wp2_with fail
    refine bodyPost_ret (v := .tuple #[.agg #[.string ⟨#[]⟩, .int .i64 0, .slice none 0 0], .int .i64 f]) (by simp [results, Tryd.results11, go_sem, z0, z1, z2]) rfl ?_
    rw [HE.out]
    exact ⟨none, 0, rfl, World.ownsRow_nil _ _ _ _, below_set3Y HRA.out.b _ _ _ (by omega)⟩

end Go.Proofs.YtkmhimaeakbpoaaDoor
