/- Marks: a vote. -/
import Derived.Test.YtogpbldipmcbdaaDoorKd
import Derived.Laws.StructEq
set_option linter.unusedVariables false
set_option linter.unusedSimpArgs false
set_option linter.unnecessarySimpa false
namespace Go.Proofs.YtogpbldipmcbdaaDoor
open Go.RowKit Go.Shelf

theorem eqf_one {P : Program} {d : Nat} {xs ys : Array Value} {f : Field} {fs : List Field} {a b : Value} {r s : Bool} {w : World} (hn : (f.name == "_") = false)
    (ha : (part f.type xs f.offset).run P w = .ok a w) (hb : (part f.type ys f.offset).run P w = .ok b w) (he : (Op.equalIn d f.type a b).run P w = .ok r w) (hr : (Op.eqFields d xs ys fs).run P w = .ok s w) :
    (Op.eqFields d xs ys (f :: fs)).run P w = .ok (r && s) w := by
  have hn' : f.name ≠ "_" := by simpa using hn
  rw [Op.eqFields]
  simp only [if_pos hn', Sem.run_bind, ha, hb, he, Result.andThen_ok]
  cases r
  · simp
  · simpa using hr
/-- Go's '==' of two numbers and states. -/
def saidEq (n k : Int) (s t : Bs) : Bool := n == k && s == t
theorem eql_said (n k : Int) (s t : Bs) (w : World) :
    (binOp .eql 76 (.agg #[.int .i64 n, .string ⟨s.toArray⟩]) (.agg #[.int .i64 k, .string ⟨t.toArray⟩])).run Tryd.prog w = .ok (.bool (saidEq n k s t)) w := by
  have hs : Tryd.prog.stoodInHeld 76 = false := by kernel_rfl
  have hf : Tryd.prog.underlying 76 = some (.struct (Tryd.prog.fieldsOf 76)) := by simp [Program.fieldsOf, Tryd.underlying76]
  rw [run_eql_struct, run_equalIn_agg w 9999 76 _ _ hf hs]
  simp only [Program.fieldsOf, Tryd.underlying76]
  have h3 := fun (d : Nat) (a b : Int) => run_equalIn_int (P := Tryd.prog) w d 3 .i64 .i64 a b Tryd.underlying3
  have h9 := fun (d : Nat) (a b : ByteArray) => run_equalIn_string (P := Tryd.prog) w d 9 a b Tryd.underlying9
  have p0 : ∀ (x : Int) (y : Bs), (part 3 #[.int .i64 x, .string ⟨y.toArray⟩] 0).run Tryd.prog w = .ok (.int .i64 x) w := fun x y => by kernel_rfl
  have p1 : ∀ (x : Int) (y : Bs), (part 9 #[.int .i64 x, .string ⟨y.toArray⟩] 1).run Tryd.prog w = .ok (.string ⟨y.toArray⟩) w := fun x y => by kernel_rfl
  have e1 : ∀ f : Field, (f.name == "_") = false → f.type = 9 → f.offset = 1 → (Op.eqFields 9999 #[.int .i64 n, .string ⟨s.toArray⟩] #[.int .i64 k, .string ⟨t.toArray⟩] [f]).run Tryd.prog w = .ok ((⟨s.toArray⟩ : ByteArray).toList == (⟨t.toArray⟩ : ByteArray).toList) w := fun f hn ht ho => by
    have := eqf_one (f := f) (fs := []) (s := true) hn (by rw [ht, ho]; exact p1 n s) (by rw [ht, ho]; exact p1 k t) (by rw [ht]; exact h9 9998 _ _) (by simp [Op.eqFields])
    rwa [Bool.and_true] at this
  have E := fun (f : Field) (hn : (f.name == "_") = false) (ht : f.type = 3) (ho : f.offset = 0) (g : Field) (hgn : (g.name == "_") = false) (hgt : g.type = 9) (hgo : g.offset = 1) => eqf_one (f := f) (fs := [g]) (xs := #[.int .i64 n, .string ⟨s.toArray⟩]) (ys := #[.int .i64 k, .string ⟨t.toArray⟩]) hn (by rw [ht, ho]; exact p0 n s) (by rw [ht, ho]; exact p0 k t) (by rw [ht]; exact h3 9998 n k) (e1 g hgn hgt hgo)
  rw [E _ (by decide) rfl rfl _ (by decide) rfl rfl]
  rw [ByteArray.toList_eq, ByteArray.toList_eq]
  simp [saidEq]

theorem cellsV_set (l : List Vot) (k : Nat) (v : Vot) (hk : k < l.length) : (((cellsV l).set (k * 3) (.int .i64 v.n)).set (k * 3 + 1) (.string ⟨v.s.toArray⟩)).set (k * 3 + 2) (.string ⟨v.t.toArray⟩) = cellsV (l.set k v) := by
  induction l generalizing k with
  | nil => simp at hk
  | cons a l ih =>
    cases k with
    | zero => simp [cellsV, Vot.cells]
    | succ k =>
      have := ih k (by simpa using hk)
      simp only [cellsV, List.flatMap_cons, Vot.cells, List.cons_append, List.nil_append, List.set_cons_succ] at this ⊢
      rw [show (k + 1) * 3 = k * 3 + 1 + 1 + 1 by omega]
      simp only [List.set_cons_succ]
      rw [this]

/-- Who voted so, with their tags. -/
def pickV (n : Int) (s : Bs) : Nat → List Vot → List TagV
  | _, [] => []
  | i, v :: l => (if saidEq v.n n v.s s = true then [((i : Int), v.t)] else []) ++ pickV n s (i + 1) l
theorem pickV_append (n : Int) (s : Bs) (a b : List Vot) : ∀ i, pickV n s i (a ++ b) = pickV n s i a ++ pickV n s (i + a.length) b := by
  induction a with
  | nil => intro i; simp [pickV]
  | cons v a ih => intro i; simp only [List.cons_append, pickV, ih, List.length_cons, List.append_assoc]; rw [show i + 1 + a.length = i + (a.length + 1) by omega]
theorem pickV_take (n : Int) (s : Bs) (l : List Vot) (k : Nat) (hk : k < l.length) : pickV n s 0 (l.take (k + 1)) = pickV n s 0 (l.take k) ++ (if saidEq l[k].n n l[k].s s = true then [((k : Int), l[k].t)] else []) := by
  rw [List.take_succ_eq_append_getElem hk, pickV_append]
  simp [pickV, Nat.min_eq_left (Nat.le_of_lt hk)]
theorem pickV_len (n : Int) (s : Bs) (l : List Vot) : ∀ i, (pickV n s i l).length ≤ l.length := by
  induction l with
  | nil => intro i; simp [pickV]
  | cons v l ih => intro i; have := ih (i + 1); simp only [pickV, List.length_append, List.length_cons]; split <;> simp <;> omega

structure VoteR where
  m : Mks
  ok : Bool
  e : Int
def voteS (m : Mks) (no n : Int) (s t : Bs) : VoteR :=
  if no < 0 ∨ (m.vs.length : Int) ≤ no then ⟨m, false, 1⟩
  else if ¬ (mrkT m.g n s).2 = 0 then ⟨m, false, (mrkT m.g n s).2⟩
  else if ¬ t.length = 16 then ⟨m, false, 4⟩
  else if n ≤ ofV m.vs no then ⟨m, false, 0⟩
  else if n ≤ m.n then ⟨{ m with vs := m.vs.set no.toNat ⟨n, s, t⟩ }, false, 0⟩
  else if ((pickV n s 0 (m.vs.set no.toNat ⟨n, s, t⟩)).length : Int) < 2 * m.f + 1 then ⟨{ m with vs := m.vs.set no.toNat ⟨n, s, t⟩ }, false, 0⟩
  else ⟨{ m with vs := m.vs.set no.toNat ⟨n, s, t⟩, n := n, s := s, c := ⟨(mrkT m.g n s).1, m.g, pickV n s 0 (m.vs.set no.toNat ⟨n, s, t⟩)⟩ }, true, 0⟩

set_option maxHeartbeats 4000000 in
set_option maxRecDepth 100000 in
theorem mvoteN_any (B V : Nat) (m : Mks) (no n : Int) (s t : Bs) (hs : s.length ≤ 1000000000000) (ht : t.length ≤ 1000000000000) (w : World) (hl : LayN w) (h : MkAt w B V m) :
    Calls Tryd.prog 11 #[.pointer (some ⟨B, 0, none⟩), .int .i64 no, .int .i64 n, .string ⟨s.toArray⟩, .string ⟨t.toArray⟩] w fun e w' =>
      e = .returned (.tuple #[.bool (voteS m no n s t).ok, .int .i64 (voteS m no n s t).e]) ∧ MkAt w' B V (voteS m no n s t).m ∧ Chg (fun k => k = B ∨ k = V) w w' := by
  obtain ⟨A, c, h1, h2⟩ := h.own
  have hlen : m.vs.length ≤ 10 := by have := h.ok.2.2.2.1; have := h.ok.2.2.2.2; omega
  have b2 := h1.cell 2
  by_cases hno : no < 0 ∨ (m.vs.length : Int) ≤ no
  · have ev : Hid (voteS m no n s t = ⟨m, false, 1⟩) := by unfold Hid voteS; rw [if_pos hno]
    rcases hno with h0 | h0
    · go_enter Tryd.func11, Tryd.ntmps11
      go_wp2
      go_ret2
      exact ⟨by rw [ev.out]; rfl, by rw [ev.out]; exact h, Chg.refl _ _⟩
    · have h00 : 0 ≤ no := by omega
      go_enter Tryd.func11, Tryd.ntmps11
      go_wp2
      go_ret2
      exact ⟨by rw [ev.out]; rfl, by rw [ev.out]; exact h, Chg.refl _ _⟩
  · obtain ⟨k, rfl⟩ : ∃ k : Nat, no = (k : Int) := ⟨no.toNat, by omega⟩
    have hk : k < m.vs.length := by omega
    have b0 := h1.cell 0
    go_enter Tryd.func11, Tryd.ntmps11
    go_wp2_with fail
    refine (mtextN_any m.g n s hs _ hl).mono ?_
    rintro e w1 ⟨rfl, hb1⟩
    have g1 := h1.below hb1 h1.lt
    have gv := h.vs.below hb1 h.vs.lt
    have gt := own_below h2 hb1
    have hM1 := h.below hb1
    clear b0 b2
    by_cases he : (mrkT m.g n s).2 = 0
    · by_cases ht16 : t.length = 16
      · have b2 := g1.cell 2
        obtain ⟨v0, v1, v2⟩ := votes_cell gv hk
        have hof := ofV_at m.vs k hk
        by_cases hle : n ≤ m.vs[k].n
        · have ev : Hid (voteS m k n s t = ⟨m, false, 0⟩) := by unfold Hid voteS; rw [if_neg hno, if_neg (by simpa using he), if_neg (by simpa using ht16), if_pos (by rw [hof]; exact hle)]
          clear hof
          go_wp2
          go_ret2
          exact ⟨by rw [ev.out]; rfl, by rw [ev.out]; exact hM1, Chg.of_below hb1⟩
        · have ev0 : Hid (voteS m k n s t = if n ≤ m.n then ⟨{ m with vs := m.vs.set k ⟨n, s, t⟩ }, false, 0⟩
              else if ((pickV n s 0 (m.vs.set k ⟨n, s, t⟩)).length : Int) < 2 * m.f + 1 then ⟨{ m with vs := m.vs.set k ⟨n, s, t⟩ }, false, 0⟩
              else ⟨{ m with vs := m.vs.set k ⟨n, s, t⟩, n := n, s := s, c := ⟨(mrkT m.g n s).1, m.g, pickV n s 0 (m.vs.set k ⟨n, s, t⟩)⟩ }, true, 0⟩) := by
            unfold Hid voteS; rw [if_neg hno, if_neg (by simpa using he), if_neg (by simpa using ht16), if_neg (by rw [hof]; exact hle)]; rfl
          have f0 := gv.frozen (k * 3)
          have f1 := gv.frozen (k * 3 + 1)
          have f2 := gv.frozen (k * 3 + 2)
          clear hof
          go_upto_region 13 with (fail)
          have sv := ((gv.set_ (k * 3) (.int .i64 n)).set_ (k * 3 + 1) (.string ⟨s.toArray⟩)).set_ (k * 3 + 2) (.string ⟨t.toArray⟩)
          rw [List.setIfInBounds_toArray, List.setIfInBounds_toArray, List.setIfInBounds_toArray, cellsV_set m.vs k ⟨n, s, t⟩ hk] at sv
          have hBV : B ≠ V := g1.ne_ gv (by decide)
          have sb := ((g1.far (p := ⟨V, k * 3, none⟩) hBV (.int .i64 n)).far (p := ⟨V, k * 3 + 1, none⟩) hBV (.string ⟨s.toArray⟩)).far (p := ⟨V, k * 3 + 2, none⟩) hBV (.string ⟨t.toArray⟩)
          have hc0 := (((Chg.refl (fun k => k = V) w1).setCell (p := ⟨V, k * 3, none⟩) (fun _ => rfl) (.int .i64 n)).setCell (p := ⟨V, k * 3 + 1, none⟩) (fun _ => rfl) (.string ⟨s.toArray⟩)).setCell (p := ⟨V, k * 3 + 2, none⟩) (fun _ => rfl) (.string ⟨t.toArray⟩)
          have st := hc0.owns gt (fun g hg e => own_blk_ne gt gv (by decide) (by rw [hg, e]))
          have hc1 := (Chg.of_below (F := fun k => k = B ∨ k = V) hb1).trans hc0 (fun i _ e => .inr e)
          have HM1 := Lib.hid hM1.ok
          clear hM1 gv g1 gt v0 v1 v2 b2 f0 f1 f2 hc0
          generalize ((w1.setCell ⟨V, k * 3, none⟩ (.int .i64 n)).setCell ⟨V, k * 3 + 1, none⟩ (.string ⟨s.toArray⟩)).setCell ⟨V, k * 3 + 2, none⟩ (.string ⟨t.toArray⟩) = w2 at *
          obtain ⟨vs', hvs⟩ : ∃ vs', vs' = m.vs.set k ⟨n, s, t⟩ := ⟨_, rfl⟩
          have hvl : vs'.length = m.vs.length := by rw [hvs]; simp
          have hvk : ∀ h, vs'[k]'h = ⟨n, s, t⟩ := by subst hvs; intro h; simp
          rw [← hvs] at sv ev0
          have HVK := Lib.hid hvk
          have HVL := Lib.hid hvl
          have HVS := Lib.hid hvs
          clear hvk hvl hvs
          have SB := Lib.hid sb
          have SV := Lib.hid sv
          have ST := Lib.hid st
          have HC := Lib.hid hc1
          have b3 : w2.cell? ⟨B, 3, none⟩ = some (.int .i64 m.n) := sb.cell 3
          clear sb sv st hc1
          by_cases hst : n ≤ m.n
          · go_wp2
            go_ret2
            refine ⟨by rw [ev0.out, if_pos hst]; rfl, ?_, HC.out⟩
            rw [ev0.out, if_pos hst]
            exact ⟨⟨A, c, by simp only [HVL.out]; exact SB.out, ST.out⟩, SV.out, by have := HM1.out; simp only [HVL.out]; exact this⟩
          · have b0 : w2.cell? ⟨B, 0, none⟩ = some (.int .i64 m.g) := SB.out.cell 0
            have b2 : ∀ o, (w2.alloc o).cell? ⟨B, 2, none⟩ = some (.slice (some ⟨V, 0, none⟩) m.vs.length m.vs.length) := fun o => (SB.out.alloc o).cell 2
            have b2V : ∀ W, Below w2.heap.size w2 W → ∀ o, (W.alloc o).cell? ⟨B, 2, none⟩ = some (.slice (some ⟨V, 0, none⟩) m.vs.length m.vs.length) := fun W hW o => ((SB.out.below hW SB.out.lt).alloc o).cell 2
            have H2V := Lib.hid b2V
            clear b2V
            go_wp2_with fail
            go_loopw [95] (fun i wr => ∃ (j : Nat) (p : List TagV) (A' : Option Addr) (c' : Nat), j ≤ m.vs.length ∧ i = .int .i64 j ∧ p.length ≤ j ∧ Hid (p = pickV n s 0 (vs'.take j)) ∧ Hid (Blk wr w2.heap.size 35 #[.string ⟨(mrkT m.g n s).1.toArray⟩, .int .i64 m.g, .slice A' p.length c']) ∧
              Hid (wr.ownsRow (w2.heap.size + 1) 83 2 (.slice A' p.length c') p.length (cellsT p)) ∧ Hid (Below w2.heap.size w2 wr)) (fun i _ => m.vs.length - (intOf i).toNat)
            case atStart => exact ⟨0, [], none, 0, Nat.zero_le _, rfl, Nat.le_refl _, rfl, Blk.new _ _ _, World.ownsRow_nil _ _ _ _, below_alloc1 _ _⟩
            case round =>
              obtain ⟨j, p, A', c', hj, rfl, hpl, HP, HX, HT, HBe⟩ := hrel
              by_cases hlt : j < m.vs.length
              · have hjv : j < vs'.length := by rw [HVL.out]; exact hlt
                have gv := SV.out.below HBe.out SV.out.lt
                obtain ⟨r0, r1, r2⟩ := votes_cell gv hjv
                have hkv : k < vs'.length := by rw [HVL.out]; exact hk
                have q2 := H2V.out wr HBe.out
                have q0 : ∀ o, (wr.alloc o).cell? ⟨V, k * 3, none⟩ = some (.int .i64 n) := fun o => by have := (votes_cell (gv.alloc o) hkv).1; rwa [HVK.out] at this
                have q1 : ∀ o, (wr.alloc o).cell? ⟨V, k * 3 + 1, none⟩ = some (.string ⟨s.toArray⟩) := fun o => by have := (votes_cell (gv.alloc o) hkv).2.1; rwa [HVK.out] at this
                have HPT := Lib.hid (pickV_take n s vs' j hjv)
                have hsz := HBe.out.size
                generalize vs'[j] = vj at *
                obtain ⟨vn, vss, vt⟩ := vj
                simp only at r0 r1 r2 HPT
                have hee := fun W => eql_said vn n vss s W
                clear gv
                cases hq : saidEq vn n vss s with
                | true =>
                  rw [hq] at hee
                  have HQ := Lib.hid hq
                  clear hq
                  go_upto_region 19 with (fail)
                  rename (∀ (a : Act) (w : World), Code.wp _ _ _ a w → _) => ha
                  go_quiet (fail)
                  refine ha _ _ ?_
                  have gX := (HX.out.alloc (.cells #[.int .i64 vn, .string ⟨vss.toArray⟩, .string ⟨vt.toArray⟩] 81)).drewN nq
                  have gT : World.ownsRow ((wr.alloc (.cells #[.int .i64 vn, .string ⟨vss.toArray⟩, .string ⟨vt.toArray⟩] 81)).drewN nq) _ _ _ _ _ _ := HT.out.alloc (.cells #[.int .i64 vn, .string ⟨vss.toArray⟩, .string ⟨vt.toArray⟩] 81)
                  have gY := (Blk.new wr 81 #[.int .i64 vn, .string ⟨vss.toArray⟩, .string ⟨vt.toArray⟩]).drewN nq
                  have gB := below_drewN (HBe.out.alloc hsz (.cells #[.int .i64 vn, .string ⟨vss.toArray⟩, .string ⟨vt.toArray⟩] 81)) nq
                  have gS : wr.heap.size < ((wr.alloc (.cells #[.int .i64 vn, .string ⟨vss.toArray⟩, .string ⟨vt.toArray⟩] 81)).drewN nq).heap.size := by simp
                  clear q0 q1 q2 r0 r1 r2 hee ha b0 b2 b3
                  generalize (wr.alloc (.cells #[.int .i64 vn, .string ⟨vss.toArray⟩, .string ⟨vt.toArray⟩] 81)).drewN nq = w5 at *
                  have x2 : w5.cell? ⟨w2.heap.size, 2, none⟩ = some (.slice A' p.length c') := gX.cell 2
                  have y2 : w5.cell? ⟨wr.heap.size, 2, none⟩ = some (.string ⟨vt.toArray⟩) := gY.cell 2
                  have hxl := gX.lt
                  obtain ⟨i0, hi0, hz0, hz1, hz2⟩ := info_parts tag_info
                  go_wp2_with (at_builtin; refine wpList_append_own _ rfl _ _ 33 rfl (w2.heap.size + 1) 83 i0 _ 2 24 Tryd.underlying33 hi0 hz0 hz1 hz2 rfl (by omega) _ _ _ rfl (gT.alloc _) ⟨w5.heap.size, 0, none⟩ 1 1 (cellsT [((j : Int), vt)]) rfl rfl (news_box rfl) (cellsT_one _) (by show _ ≤ 9223372036854775807; omega) (by omega) (by simp; omega) ?_; intro v' w6 hown' hgrow _; obtain ⟨g', cap', rfl⟩ := ownsRow_succ hown'; have gX6 := (gX.alloc (.cells #[.int .i64 j, .string ⟨vt.toArray⟩] 83)).grown hgrow (fun e => by have := (gT.lt _ e.symm).1; omega); have x6 : w6.cell? ⟨w2.heap.size, 2, none⟩ = some (.slice A' p.length c') := gX6.cell 2; have f6 := gX6.frozen 2)
                  refine ⟨⟨j + 1, p ++ [((j : Int), vt)], some ⟨g', 0, none⟩, cap', by omega, by simp, by simp; omega, ?_, ?_, ?_, ?_⟩, by simp [intOf]; omega⟩
                  · unfold Hid
                    rw [HPT.out, HQ.out, HP.out]
                    simp
                  · have := gX6.set_ 2 (.slice (some ⟨g', 0, none⟩) (p.length + 1) cap')
                    unfold Hid
                    simpa using this
                  · have := ((Chg.refl (fun k => k = w2.heap.size) w6).setCell (p := ⟨w2.heap.size, 2, none⟩) (fun _ => rfl) (.slice (some ⟨g', 0, none⟩) (p.length + 1) cap')).owns hown' (fun g h e => by have := (hown'.lt g h).1; omega)
                    unfold Hid
                    rw [cellsT_append, List.length_append]
                    exact this
                  · have hg5 := ((Below.refl w2.heap.size w5).alloc (Nat.le_of_lt hxl) (.cells #[.int .i64 j, .string ⟨vt.toArray⟩] 83)).grown hgrow (by simp; omega) (fun g e => by have := (gT.lt g e).1; omega)
                    exact (gB.trans hg5).setCell (p := ⟨w2.heap.size, 2, none⟩) (Nat.le_refl _) _
                | false =>
                  rw [hq] at hee
                  have HQ := Lib.hid hq
                  clear hq
                  go_upto_region 19 with (fail)
                  rename (∀ (a : Act) (w : World), Code.wp _ _ _ a w → _) => ha
                  go_quiet (fail)
                  refine ha _ _ ?_
                  have gX := (HX.out.alloc (.cells #[.int .i64 vn, .string ⟨vss.toArray⟩, .string ⟨vt.toArray⟩] 81)).drewN nq
                  have gT : World.ownsRow ((wr.alloc (.cells #[.int .i64 vn, .string ⟨vss.toArray⟩, .string ⟨vt.toArray⟩] 81)).drewN nq) _ _ _ _ _ _ := HT.out.alloc (.cells #[.int .i64 vn, .string ⟨vss.toArray⟩, .string ⟨vt.toArray⟩] 81)
                  have gB := below_drewN (HBe.out.alloc hsz (.cells #[.int .i64 vn, .string ⟨vss.toArray⟩, .string ⟨vt.toArray⟩] 81)) nq
                  clear q0 q1 q2 r0 r1 r2 hee ha b0 b2 b3
                  generalize (wr.alloc (.cells #[.int .i64 vn, .string ⟨vss.toArray⟩, .string ⟨vt.toArray⟩] 81)).drewN nq = w5 at *
                  go_wp2
                  refine ⟨⟨j + 1, p, A', c', by omega, by simp, by omega, ?_, gX, gT, gB⟩, by simp [intOf]; omega⟩
                  unfold Hid
                  rw [HPT.out, HQ.out, HP.out]
                  simp
              · obtain rfl : j = m.vs.length := by omega
                have hPP : Hid (p = pickV n s 0 vs') := by
                  unfold Hid
                  rw [HP.out, List.take_of_length_le (by rw [HVL.out]; exact Nat.le_refl _)]
                have sb := SB.out.below HBe.out SB.out.lt
                have x2 : wr.cell? ⟨w2.heap.size, 2, none⟩ = some (.slice A' p.length c') := HX.out.cell 2
                have y1 : wr.cell? ⟨B, 1, none⟩ = some (.int .i64 m.f) := sb.cell 1
                have hf0 := HM1.out.2.2.1
                have hf3 := HM1.out.2.2.2.1
                have hw1 : IntKind.i64.wrap (2 * m.f) = 2 * m.f := by rw [IntKind.wrap_i64]; omega
                have hw2 : IntKind.i64.wrap (2 * m.f + 1) = 2 * m.f + 1 := by rw [IntKind.wrap_i64]; omega
                have HW1 := Lib.hid hw1
                have hcF : Chg (fun k => k = B ∨ k = V) w wr := HC.out.below HBe.out
                have HCF := Lib.hid hcF
                have HSV := Lib.hid (SV.out.below HBe.out SV.out.lt)
                have HST := Lib.hid (own_below ST.out HBe.out)
                have HSB := Lib.hid sb
                clear b0 b2 b3 sb hcF
                go_upto_region 22 with (fail)
                by_cases hfew : (p.length : Int) < 2 * m.f + 1
                · rename (∀ (a : Act) (w : World), Code.wp _ _ _ a w → _) => ha
                  go_quiet (fail)
                  refine ha _ _ ?_
                  go_wp2
                  go_ret2
                  have ev1 : Hid (voteS m k n s t = ⟨{ m with vs := vs' }, false, 0⟩) := by unfold Hid; rw [ev0.out, if_neg (by omega), if_pos (by rw [← hPP.out]; exact hfew)]
                  refine ⟨by rw [ev1.out]; rfl, ?_, HCF.out.drewN _⟩
                  rw [ev1.out]
                  exact ⟨⟨A, c, by simp only [HVL.out]; exact HSB.out, HST.out⟩, HSV.out, by have := HM1.out; simp only [HVL.out]; exact this⟩
                · rename (∀ (a : Act) (w : World), Code.wp _ _ _ a w → _) => ha
                  go_quiet (fail)
                  refine ha _ _ ?_
                  have ev1 : Hid (voteS m k n s t = ⟨{ m with vs := vs', n := n, s := s, c := ⟨(mrkT m.g n s).1, m.g, p⟩ }, true, 0⟩) := by unfold Hid; rw [ev0.out, if_neg (by omega), if_neg (by rw [← hPP.out]; exact hfew), ← hPP.out]
                  go_upto_region 24 with (fail)
                  have gX := HX.out.drewN nq
                  have gB := HSB.out.drewN nq
                  have GV := Lib.hid (HSV.out.drewN nq)
                  have GT : Hid (World.ownsRow (wr.drewN nq) _ _ _ _ _ _) := HT.out
                  have GC := Lib.hid (HCF.out.drewN nq)
                  clear HSB HSV HST HT HX HCF HBe ha x2 y1 H2V
                  generalize wr.drewN nq = w5 at *
                  have x0 : w5.cell? ⟨w2.heap.size, 0, none⟩ = some (.string ⟨(mrkT m.g n s).1.toArray⟩) := gX.cell 0
                  have x1 : w5.cell? ⟨w2.heap.size, 1, none⟩ = some (.int .i64 m.g) := gX.cell 1
                  have x2 : w5.cell? ⟨w2.heap.size, 2, none⟩ = some (.slice A' p.length c') := gX.cell 2
                  have z3 : w5.cell? ⟨B, 3, none⟩ = some _ := gB.cell 3
                  have z4 : w5.cell? ⟨B, 4, none⟩ = some _ := gB.cell 4
                  have z5 : w5.cell? ⟨B, 5, none⟩ = some _ := gB.cell 5
                  have z6 : w5.cell? ⟨B, 6, none⟩ = some _ := gB.cell 6
                  have z7 : w5.cell? ⟨B, 7, none⟩ = some _ := gB.cell 7
                  have f3 := gB.frozen 3
                  have f4 := gB.frozen 4
                  have f5 := gB.frozen 5
                  have f6 := gB.frozen 6
                  have f7 := gB.frozen 7
                  have hXB : w2.heap.size ≠ B := by have := SB.out.lt; omega
                  have GX := Lib.hid gX
                  have GB := Lib.hid gB
                  clear gX gB
                  go_big_region
                  all_goals
                    go_wp2
                    go_ret2
                  have cc := fun (F : Nat → Prop) (hF : F B) => ((((((Chg.refl F w5).setCell (p := ⟨B, 3, none⟩) (fun _ => hF) (.int .i64 n)).setCell (p := ⟨B, 4, none⟩) (fun _ => hF) (.string ⟨s.toArray⟩)).setCell (p := ⟨B, 5, none⟩) (fun _ => hF) (.string ⟨(mrkT m.g n s).1.toArray⟩)).setCell (p := ⟨B, 6, none⟩) (fun _ => hF) (.int .i64 m.g)).setCell (p := ⟨B, 7, none⟩) (fun _ => hF) (.slice A' p.length c')).drew
                  refine ⟨by rw [ev1.out]; rfl, ?_, GC.out.trans (cc (fun k => k = B) rfl) (fun i _ e => .inl e)⟩
                  rw [ev1.out]
                  have hgb := ((((GB.out.set_ 3 (.int .i64 n)).set_ 4 (.string ⟨s.toArray⟩)).set_ 5 (.string ⟨(mrkT m.g n s).1.toArray⟩)).set_ 6 (.int .i64 m.g)).set_ 7 (.slice A' p.length c')
                  refine ⟨⟨A', c', ?_, ?_⟩, ?_, by have := HM1.out; simp only [HVL.out]; exact this⟩
                  · simp only [HVL.out]
                    exact hgb
                  · exact own_weaken ((cc (fun k => k = B) rfl).owns GT.out (fun g hg e => by have := (GT.out.lt g hg).1; have := SB.out.lt; omega)) (Nat.zero_le _)
                  · exact Blk.chg GV.out (cc (fun k => k = B) rfl) (Ne.symm hBV)
      · have ev : Hid (voteS m k n s t = ⟨m, false, 4⟩) := by unfold Hid voteS; rw [if_neg hno, if_neg (by simpa using he), if_pos ht16]
        have ht17 : ¬ (t.length : Int) = 16 := by omega
        go_wp2
        go_ret2
        exact ⟨by rw [ev.out]; rfl, by rw [ev.out]; exact hM1, Chg.of_below hb1⟩
    · have ev : Hid (voteS m k n s t = ⟨m, false, (mrkT m.g n s).2⟩) := by unfold Hid voteS; rw [if_neg hno, if_pos he]
      go_wp2
      go_ret2
      exact ⟨by rw [ev.out]; rfl, by rw [ev.out]; exact hM1, Chg.of_below hb1⟩

theorem mvote_any (B V : Nat) (m : Mks) (no n : Int) (s t : Bs) (hs : s.length ≤ 1000000000000) (ht : t.length ≤ 1000000000000) (w : World) (hl : Lay w) (h : MkAt w B V m) :
    Calls Tryd.prog 11 #[.pointer (some ⟨B, 0, none⟩), .int .i64 no, .int .i64 n, .string ⟨s.toArray⟩, .string ⟨t.toArray⟩] w fun e w' =>
      e = .returned (.tuple #[.bool (voteS m no n s t).ok, .int .i64 (voteS m no n s t).e]) ∧ MkAt w' B V (voteS m no n s t).m ∧ Chg (fun k => k = B ∨ k = V) w w' := mvoteN_any B V m no n s t hs ht w hl.n h


end Go.Proofs.YtogpbldipmcbdaaDoor
