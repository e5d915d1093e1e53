/- NestJoins: the law's walk; append of whatever slice onto an own row. -/
import Derived.Test.YtcmjalcmldgnkaaDoorNn
import Derived.Maps.AppendAt
set_option linter.unusedVariables false
set_option linter.unusedSimpArgs false
set_option linter.unnecessarySimpa false
namespace Go.Proofs.YtcmjalcmldgnkaaDoor
open Go.RowKit Go.Shelf

section
variable {P : Program} (w : World)
theorem run_append_of_nil (base : Nat) (t ty e : TypeId) (i : TypeInfo) (size : Nat) (ht : P.underlying t = some (.slice e)) (hi : P.info? e = some i)
    (v : Value) (n : Nat) (xs : List Value) (hown : w.ownsRow base e size v n xs) (c : Nat) : (Builtin.append_ #[t, t] ty #[v, .slice none 0 c]).run P w = .ok v w := by
  rcases hown.2 with ⟨rfl, rfl⟩ | ⟨g, cap, cur, rfl, _, _, hnc, _⟩
  · simp [Builtin.append_, run_underlying ht, sizeOf, typeInfo, hi, Builtin.lenOf, Builtin.firstCells]
  · simp [Builtin.append_, run_underlying ht, sizeOf, typeInfo, hi, Builtin.lenOf, Builtin.firstCells, hnc, storeCells]
/-- append of whatever slice reads as these cells. -/
theorem run_append_rd (base : Nat) (t ty e : TypeId) (i : TypeInfo) (z : Value) (size bytes : Nat) (ht : P.underlying t = some (.slice e)) (hi : P.info? e = some i) (hz : i.zero = some z)
    (hsize : i.size = size) (hby : i.bytes = bytes) (hzs : z.cells.size = size) (hsz : 0 < size)
    (v : Value) (n : Nat) (xs : List Value) (hown : w.ownsRow base e size v n xs)
    (B : Nat) (u : Value) (m : Nat) (news : List Value) (hr : Rd w B size u m news) (h1 : ∀ u ∈ news, u.oneCell' = true)
    (h63 : n + m ≤ maxLen) (hbytes : (n + m) * bytes ≤ 140737488355328) (hbase : base ≤ w.heap.size) :
    ∃ v' w', (Builtin.append_ #[t, t] ty #[v, u]).run P w = .ok v' w' ∧ w'.ownsRow base e size v' (n + m) (xs ++ news) ∧ w.grownBy w' v.ownBlock ∧
      (v'.ownBlock = v.ownBlock ∨ v'.ownBlock = some w.heap.size) := by
  obtain ⟨hl, A, c, rfl, hc, h0⟩ := hr
  rcases A with _ | ad
  · have hm : m = 0 := by
      rcases h0 with h0 | ⟨g, off, h, _⟩
      · exact h0
      · cases h
    subst hm
    have hn : news = [] := List.eq_nil_of_length_eq_zero (by simpa using hl)
    subst hn
    exact ⟨v, w, run_append_of_nil w base t ty e i size ht hi v n xs hown c, by simpa using hown, World.grownBy.refl w _, .inl rfl⟩
  · have hcells : ∀ j u, news[j]? = some u → w.cell? (ad.add j) = some u := by
      intro j u hu
      rcases h0 with h0 | ⟨g, off, h, _, hcell⟩
      · subst h0
        have hn : news = [] := List.eq_nil_of_length_eq_zero (by simpa using hl)
        subst hn
        simp at hu
      · injection h with h
        subst h
        rw [Addr.add_lit]
        exact hcell j u hu
    obtain ⟨v', w', hrun, h2, h3, _, h5⟩ := run_append_own_at (P := P) w base t ty e i z size bytes ht hi hz hsize hby hzs hsz v n xs hown ad m c news hl hcells h1 h63 hbytes hbase
    exact ⟨v', w', hrun, h2, h3, h5⟩
theorem wp_append_rd {o : Oper} {a : Act} {K : Act → World → Prop} {Q : Exit → Act → World → Prop} (s x : Operand) (t : TypeId)
    (ho : o.op = .call { callee := .builtin .append, args := #[s, x], argTypes := #[t, t] })
    (base : Nat) (e : TypeId) (i : TypeInfo) (z : Value) (size bytes : Nat) (ht : P.underlying t = some (.slice e)) (hi : P.info? e = some i) (hz : i.zero = some z)
    (hsize : i.size = size) (hby : i.bytes = bytes) (hzs : z.cells.size = size) (hsz : 0 < size)
    (v : Value) (n : Nat) (xs : List Value) (hs : a.eval s = v) (hown : w.ownsRow base e size v n xs)
    (B : Nat) (u : Value) (m : Nat) (news : List Value) (hx : a.eval x = u) (hr : Rd w B size u m news) (h1 : ∀ u ∈ news, u.oneCell' = true)
    (h63 : n + m ≤ maxLen) (hbytes : (n + m) * bytes ≤ 140737488355328) (hbase : base ≤ w.heap.size)
    (h : ∀ v' w', w'.ownsRow base e size v' (n + m) (xs ++ news) → w.grownBy w' v.ownBlock → (v'.ownBlock = v.ownBlock ∨ v'.ownBlock = some w.heap.size) → K (a.put o.dst v') w') : o.wp P a w K Q := by
  obtain ⟨v', w', hrun, h2, h3, h4⟩ := run_append_rd (P := P) w base t o.type e i z size bytes ht hi hz hsize hby hzs hsz v n xs hown B u m news hr h1 h63 hbytes hbase
  unfold Oper.wp execOp
  simp only [ho, resolve, invoke, builtin, Sem.run_bind, Sem.run_pure, Result.andThen_ok, List.map_toArray, List.map_cons, List.map_nil, hs, hx, hrun]
  exact h v' w' h2 h3 h4
theorem wpList_append_rd {ops : Array Oper} {rest : List Oper} {o : Oper} {a : Act} {Q : Exit → Act → World → Prop} (hgd : o.guard = none) (s x : Operand) (t : TypeId)
    (ho : o.op = .call { callee := .builtin .append, args := #[s, x], argTypes := #[t, t] })
    (base : Nat) (e : TypeId) (i : TypeInfo) (z : Value) (size bytes : Nat) (ht : P.underlying t = some (.slice e)) (hi : P.info? e = some i) (hz : i.zero = some z)
    (hsize : i.size = size) (hby : i.bytes = bytes) (hzs : z.cells.size = size) (hsz : 0 < size)
    (v : Value) (n : Nat) (xs : List Value) (hs : a.eval s = v) (hown : w.ownsRow base e size v n xs)
    (B : Nat) (u : Value) (m : Nat) (news : List Value) (hx : a.eval x = u) (hr : Rd w B size u m news) (h1 : ∀ u ∈ news, u.oneCell' = true)
    (h63 : n + m ≤ maxLen) (hbytes : (n + m) * bytes ≤ 140737488355328) (hbase : base ≤ w.heap.size)
    (h : ∀ v' w', w'.ownsRow base e size v' (n + m) (xs ++ news) → w.grownBy w' v.ownBlock → (v'.ownBlock = v.ownBlock ∨ v'.ownBlock = some w.heap.size) → wpList P ops Q rest (a.put o.dst v') w') : wpList P ops Q (o :: rest) a w :=
  wpList_plain hgd fun _ hK => wp_append_rd w s x t ho base e i z size bytes ht hi hz hsize hby hzs hsz v n xs hs hown B u m news hx hr h1 h63 hbytes hbase fun v' w' h2 h3 h4 => hK _ _ (h v' w' h2 h3 h4)
end
theorem strs_append (a b : List Bs) : strs (a ++ b) = strs a ++ strs b := by simp [strs]
theorem strs_one (l : List Bs) : ∀ u ∈ strs l, u.oneCell' = true := by intro u hu; simp [strs] at hu; obtain ⟨x, _, rfl⟩ := hu; rfl
theorem grown_below {w w' : World} {v : Value} {B : Nat} (h : w.grownBy w' v.ownBlock) (hv : ∀ g, v.ownBlock = some g → B ≤ g) (hB : B ≤ w.heap.size) : Below B w w' :=
  (Below.refl B w).grown h hB hv

theorem rd_one (w : World) (a : Bs) : Rd (w.alloc (.cells #[.string ⟨a.toArray⟩] 9)) (w.heap.size + 1) 1 (.slice (some ⟨w.heap.size, 0, none⟩) 1 1) 1 (strs [a]) := by
  refine ⟨rfl, _, 1, rfl, Nat.le_refl _, .inr ⟨w.heap.size, 0, rfl, by omega, fun j u hu => ?_⟩⟩
  rw [(Blk.new w 9 #[.string ⟨a.toArray⟩]).cell (0 + j)]
  match j, hu with
  | 0, hu => exact hu
  | j + 1, hu => simp [strs] at hu

set_option maxHeartbeats 4000000 in
set_option maxRecDepth 100000 in
theorem joins_law (va vb : Value) (la lb : List Bs) (w : World) (hl : Lay w) (hra : Rd w w.heap.size 1 va la.length (strs la)) (hma : la.length ≤ 1048576) (hsa : ∀ s ∈ la, s.length ≤ 1048576)
    (hrb : Rd w w.heap.size 1 vb lb.length (strs lb)) (hmb : lb.length ≤ 1048576) (hsb : ∀ s ∈ lb, s.length ≤ 1048576) :
    Calls Tryd.prog 9 #[va, vb] w fun e w' => e = .returned (.bool true) ∧ Below w.heap.size w w' := by
  have HRA : Hid (Rd w w.heap.size 1 va la.length (strs la)) := hra
  have HRB : Hid (Rd w w.heap.size 1 vb lb.length (strs lb)) := hrb
  obtain ⟨_, A, c, rfl, _, _⟩ := hra
  obtain ⟨_, A', c', rfl, _, _⟩ := hrb
  have hlena := packB_len la hsa
  have hlenb := packB_len lb hsb
  obtain ⟨i0, hi, hz0, hz1, hz2⟩ := info_parts infoS
  go_enter Tryd.func9, Tryd.ntmps9
  go_wp2_with fail
  refine (large_any _ la w.heap.size _ (Nat.le_refl _) HRA.out (by omega) (fun s hm => by have := hsa s hm; omega)).mono ?_
  rintro e w1 ⟨rfl | ⟨rfl, hsm, hln⟩, hb1⟩
  · go_wp2_with fail
    refine (two_any _ (hl.later hb1)).mono ?_
    rintro e w2 ⟨rfl, hb2⟩
    go_wp2
    go_ret
    exact ⟨rfl, hb1.trans (hb2.mono hb1.size)⟩
  · go_wp2_with fail
    refine (large_any _ lb w.heap.size _ hb1.size (HRB.out.below hb1) (by omega) (fun s hm => by have := hsb s hm; omega)).mono ?_
    rintro e w2 ⟨rfl | ⟨rfl, hsm2, hln2⟩, hb2'⟩
    · have hb2 := hb1.trans (hb2'.mono hb1.size)
      go_wp2_with fail
      refine (two_any _ (hl.later hb2)).mono ?_
      rintro e w3 ⟨rfl, hb3⟩
      go_wp2
      go_ret
      exact ⟨rfl, hb2.trans (hb3.mono hb2.size)⟩
    · have hb2 := hb1.trans (hb2'.mono hb1.size)
      have hs2 := hb2.size
      go_wp2_with (first
        | (at_builtin; refine wpList_append_rd _ rfl _ _ 22 rfl w2.heap.size 9 i0 (.string ⟨#[]⟩) 1 16 Tryd.underlying22 hi hz0 hz1 hz2 rfl (by decide) (.slice none 0 0) 0 [] rfl (World.ownsRow_nil _ _ _ _) w.heap.size (.slice A la.length c) la.length (strs la) rfl (HRA.out.below hb2) (strs_one la) (by show _ ≤ 9223372036854775807; omega) (by omega) (Nat.le_refl _) ?_; intro v1 w3 hown1 hg1 hat1; have hb23 := grown_below (B := w.heap.size) hg1 (fun g e => by cases e) hs2; have hb3 := hb2.trans hb23; have hs3 := hb3.size; have hz3 := hg1.size; rw [Nat.zero_add, List.nil_append] at hown1; obtain ⟨A1, c1, rfl⟩ := own_shape hown1; have HO1 := Lib.hid hown1; clear hown1 hg1 hat1)
        | (at_builtin; refine wpList_append_rd _ rfl _ _ 22 rfl w2.heap.size 9 i0 (.string ⟨#[]⟩) 1 16 Tryd.underlying22 hi hz0 hz1 hz2 rfl (by decide) (.slice A1 la.length c1) la.length (strs la) rfl HO1.out w.heap.size (.slice A' lb.length c') lb.length (strs lb) rfl (HRB.out.below hb3) (strs_one lb) (by show _ ≤ 9223372036854775807; omega) (by omega) hz3 ?_; intro v2 w4 hown2 hg2 hat2; have hb34 := grown_below (B := w.heap.size) hg2 (fun g e => Nat.le_trans hs2 (HO1.out.lt g e).1) hs3; have hb4 := hb3.trans hb34; have hs4 := hb4.size; have hz4 := hg2.size; obtain ⟨A2, c2, rfl⟩ := own_shape hown2; have HO2 : Hid (w4.ownsRow w2.heap.size 9 1 (.slice A2 (la.length + lb.length) c2) (la ++ lb).length (strs (la ++ lb))) := (by rw [strs_append, List.length_append]; exact hown2); clear hown2 hg2 hat2))
      refine (pack_any _ la w.heap.size _ (hl.later hb4) hs4 (HRA.out.below hb4) (by omega) (by omega)).mono ?_
      rintro e w5 ⟨rfl, hb5⟩
      have hb45 := hb4.trans (hb5.mono hs4)
      go_wp2_with fail
      refine (pack_any _ lb w.heap.size _ (hl.later hb45) hb45.size (HRB.out.below hb45) (by omega) (by omega)).mono ?_
      rintro e w6 ⟨rfl, hb6⟩
      have hb46 := hb45.trans (hb6.mono hb45.size)
      have hU := unpack_any (packB la ++ packB lb) (by simp only [List.length_append]; omega) w6 (hl.later hb46)
      have hub : unpackB (packB la ++ packB lb) = (la ++ lb, 0) := by
        unfold unpackB
        rw [← packB_append, unpack_pack]
        intro s hs
        rcases List.mem_append.1 hs with h | h
        · have := hsa s h; omega
        · have := hsb s h; omega
      rw [hub] at hU
      have hb47 := hb46
      go_wp2_with fail
      rw [ba_append]
      refine hU.mono ?_
      rintro e w7 ⟨v7, rfl, hv7, hb7⟩
      obtain ⟨A7, c7, rfl⟩ := own_shape hv7
      have hb17 := hb46.trans (hb7.mono hb46.size)
      have hb67 : Below w4.heap.size w4 w7 := hb5.trans ((hb6.mono hb5.size).trans (hb7.mono (Nat.le_trans hb5.size hb6.size)))
      have hHO2 := HO2.out
      rw [show la.length + lb.length = (la ++ lb).length from (List.length_append).symm] at hHO2
      have HRO := Lib.hid (Rd.of_own (own_below hHO2 hb67))
      clear HO2 HO1 hHO2 hU
      have hll : (la ++ lb).length ≤ 4000 := by rw [List.length_append]; omega
      go_wp2_with fail
      rw [show la.length + lb.length = (la ++ lb).length from (List.length_append).symm]
      refine (same_any _ _ (la ++ lb) (la ++ lb) w7.heap.size _ (Nat.le_refl _) (Rd.of_own hv7) HRO.out (by omega) (by omega)).mono ?_
      rintro e w8 ⟨rfl, hb8⟩
      rw [decide_eq_true rfl]
      have hb18 := hb17.trans (hb8.mono hb17.size)
      have hl8 := hl.later hb18
      by_cases hbig : 1000 < (packB la).length
      · go_wp2_with fail
        refine (two_any _ hl8).mono ?_
        rintro e w9 ⟨rfl, hb9⟩
        go_wp2
        go_ret
        exact ⟨rfl, hb18.trans (hb9.mono hb18.size)⟩
      · go_wp2_with fail
        have hb8a : Below w8.heap.size w8 (w8.alloc (.cells #[.string ⟨(packB la).toArray⟩] 9)) := (Below.refl _ w8).alloc (Nat.le_refl _) _
        have hpl := packB_len [packB la] (by simp; omega)
        have hpl2 : (packB [packB la]).length ≤ 1100 := by simp [sumB] at hpl; omega
        refine (pack_any _ [packB la] (w8.heap.size + 1) _ (hl8.later hb8a) (by simp) (rd_one w8 (packB la)) (by simp) (by omega)).mono ?_
        rintro e w9 ⟨rfl, hb9⟩
        have hb89 := hb8a.trans (hb9.mono hb8a.size)
        have hl9 := hl8.later hb89
        go_wp2_with fail
        refine (deep_any _ (packB [packB la]) (Nat.le_refl _) (by omega) _ hl9).mono ?_
        rintro e w10 ⟨rfl, hb10⟩
        have hb810 := hb89.trans (hb10.mono hb89.size)
        rw [deep_in _ (by omega)]
        go_wp2_with fail
        refine (deep_any _ (packB la) (Nat.le_refl _) (by omega) _ (hl8.later hb810)).mono ?_
        rintro e w11 ⟨rfl, hb11⟩
        have hb811 := hb810.trans (hb11.mono hb810.size)
        have hd0 := deep_nonneg (packB la)
        have hd1 := deep_bound _ (packB la) (Nat.le_refl _)
        go_wp2_with fail
        refine (two_any _ (hl8.later hb811)).mono ?_
        rintro e w12 ⟨rfl, hb12⟩
        go_wp2
        go_ret
        exact ⟨rfl, hb18.trans ((hb811.trans (hb12.mono hb811.size)).mono hb18.size)⟩

end Go.Proofs.YtcmjalcmldgnkaaDoor
