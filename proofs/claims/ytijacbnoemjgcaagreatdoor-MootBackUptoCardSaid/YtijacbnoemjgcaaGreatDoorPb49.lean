/- A moot is loaded: the program's. -/
import Derived.Test.YtijacbnoemjgcaaGreatDoorPb48
set_option linter.unusedVariables false
set_option linter.unusedSimpArgs false
set_option linter.unnecessarySimpa false
namespace Go.Proofs.YtijacbnoemjgcaaGreatDoor
open Go.RowKit Go.Shelf

theorem cellsI_length (l : List Tri) : (cellsI l).length = l.length * 3 := by
  induction l with
  | nil => rfl
  | cons p l ih => rw [cellsI, List.flatMap_cons, List.length_append]; unfold cellsI at ih; rw [ih]; simp [triC]; omega
theorem cellsI_get (l : List Tri) (k : Nat) (hk : k < l.length) : (cellsI l)[k * 3]? = some (.int .i64 l[k].1) ∧ (cellsI l)[k * 3 + 1]? = some (.int .i64 l[k].2.1) ∧ (cellsI l)[k * 3 + 2]? = some (.int .i64 l[k].2.2) := by
  induction l generalizing k with
  | nil => simp at hk
  | cons x l ih =>
    cases k with
    | zero => exact ⟨rfl, rfl, rfl⟩
    | succ k =>
      have := ih k (by simpa using hk)
      have e : ∀ i, (cellsI (x :: l))[(k + 1) * 3 + i]? = (cellsI l)[k * 3 + i]? := by
        intro i
        rw [cellsI, List.flatMap_cons, List.getElem?_append_right (by simp [triC]; omega)]
        rw [show (k + 1) * 3 + i - (triC x).length = k * 3 + i by simp [triC]; omega]
        rfl
      have e0 := e 0
      simp only [Nat.add_zero] at e0
      rw [e0, e 1, e 2]
      simpa using this
theorem rd_tri {w : World} {B : Nat} {v : Value} {l : List Tri} (h : Rd w B 3 v l.length (cellsI l)) {k : Nat} (hk : k < l.length) :
    ∃ g off c, v = .slice (some ⟨g, off, none⟩) l.length c ∧ g < B ∧ w.cell? ⟨g, off + k * 3, none⟩ = some (.int .i64 l[k].1) ∧ w.cell? ⟨g, off + k * 3 + 1, none⟩ = some (.int .i64 l[k].2.1) ∧ w.cell? ⟨g, off + k * 3 + 2, none⟩ = some (.int .i64 l[k].2.2) := by
  obtain ⟨_, A, c, rfl, hnc, h0⟩ := h
  rcases h0 with h0 | ⟨g, off, rfl, hg, hc⟩
  · omega
  · obtain ⟨h1, h2, h3⟩ := cellsI_get l k hk
    exact ⟨g, off, c, rfl, hg, hc _ _ h1, hc _ _ h2, hc _ _ h3⟩
theorem takeAll_append (a b : List Tri) : ∀ (cs : List Cfg) (tk : List Cmd), takeAll (a ++ b) cs tk = match takeAll a cs tk with
    | some p => takeAll b p.1 p.2
    | none => none := by
  induction a with
  | nil => intro cs tk; rfl
  | cons y l ih =>
    intro cs tk
    rw [List.cons_append, takeAll]
    conv => rhs; rw [takeAll]
    split
    · exact ih _ _
    · rfl
theorem take_step {L : List Tri} {k : Nat} (hk : k < L.length) {cs0 cs : List Cfg} {tk0 tk : List Cmd} (h : takeAll (L.take k) cs0 tk0 = some (cs, tk)) :
    takeAll (L.take (k + 1)) cs0 tk0 = if (doS cs ⟨L[k].1, L[k].2.1, L[k].2.2⟩).2 = 0 then some ((doS cs ⟨L[k].1, L[k].2.1, L[k].2.2⟩).1, tk ++ [⟨L[k].1, L[k].2.1, L[k].2.2⟩]) else none := by
  rw [List.take_succ_eq_append_getElem hk, takeAll_append, h]
  rfl
theorem take_stop {L : List Tri} {k : Nat} (hk : k < L.length) {cs0 cs : List Cfg} {tk0 tk : List Cmd} (h : takeAll (L.take k) cs0 tk0 = some (cs, tk)) (hb : ¬ (doS cs ⟨L[k].1, L[k].2.1, L[k].2.2⟩).2 = 0) : takeAll L cs0 tk0 = none := by
  have h1 := take_step hk h
  rw [if_neg hb] at h1
  rw [← List.take_append_drop (k + 1) L, takeAll_append, h1]
theorem take_lens {L : List Tri} {k : Nat} (hk : k ≤ L.length) {cs : List Cfg} {tk : List Cmd} (h : takeAll (L.take k) [cfg0] [] = some (cs, tk)) : cs.length ≤ 41 ∧ tk.length = k ∧ cs.length = k + 1 := by
  obtain ⟨h1, h2, h3, _⟩ := take_all h
  have := congrArg List.length h1
  simp at this
  rw [List.length_take] at h3
  simp at h3
  refine ⟨h2 (by simp), ?_, ?_⟩ <;> omega
theorem cli_drop (l : List Tri) (k : Nat) (hk : k < l.length) (b : Int) (cl : Cls) : cliAll (l.drop k) b cl = if badT b l[k] = true then none else cliAll (l.drop (k + 1)) l[k].1 (upd cl l[k].1.toNat (l[k].2.1, l[k].2.2)) := by
  rw [List.drop_eq_getElem_cons hk, cliAll]

/-- What Load answers. -/
def LdPost (o : Option Mt) (w : World) (e : Ending) (w' : World) : Prop := match o with
  | some s => ∃ m, e = .returned (.tuple #[.pointer (some ⟨m, 0, none⟩), .int .i64 0]) ∧ (∃ b, w.heap.size ≤ b ∧ Moot b w' m s.cs s.tk s.cl) ∧ Below w.heap.size w w'
  | none => e = .returned (.tuple #[.pointer none, .int .i64 4]) ∧ Below w.heap.size w w'
theorem LdPost.no {o : Option Mt} (h : o = none) {w w' : World} (hb : Below w.heap.size w w') : LdPost o w (.returned (.tuple #[.pointer none, .int .i64 4])) w' := by rw [h]; exact ⟨rfl, hb⟩
theorem loadS_bad {t : Bs} (h : ¬ (unpackB t).2 = 0) : loadS t = none := by
  unfold loadS; split
  · rw [if_neg h]
  · rfl
theorem loadS_not2 {t : Bs} (h : ¬ (unpackB t).1.length = 2) : loadS t = none := by
  unfold loadS; split
  · rename_i hx; rw [hx] at h; exact absurd rfl h
  · rfl
theorem loadS_ab {t a b : Bs} (h : (unpackB t).2 = 0) (h2 : (unpackB t).1 = [a, b]) : loadS t = match thrO a, thrO b with
      | some na, some nb => match takeAll (trisO na) [cfg0] [] with
        | some (cs, tk) => match cliAll (trisO nb) (-1) (fun _ => (0, 0)) with
          | some cl => some ⟨cs, tk, cl⟩
          | none => none
        | none => none
      | _, _ => none := by
  unfold loadS
  rw [h2]
  simp only
  rw [if_pos h]
  rfl
theorem two_ofU {α : Type} (l : List α) (h : l.length = 2) : ∃ a b, l = [a, b] := by
  match l, h with
  | [a, b], _ => exact ⟨a, b, rfl⟩
theorem rd_twoU {w : World} {B : Nat} {v : Value} {a b : Bs} (h : Rd w B 1 v 2 (strs [a, b])) :
    ∃ g off cap, v = .slice (some ⟨g, off, none⟩) 2 cap ∧ g < B ∧ w.cell? ⟨g, off, none⟩ = some (.string ⟨a.toArray⟩) ∧ w.cell? ⟨g, off + 1, none⟩ = some (.string ⟨b.toArray⟩) := by
  obtain ⟨_, A, cap, rfl, _, h0 | ⟨g, off, rfl, hg, hc⟩⟩ := h
  · omega
  · exact ⟨g, off, cap, rfl, hg, hc 0 _ rfl, hc 1 _ rfl⟩
theorem thrS_some {t : Bs} {ns : List Int} (h : thrO t = some ns) : thrS t = (trisO ns, 0) := by unfold thrS; rw [h]
theorem thrS_none {t : Bs} (h : thrO t = none) : thrS t = ([], 4) := by unfold thrS; rw [h]
theorem thr_len {t : Bs} {ns : List Int} (h : thrO t = some ns) : (trisO ns).length ≤ t.length := by
  unfold thrO at h
  split at h
  · have h1 := toNums_length h
    have h2 := (unpackB_small t).1
    have := tris_length ns.length ns (Nat.le_refl _) (by rw [h1]; rename_i h0; exact h0.2)
    omega
  · cases h

set_option maxHeartbeats 4000000 in
set_option maxRecDepth 100000 in
theorem mload_any (t : Bs) (ht : t.length ≤ 1000000000) (w : World) (hl : Lay w) :
    Calls Tryz.prog 6 #[.string ⟨t.toArray⟩] w (LdPost (loadS t) w) := by
  have hU := unpack_any t (by omega) w hl
  have hsm := unpackB_small t
  by_cases he : (unpackB t).2 = 0
  · by_cases h2 : (unpackB t).1.length = 2
    · obtain ⟨a, b, hab⟩ := two_ofU _ h2
      have hLS := loadS_ab he hab
      have hla := hsm.2 a (by rw [hab]; simp)
      have hlb := hsm.2 b (by rw [hab]; simp)
      rw [he, hab] at hU
      clear he hab h2 hsm
      have HTA : Hid (∀ w1, Below w.heap.size w w1 → Calls Tryz.prog 14 #[.string ⟨a.toArray⟩] w1 fun e w' => ∃ v, e = .returned (.tuple #[v, .int .i64 (thrS a).2]) ∧ w'.ownsRow w1.heap.size 55 3 v (thrS a).1.length (cellsI (thrS a).1) ∧ Below w1.heap.size w1 w') := fun w1 h => threes_any a (by omega) w1 (hl.later h)
      have HTB : Hid (∀ w1, Below w.heap.size w w1 → Calls Tryz.prog 14 #[.string ⟨b.toArray⟩] w1 fun e w' => ∃ v, e = .returned (.tuple #[v, .int .i64 (thrS b).2]) ∧ w'.ownsRow w1.heap.size 55 3 v (thrS b).1.length (cellsI (thrS b).1) ∧ Below w1.heap.size w1 w') := fun w1 h => threes_any b (by omega) w1 (hl.later h)
      cases hA : thrO a with
      | none =>
        have hN : Hid (loadS t = none) := by unfold Hid; rw [hLS, hA]
        rw [thrS_none hA] at HTA
        have hB4 : (thrS b).2 = 0 ∨ (thrS b).2 = 4 := by
          cases hB : thrO b with
          | none => rw [thrS_none hB]; exact .inr rfl
          | some nb => rw [thrS_some hB]; exact .inl rfl
        clear hLS hA
        generalize thrS b = rb at *
        obtain ⟨lb, eb⟩ := rb
        simp only at hB4 HTB HTA
        go_enter Tryz.func6, Tryz.ntmps6
        go_wp2_with fail
        refine hU.mono ?_
        rintro e w1 ⟨v, rfl, hv, hb1⟩
        obtain ⟨g, off, c, rfl, hg, q0, q1⟩ := rd_twoU (Rd.of_own hv)
        have hg0 : g < w1.heap.size := hg
        have HB1 := Lib.hid hb1
        clear hU hv hb1
        go_wp2_with fail
        refine (HTA.out w1 HB1.out).mono ?_
        rintro e w2 ⟨v2, rfl, hv2, hb2⟩
        have q1' : w2.cell? ⟨g, off + 1, none⟩ = some (.string ⟨b.toArray⟩) := (hb2.cell hg0).trans q1
        have HB2 := Lib.hid (HB1.out.trans (hb2.mono HB1.out.size))
        clear hv2 hb2
        go_wp2_with fail
        refine (HTB.out w2 HB2.out).mono ?_
        rintro e w3 ⟨v3, rfl, hv3, hb3⟩
        have HB3 := Lib.hid (HB2.out.trans (hb3.mono HB2.out.size))
        clear hv3 hb3
        go_wp2
        go_ret2
        exact LdPost.no hN.out HB3.out
      | some na =>
        rw [thrS_some hA] at HTA
        cases hB : thrO b with
        | none =>
          have hN : Hid (loadS t = none) := by unfold Hid; rw [hLS, hA, hB]
          rw [thrS_none hB] at HTB
          clear hLS hA hB
          go_enter Tryz.func6, Tryz.ntmps6
          go_wp2_with fail
          refine hU.mono ?_
          rintro e w1 ⟨v, rfl, hv, hb1⟩
          obtain ⟨g, off, c, rfl, hg, q0, q1⟩ := rd_twoU (Rd.of_own hv)
          have hg0 : g < w1.heap.size := hg
          have HB1 := Lib.hid hb1
          clear hU hv hb1
          go_wp2_with fail
          refine (HTA.out w1 HB1.out).mono ?_
          rintro e w2 ⟨v2, rfl, hv2, hb2⟩
          have q1' : w2.cell? ⟨g, off + 1, none⟩ = some (.string ⟨b.toArray⟩) := (hb2.cell hg0).trans q1
          have HB2 := Lib.hid (HB1.out.trans (hb2.mono HB1.out.size))
          clear hv2 hb2
          go_wp2_with fail
          refine (HTB.out w2 HB2.out).mono ?_
          rintro e w3 ⟨v3, rfl, hv3, hb3⟩
          have HB3 := Lib.hid (HB2.out.trans (hb3.mono HB2.out.size))
          clear hv3 hb3
          go_wp2
          go_ret2
          exact LdPost.no hN.out HB3.out
        | some nb =>
          rw [thrS_some hB] at HTB
          have hla' : (trisO na).length ≤ 1000000000 := by have := thr_len hA; omega
          have hlb' : (trisO nb).length ≤ 1000000000 := by have := thr_len hB; omega
          have HLS : Hid (loadS t = match takeAll (trisO na) [cfg0] [] with
            | some (cs, tk) => match cliAll (trisO nb) (-1) (fun _ => (0, 0)) with
              | some cl => some ⟨cs, tk, cl⟩
              | none => none
            | none => none) := by unfold Hid; rw [hLS, hA, hB]
          clear hLS hA hB hla hlb
          generalize trisO na = LA at *
          generalize trisO nb = LB at *
          go_enter Tryz.func6, Tryz.ntmps6
          go_wp2_with fail
          refine hU.mono ?_
          rintro e w1 ⟨v, rfl, hv, hb1⟩
          obtain ⟨g, off, c, rfl, hg, q0, q1⟩ := rd_twoU (Rd.of_own hv)
          have hg0 : g < w1.heap.size := hg
          have HB1 := Lib.hid hb1
          clear hU hv hb1
          go_wp2_with fail
          refine (HTA.out w1 HB1.out).mono ?_
          rintro e w2 ⟨v2, rfl, hv2, hb2⟩
          have q1' : w2.cell? ⟨g, off + 1, none⟩ = some (.string ⟨b.toArray⟩) := (hb2.cell hg0).trans q1
          have HB2 := Lib.hid (HB1.out.trans (hb2.mono HB1.out.size))
          have HV2 := Lib.hid hv2
          clear hv2 hb2
          go_wp2_with fail
          refine (HTB.out w2 HB2.out).mono ?_
          rintro e w3 ⟨v3, rfl, hv3, hb3⟩
          have HB3 := Lib.hid (HB2.out.trans (hb3.mono HB2.out.size))
          obtain ⟨A2, c2, rfl⟩ := own_shape HV2.out
          obtain ⟨A3, c3, rfl⟩ := own_shape hv3
          have HRA := Lib.hid ((Rd.of_own HV2.out).below hb3 |>.more hb3.size)
          have HRB := Lib.hid (Rd.of_own hv3)
          clear hv3 hb3 HV2 HTA HTB q0 q1 q1' hg0 HB1 HB2
          go_wp2_with fail
          refine (mnew_any w3).mono ?_
          rintro e w4 ⟨m, rfl, hm4, hb4⟩
          have HM4 := Lib.hid hm4
          have HB4 := Lib.hid hb4
          clear hm4 hb4
          go_wp2_with fail
          go_loopw [50] (fun i wr => ∃ (k : Nat) (cs : List Cfg) (tk : List Cmd), k ≤ LA.length ∧ i = .int .i64 k ∧ Hid (takeAll (LA.take k) [cfg0] [] = some (cs, tk)) ∧ Hid (Moot w3.heap.size wr m cs tk (fun _ => (0, 0))) ∧ Hid (Below w3.heap.size w3 wr)) (fun i _ => LA.length - (intOf i).toNat)
          case atStart => exact ⟨0, [cfg0], [], Nat.zero_le _, rfl, rfl, HM4.out, HB4.out⟩
          case round =>
            obtain ⟨k, cs, tk, hk, rfl, HTK, HM, HB⟩ := hrel
            by_cases hlt : k < LA.length
            · obtain ⟨g1, off1, c1, hV, hg1, p0, p1, p2⟩ := rd_tri (HRA.out.below HB.out) hlt
              injection hV with hA1 hB1 hC1
              subst hA1
              clear hB1 hC1
              have HST := Lib.hid (take_step hlt HTK.out)
              have HSP := Lib.hid (take_stop hlt HTK.out)
              obtain ⟨l41, ltk, _⟩ := take_lens (by omega) HTK.out
              generalize LA[k] = x at *
              obtain ⟨xa, xb, xc⟩ := x
              simp only at *
              obtain ⟨h', tv, hm, hc⟩ := HM.out
              have hal := (Below.refl wr.heap.size wr).alloc (Nat.le_refl _) (.cells #[.int .i64 xa, .int .i64 xb, .int .i64 xc] 55)
              have HT := mtake_any w3.heap.size m h' tv (fun _ => (0, 0)) cs tk ⟨xa, xb, xc⟩ _ (hm.below hal) (hc.below hal) l41 (by omega)
              have HTKS : Hid (tkS cs tk ⟨xa, xb, xc⟩ = if (doS cs ⟨xa, xb, xc⟩).2 = 0 then tk ++ [⟨xa, xb, xc⟩] else tk) := rfl
              have HBW := Lib.hid (HB.out.trans (hal.mono HB.out.size))
              unfold TakePost at HT
              have HTAKE := Lib.hid HT
              clear HT hm hc hal HM HB
              generalize tkS cs tk ⟨xa, xb, xc⟩ = tk' at *
              generalize doS cs ⟨xa, xb, xc⟩ = r at *
              obtain ⟨cs', e'⟩ := r
              simp only at HTKS HST HSP HTAKE
              by_cases h0 : e' = 0
              · subst h0
                have HT2 : Hid (tk' = tk ++ [⟨xa, xb, xc⟩]) := by unfold Hid; rw [HTKS.out, if_pos rfl]
                have HS2 : Hid (takeAll (LA.take (k + 1)) [cfg0] [] = some (cs', tk')) := by unfold Hid; rw [HST.out, if_pos rfl, HT2.out]
                clear HTKS HST HSP HT2
                go_wp2_with fail
                refine HTAKE.out.mono ?_
                rintro e w5 ⟨tv', rfl, hm5, hc5, hch5⟩
                have hM5 : Hid (Moot w3.heap.size w5 m cs' tk' (fun _ => (0, 0))) := ⟨h', tv', hm5, hc5⟩
                have hB5 := Lib.hid (HBW.out.trans (mmine_below hch5 HBW.out.size))
                clear HTAKE hm5 hc5 hch5
                go_wp2_with fail
                exact ⟨⟨k + 1, cs', tk', by omega, by simp, HS2.out, hM5.out, hB5.out⟩, by simp [intOf]; omega⟩
              · have hne : (e' != 0) = true := by simpa using h0
                have hN : Hid (loadS t = none) := by unfold Hid; rw [HLS.out, HSP.out h0]
                clear HTKS HST HSP
                go_wp2_with fail
                refine HTAKE.out.mono ?_
                rintro e w5 ⟨tv', rfl, hm5, hc5, hch5⟩
                have hB5 := Lib.hid (HBW.out.trans (mmine_below hch5 HBW.out.size))
                clear HTAKE hm5 hc5 hch5
                go_wp2
                go_ret2
                exact LdPost.no hN.out (HB3.out.trans (hB5.out.mono HB3.out.size))
            · obtain rfl : k = LA.length := by omega
              rw [List.take_length] at HTK
              have HLD : Hid (loadS t = match cliAll LB (-1) (fun _ => (0, 0)) with
                | some cl => some ⟨cs, tk, cl⟩
                | none => none) := by unfold Hid; rw [HLS.out, HTK.out]
              obtain ⟨wo, rfl⟩ : ∃ wo : World, wo = wr := ⟨_, rfl⟩
              clear HLS HTK HRA HM4 HB4 hlt
              go_wp2_with fail
              go_loopw [12, 67] (fun bv i wr => ∃ (k : Nat) (bf : Int) (cl : Cls), k ≤ LB.length ∧ i = .int .i64 k ∧ bv = .int .i64 bf ∧ -1 ≤ bf ∧ bf < 8 ∧ Hid (cliAll LB (-1) (fun _ => (0, 0)) = cliAll (LB.drop k) bf cl) ∧ Hid (Moot w3.heap.size wr m cs tk cl) ∧ Hid (Below w3.heap.size w3 wr)) (fun _ i _ => LB.length - (intOf i).toNat)
              case atStart => exact ⟨0, -1, _, Nat.zero_le _, rfl, rfl, by omega, by omega, rfl, HM.out, HB.out⟩
              case round =>
                clear HM HB
                obtain ⟨k, bf, cl, hk, rfl, rfl, hbf0, hbf8, HCL, HM, HB⟩ := hrel
                by_cases hlt : k < LB.length
                rotate_left
                · obtain rfl : k = LB.length := by omega
                  rw [List.drop_length] at HCL
                  have hS : Hid (loadS t = some ⟨cs, tk, cl⟩) := by unfold Hid; rw [HLD.out, HCL.out]; rfl
                  clear HLD HCL
                  go_wp2
                  go_ret2
                  rw [hS.out]
                  exact ⟨m, rfl, ⟨_, HB3.out.size, HM.out⟩, HB3.out.trans (HB.out.mono HB3.out.size)⟩
                obtain ⟨g1, off1, c1, hV, hg1, p0, p1, p2⟩ := rd_tri (HRB.out.below HB.out) hlt
                injection hV with hA1 hB1 hC1
                subst hA1
                clear hB1 hC1
                have HCD := cli_drop LB k hlt bf cl
                rw [← HCL.out] at HCD
                generalize LB[k] = x at *
                obtain ⟨xa, xb, xc⟩ := x
                simp only at p0 p1 p2 HCD
                obtain ⟨h', tv, hm, hc⟩ := HM.out
                have hal := (Below.refl wr.heap.size wr).alloc (Nat.le_refl _) (.cells #[.int .i64 xa, .int .i64 xb, .int .i64 xc] 55)
                have HMW := Lib.hid (And.intro (hm.below hal) (hc.below hal))
                have HBW := Lib.hid (HB.out.trans (hal.mono HB.out.size))
                have hbW := Lib.hid (HB3.out.trans (HBW.out.mono HB3.out.size))
                have HBAD : Hid (badT bf (xa, xb, xc) = true → loadS t = none) := fun h => by rw [HLD.out, HCD, if_pos h]
                have HOK : Hid (badT bf (xa, xb, xc) = false → cliAll LB (-1) (fun _ => (0, 0)) = cliAll (LB.drop (k + 1)) xa (upd cl xa.toNat (xb, xc))) := fun h => by rw [HCD, if_neg (by rw [h]; simp)]
                have p3 := Blk.new wr 55 #[.int .i64 xa, .int .i64 xb, .int .i64 xc]
                have f3 := True.intro
                have f4 := True.intro
                clear hm hc hal HB HCL HCD
                by_cases t0 : xa ≤ bf
                · have d1 : decide (xa ≤ bf) = true := decide_eq_true t0
                  have hN := Lib.hid <| HBAD.out (by simp [badT, d1])
                  clear HOK HBAD HM p3 f3 f4 t0 HLD
                  go_wp2
                  go_ret2
                  exact LdPost.no hN.out hbW.out
                have d1 : decide (xa ≤ bf) = false := decide_eq_false t0
                by_cases t1 : 8 ≤ xa
                · have d2 : decide (8 ≤ xa) = true := decide_eq_true t1
                  have hN := Lib.hid <| HBAD.out (by simp [badT, d2])
                  clear HOK HBAD HM p3 f3 f4 t1 HLD
                  go_wp2
                  go_ret2
                  exact LdPost.no hN.out hbW.out
                have d2 : decide (8 ≤ xa) = false := decide_eq_false t1
                by_cases t2 : xb < 1
                · have d3 : decide (xb < 1) = true := decide_eq_true t2
                  have hN := Lib.hid <| HBAD.out (by simp [badT, d3])
                  clear HOK HBAD HM p3 f3 f4 t2 HLD
                  go_wp2
                  go_ret2
                  exact LdPost.no hN.out hbW.out
                have d3 : decide (xb < 1) = false := decide_eq_false t2
                by_cases t3 : 1099511627776 < xb
                · have d4 : decide (1099511627776 < xb) = true := decide_eq_true t3
                  have hN := Lib.hid <| HBAD.out (by simp [badT, d4])
                  clear HOK HBAD HM p3 f3 f4 t3 HLD
                  go_wp2
                  go_ret2
                  exact LdPost.no hN.out hbW.out
                have d4 : decide (1099511627776 < xb) = false := decide_eq_false t3
                by_cases t4 : xc < 0
                · have d5 : decide (xc < 0) = true := decide_eq_true t4
                  have hN := Lib.hid <| HBAD.out (by simp [badT, d5])
                  clear HOK HBAD HM p3 f3 f4 t4 HLD
                  go_wp2
                  go_ret2
                  exact LdPost.no hN.out hbW.out
                have d5 : decide (xc < 0) = false := decide_eq_false t4
                by_cases t5 : 999 < xc
                · have d6 : decide (999 < xc) = true := decide_eq_true t5
                  have hN := Lib.hid <| HBAD.out (by simp [badT, d6])
                  clear HOK HBAD HM p3 f3 f4 t5 HLD
                  go_wp2
                  go_ret2
                  exact LdPost.no hN.out hbW.out
                have d6 : decide (999 < xc) = false := decide_eq_false t5
                have HNX := Lib.hid (HOK.out (by simp [badT, d1, d2, d3, d4, d5, d6]))
                obtain ⟨j, rfl⟩ : ∃ j : Nat, xa = (j : Int) := ⟨xa.toNat, by omega⟩
                have hj : j < 8 := by omega
                have j0 : (0 : Int) ≤ (j : Int) := by omega
                have j8 : (j : Int) < 8 := by omega
                rw [show ((j : Int)).toNat = j by omega] at HNX
                clear HBAD HOK t1 t2 t3 t4 t5 t0 hbf0 hbf8 HM f3 f4
                go_upto_region 22 with fail
                clear p0 p1 p2 d1 d2 d3 d4 d5 d6
                obtain ⟨hm8, hc8⟩ := HMW.out
                have HW8 := Lib.hid (HBW.out.size)
                clear HMW hbW
                generalize wr.heap.size = bx at *
                generalize wr.alloc (.cells #[.int .i64 (j : Int), .int .i64 xb, .int .i64 xc] 55) = Wb at *
                obtain ⟨z0, z1, z2, _, _, _⟩ := blk3U p3
                obtain ⟨e1, e2⟩ := moot_num h' tv cl j hj
                have y1 := (hm8.box.cell _).trans e1
                have y2 := (hm8.box.cell _).trans e2
                have g1 := hm8.box.frozen (2 + j * 2)
                have g2 := hm8.box.frozen (2 + j * 2 + 1)
                have HST := Lib.hid (moot_set h' tv cl j hj xb xc)
                have HM8 := Lib.hid hm8
                have HC8 := Lib.hid hc8
                clear hm8 hc8 e1 e2 p3
                go_region
                go_wp2_with fail
                have hcg : Chg (fun i => i = m) Wb ((Wb.setCell ⟨m, 2 + j * 2, none⟩ (.int .i64 xb)).setCell ⟨m, 2 + j * 2 + 1, none⟩ (.int .i64 xc)).drew := (((Chg.refl (fun i => i = m) Wb).setCell (p := ⟨m, 2 + j * 2, none⟩) (fun _ => rfl) _).setCell (p := ⟨m, 2 + j * 2 + 1, none⟩) (fun _ => rfl) _).drew
                refine ⟨⟨k + 1, j, upd cl j (xb, xc), by omega, by simp, rfl, by omega, by omega, HNX.out, ⟨h', tv, ⟨?_, hcg.owns HM8.out.row (fun g hg e => own_blk_ne HM8.out.row HM8.out.box (by decide) (by rw [hg, e])), HM8.out.hm, HM8.out.hh⟩, HC8.out.moot hcg (fun i hi e => ⟨_, _, e ▸ HM8.out.box, .inl rfl⟩)⟩, HBW.out.trans (hcg.to_below (fun i hi e => by have := HM8.out.hm; omega) HW8.out)⟩, by simp [intOf]; omega⟩
                have := (HM8.out.box.set_ (2 + j * 2) (.int .i64 xb)).set_ (2 + j * 2 + 1) (.int .i64 xc)
                rw [HST.out] at this
                exact this.drew
    · have hN : Hid (loadS t = none) := loadS_not2 h2
      have hne : (((unpackB t).1.length : Int) != 2) = true := by simp only [bne_iff_ne, ne_eq]; omega
      rw [he] at hU
      clear hsm
      go_enter Tryz.func6, Tryz.ntmps6
      go_wp2_with fail
      refine hU.mono ?_
      rintro e w1 ⟨v, rfl, hv, hb1⟩
      obtain ⟨A, c, rfl⟩ := own_shape hv
      go_wp2
      go_ret2
      exact LdPost.no hN.out hb1
  · have hu := unpackB_fourU t he
    have hN : Hid (loadS t = none) := loadS_bad he
    rw [hu] at hU
    go_enter Tryz.func6, Tryz.ntmps6
    go_wp2_with fail
    refine hU.mono ?_
    rintro e w1 ⟨v, rfl, hv, hb1⟩
    obtain ⟨A, c, rfl⟩ := own_shape hv
    go_wp2
    go_ret2
    exact LdPost.no hN.out hb1

end Go.Proofs.YtijacbnoemjgcaaGreatDoor
