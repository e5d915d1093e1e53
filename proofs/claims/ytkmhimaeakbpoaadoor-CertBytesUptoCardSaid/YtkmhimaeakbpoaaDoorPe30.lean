/- cert.Decode: what it is made of. -/
import Derived.Test.YtkmhimaeakbpoaaDoorPe20
import Derived.Test.YtkmhimaeakbpoaaDoorPe29
set_option linter.unusedVariables false
set_option linter.unusedSimpArgs false
set_option linter.unnecessarySimpa false
namespace Go.Proofs.YtkmhimaeakbpoaaDoor
open Go.RowKit Go.Shelf
attribute [local go_sem] Oper.semAt_some

def prT (ll : List Bs) (i : Nat) : TagV := ((toNumB (ll.getD (2 * i) [])).1, ll.getD (2 * i + 1) [])
def prG (ll : List Bs) (i : Nat) : Prop := (toNumB (ll.getD (2 * i) [])).2 = 0
def prL (ll : List Bs) (q : Nat) : List TagV := (List.range q).map (prT ll)
theorem prL_length (ll : List Bs) (q : Nat) : (prL ll q).length = q := by simp [prL]
theorem prL_succ (ll : List Bs) (q : Nat) : prL ll (q + 1) = prL ll q ++ [prT ll q] := by simp [prL, List.range_succ]
theorem pairs_all : ∀ (q : Nat) (ll : List Bs), ll.length = 2 * q → (∀ i, i < q → prG ll i) → pairsO ll = some (prL ll q)
  | 0, [], _, _ => rfl
  | 0, _ :: _, h, _ => by simp at h
  | q + 1, a :: t :: ll, h, hg => by
    have h0 : (toNumB a).2 = 0 := hg 0 (by omega)
    rw [pairsO, if_pos h0, pairs_all q ll (by simp at h; omega) (fun i hi => hg (i + 1) (by omega))]
    unfold prL
    rw [List.range_succ_eq_map, List.map_cons, List.map_map]
    rfl
  | q + 1, [], h, _ => by simp at h
  | q + 1, [_], h, _ => by simp at h; omega
theorem pairs_bad : ∀ (q : Nat) (ll : List Bs), ll.length = 2 * q → ∀ i, i < q → ¬ prG ll i → pairsO ll = none
  | 0, _, _, i, hi, _ => by omega
  | q + 1, a :: t :: ll, h, 0, _, hg => by
    have h0 : ¬ (toNumB a).2 = 0 := hg
    rw [pairsO, if_neg h0]
  | q + 1, a :: t :: ll, h, i + 1, hi, hg => by
    rw [pairsO, pairs_bad q ll (by simp at h; omega) i (by omega) hg]
    split <;> rfl
  | q + 1, [], h, _, _, _ => by simp at h
  | q + 1, [_], h, _, _, _ => by simp at h; omega
/-- What a list is. -/
def decL (l : List Bs) : Crt × Int := match crtO l with
  | some c => if formS c = 0 then (c, 0) else (crt0, 4)
  | none => (crt0, 4)
theorem decS_list {b : Bs} (h : (unpackB b).2 = 0) : decS b = decL (unpackB b).1 := by unfold decS decL; rw [if_pos h]; split <;> simp_all
theorem decS_none {b : Bs} (h : ¬ (unpackB b).2 = 0) : decS b = (crt0, 4) := by unfold decS; rw [if_neg h]
theorem decL_short {l : List Bs} (h : l.length < 2) : decL l = (crt0, 4) := by
  match l, h with
  | [], _ => rfl
  | [_], _ => rfl
theorem decL_odd {l : List Bs} (h : l.length % 2 = 1) : decL l = (crt0, 4) := by
  match l, h with
  | [_], _ => rfl
  | t :: g :: l, h =>
    unfold decL
    rw [crtO, pairs_odd l.length l (Nat.le_refl _) (by simp at h; omega)]
    split <;> rename_i hh
    · split at hh <;> simp at hh
    · rfl
theorem decL_num {t g : Bs} {l : List Bs} (h : ¬ (toNumB g).2 = 0) : decL (t :: g :: l) = (crt0, 4) := by
  unfold decL; rw [crtO, if_neg h]
theorem decL_bad {t g : Bs} {l : List Bs} {q i : Nat} (hq : l.length = 2 * q) (hi : i < q) (h : ¬ prG l i) : decL (t :: g :: l) = (crt0, 4) := by
  unfold decL; rw [crtO, pairs_bad q l hq i hi h]
  split <;> rename_i hh
  · split at hh <;> simp at hh
  · rfl
theorem decL_all {t g : Bs} {l : List Bs} {q : Nat} (hg : (toNumB g).2 = 0) (hq : l.length = 2 * q) (h : ∀ i, i < q → prG l i) :
    decL (t :: g :: l) = if formS ⟨t, (toNumB g).1, prL l q⟩ = 0 then (⟨t, (toNumB g).1, prL l q⟩, 0) else (crt0, 4) := by
  unfold decL; rw [crtO, if_pos hg, pairs_all q l hq h]; rfl
theorem toNum_fourY (s : Bs) (h : ¬ (toNumB s).2 = 0) : (toNumB s).2 = 4 := by
  rcases toNum_cases s with e | ⟨e, _⟩
  · rw [e]
  · exact absurd (by rw [e]) h
theorem unpackB_fourY (s : Bs) (h : ¬ (unpackB s).2 = 0) : unpackB s = ([], 4) := by
  unfold unpackB at h ⊢
  cases hu : unpackO s with
  | none => rfl
  | some l => rw [hu] at h; simp at h

/-- The two results' cells, as they were made. -/
structure DecI (w W : World) : Prop where
  z : Blk W w.heap.size 24 #[.string ⟨#[]⟩, .int .i64 0, .slice none 0 0]
  e : Blk W (w.heap.size + 1) 31 #[.int .i64 0]
  bel : Below w.heap.size w W
/-- .. and with an error. -/
structure DecX (w : World) (n : Int) (W : World) : Prop where
  z : Blk W w.heap.size 24 #[.string ⟨#[]⟩, .int .i64 0, .slice none 0 0]
  e : Blk W (w.heap.size + 1) 31 #[.int .i64 n]
  bel : Below w.heap.size w W
theorem DecI.start (w : World) : DecI w ((w.alloc (.cells #[.string ⟨#[]⟩, .int .i64 0, .slice none 0 0] 24)).alloc (.cells #[.int .i64 0] 31)) := by
  have h1 := Blk.new (w.alloc (.cells #[.string ⟨#[]⟩, .int .i64 0, .slice none 0 0] 24)) 31 #[.int .i64 0]
  simp only [World.size_alloc] at h1
  exact ⟨(Blk.new _ _ _).alloc _, h1, ((Below.refl _ w).alloc (Nat.le_refl _) _).alloc (by simp) _⟩
theorem DecI.below {w W W' : World} (h : DecI w W) {B : Nat} (hb : Below B W W') (hB : w.heap.size + 2 ≤ B) : DecI w W' :=
  ⟨h.z.below hb (by omega), h.e.below hb (by omega), h.bel.trans (hb.mono (by omega))⟩
theorem DecI.alloc {w W : World} (h : DecI w W) (o : Obj) : DecI w (W.alloc o) := ⟨h.z.alloc _, h.e.alloc _, h.bel.alloc h.bel.size _⟩
theorem DecI.drew {w W : World} (h : DecI w W) : DecI w W.drew := ⟨h.z.drew, h.e.drew, ⟨h.bel.os, h.bel.tape, h.bel.output, h.bel.size, h.bel.block⟩⟩
theorem DecI.exit {w W : World} (h : DecI w W) (n : Int) : DecX w n ((((W.setCell ⟨w.heap.size, 0, none⟩ (.string ⟨#[]⟩)).setCell ⟨w.heap.size, 1, none⟩ (.int .i64 0)).setCell ⟨w.heap.size, 2, none⟩ (.slice none 0 0)).setCell ⟨w.heap.size + 1, 0, none⟩ (.int .i64 n)) := by
  have hs := h.bel.size
  refine ⟨(((h.z.set_ 0 _).set_ 1 _).set_ 2 _).far (p := ⟨w.heap.size + 1, 0, none⟩) (by simp) _, ?_, (below_set3Y h.bel _ _ _ (Nat.le_refl _)).setCell (by simp) _⟩
  exact (((h.e.far (p := ⟨w.heap.size, 0, none⟩) (by simp) _).far (p := ⟨w.heap.size, 1, none⟩) (by simp) _).far (p := ⟨w.heap.size, 2, none⟩) (by simp) _).set_ 0 _

section
variable {F : Fence} {n : Nat} {P : Program} {ops : Array Oper} {Q : Exit → Act → World → Prop} {md : Region.Mode}
/-- What is no defer goes in a round as outside of it. -/
theorem opIn_round {l : Nat} {i : Nat} (hnd : ∀ (o : Oper) (c : Call), ops[i]? = some o → o.op ≠ .defer c) {K : Act → World → Prop} {a : Act} {w : World} (h : wpOpIn F n P ops Q i K a w) : wpOpIn (F.inRound l) n P ops Q i K a w := by
  unfold wpOpIn at h ⊢
  cases ho : ops[i]? with
  | none => simp only [ho] at h ⊢; exact h
  | some o =>
    simp only [ho] at h ⊢
    split at h
    · rename_i hw
      rw [if_pos hw]
      unfold Oper.wpIn at h ⊢
      refine ⟨h.1, ?_⟩
      have h2 := h.2
      rw [Oper.semAt_plain F _ _ (fun c => hnd o c ho)] at h2
      rw [Oper.semAt_plain (F.inRound l) _ _ (fun c => hnd o c ho)]
      exact h2
    · rename_i hw
      rw [if_neg hw]
      exact h
theorem anyIn_round {l : Nat} (hnd : ∀ (i : Nat) (o : Oper) (c : Call), ops[i]? = some o → o.op ≠ .defer c) : ∀ (fuel : Nat) (listed : Array Bool) (a : Act) (w : World), wpAnyIn F n P md ops Q fuel listed a w → wpAnyIn (F.inRound l) n P md ops Q fuel listed a w
  | 0, _, _, _, h => h
  | fuel + 1, listed, a, w, h => ⟨h.1, fun i hi => opIn_round (hnd i) (wpOpIn_mono (fun a' w' h3 => anyIn_round hnd fuel _ a' w' h3) (h.2 i hi))⟩
/-- An append at a step of a drawn region, in a fence. -/
theorem stepIn_append_own {o : Oper} {a : Act} {w : World} {K : Act → World → Prop} {E : Prop} (hg : o.guard = none) (s x : Operand) (t : TypeId) (hop : o.op = Op.call { callee := Callee.builtin Builtin.append, args := #[s, x], argTypes := #[t, t] })
    (base : Nat) (e : TypeId) (i : TypeInfo) (z : Value) (size bytes : Nat) (h1 : P.underlying t = some (.slice e)) (h2 : P.info? e = some i) (h3 : i.zero = some z) (h4 : i.size = size) (h5 : i.bytes = bytes) (h6 : z.cells.size = size) (h7 : 0 < size)
    (v : Value) (k : Nat) (xs : List Value) (hs : a.eval s = v) (hown : w.ownsRow base e size v k xs) (ad : Addr) (m c : Nat) (news : List Value) (hx : a.eval x = .slice (some ad) m c) (hn : news.length = m * size)
    (hc : ∀ j u, news[j]? = some u → w.cell? (ad.add j) = some u) (h1c : ∀ u ∈ news, u.oneCell' = true) (b1 : k + m ≤ maxLen) (b2 : (k + m) * bytes ≤ 140737488355328) (b3 : base ≤ w.heap.size)
    (hK : ∀ v' w', w'.ownsRow base e size v' (k + m) (xs ++ news) → w.grownBy w' v.ownBlock → K (a.put o.dst v') w') :
    if Region.wanted o (yielded ops a.tmps) = true then Oper.wpIn F n P o a w K Q else E := by
  have hw : Region.wanted o (yielded ops a.tmps) = true := by simp [Region.wanted, hg]
  rw [if_pos hw]
  obtain ⟨v', w', hrun, r1, r2, r3⟩ := run_append_own (P := P) w base t o.type e i z size bytes h1 h2 h3 h4 h5 h6 h7 v k xs hown ad m c news hn hc h1c b1 b2 b3
  unfold Oper.wpIn
  refine ⟨?_, ?_⟩
  · simp [Oper.about, hop, resolve, Target.leads, Sem.run_pure]
  · rw [Oper.semAt_plain F _ _ (by rw [hop]; intro c hc'; cases hc')]
    simp [execOp, hop, resolve, invoke, builtin, hs, hx, hrun, Result.andThen]
    exact hK _ _ r1 r2
end

end Go.Proofs.YtkmhimaeakbpoaaDoor
