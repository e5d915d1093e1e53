/- Certificates: how tags lie; slices.Clone of tags. -/
import Derived.Test.YtkmhimaeakbpoaaDoorPe6
import Derived.OwnWalk
import Derived.BigQuiet
import Derived.Maps.AppendAt
set_option linter.unusedVariables false
set_option linter.unusedSimpArgs false
set_option linter.unnecessarySimpa false
namespace Go.Proofs.YtkmhimaeakbpoaaDoor
open Go.RowKit Go.Shelf

abbrev TagV := Int × Bs
structure Crt where
  t : Bs
  g : Int
  tags : List TagV
def tagC (x : TagV) : List Value := [.int .i64 x.1, .string ⟨x.2.toArray⟩]
def cellsT (l : List TagV) : List Value := l.flatMap tagC
theorem cellsT_length (l : List TagV) : (cellsT l).length = l.length * 2 := by
  induction l with
  | nil => rfl
  | cons a l ih => simp only [cellsT, List.flatMap_cons, List.length_append, List.length_cons] at ih ⊢; rw [ih]; simp [tagC]; omega
theorem cellsT_append (a b : List TagV) : cellsT (a ++ b) = cellsT a ++ cellsT b := by simp [cellsT]
theorem cellsT_get (l : List TagV) (k : Nat) (hk : k < l.length) : (cellsT l)[k * 2]? = some (.int .i64 l[k].1) ∧ (cellsT l)[k * 2 + 1]? = some (.string ⟨l[k].2.toArray⟩) := by
  induction l generalizing k with
  | nil => simp at hk
  | cons a l ih =>
    cases k with
    | zero => simp [cellsT, tagC]
    | succ k =>
      have := ih k (by simpa using hk)
      simp only [cellsT, List.flatMap_cons, List.getElem_cons_succ] at this ⊢
      refine ⟨?_, ?_⟩
      · rw [show (k + 1) * 2 = (tagC a).length + k * 2 by simp [tagC]; omega, List.getElem?_append_right (by omega)]; simpa using this.1
      · rw [show (k + 1) * 2 + 1 = (tagC a).length + (k * 2 + 1) by simp [tagC]; omega, List.getElem?_append_right (by omega)]; simpa using this.2
theorem cellsT_one (l : List TagV) : ∀ u ∈ cellsT l, u.oneCell' = true := by
  intro u hu
  simp only [cellsT, List.mem_flatMap] at hu
  obtain ⟨x, _, hx⟩ := hu
  simp [tagC] at hx
  rcases hx with rfl | rfl <;> rfl

theorem tag_info : (Tryd.prog.info? 64).map (fun i => (i.zero, i.size, i.bytes)) = some (some (.agg #[.int .i64 0, .string ⟨#[]⟩]), 2, 24) := by kernel_rfl

set_option maxHeartbeats 1000000 in
set_option maxRecDepth 100000 in
theorem cloneT_any (v : Value) (l : List TagV) (w : World) (B : Nat) (hB : B ≤ w.heap.size) (hr : Rd w B 2 v l.length (cellsT l)) (hm : l.length ≤ 1048576) :
    Calls Tryd.prog 30 #[v] w fun e w' => ∃ v', e = .returned v' ∧ w'.ownsRow w.heap.size 64 2 v' l.length (cellsT l) ∧ Below w.heap.size w w' := by
  obtain ⟨i0, hi0, hz0, hz1, hz2⟩ := info_parts tag_info
  obtain ⟨hl, A, c, rfl, hlc, hA⟩ := hr
  have heq := fun wx => Lib.run_eql_slice_nil (P := Tryd.prog) wx 22 64 A l.length c 0 0 Tryd.underlying22
  cases A with
  | none =>
    have h0 : l = [] := by
      rcases hA with h | ⟨g, off, h, _⟩
      · exact List.eq_nil_of_length_eq_zero h
      · cases h
    subst h0
    clear hA
    simp only [Option.isNone_none, List.length_nil] at heq ⊢
    go_enter Tryd.func30, Tryd.ntmps30
    go_wp2
    go_ret
    exact ⟨_, rfl, World.ownsRow_nil w w.heap.size _ _, Below.refl _ _⟩
  | some a =>
    have hnews : Hid (∀ j u, (cellsT l)[j]? = some u → w.cell? (a.add j) = some u) := by
      intro j u hu
      rcases hA with h | ⟨g, off, h, hg, hc⟩
      · rw [List.eq_nil_of_length_eq_zero h] at hu; simp [cellsT] at hu
      · injection h with h
        subst h
        rw [Addr.add_lit]
        exact hc j u hu
    clear hA
    simp only [Option.isNone_some] at heq
    go_enter Tryd.func30, Tryd.ntmps30
    go_wp2_with (at_builtin; refine wpList_append_own _ rfl _ _ 22 rfl w.heap.size 64 i0 _ 2 24 Tryd.underlying22 hi0 hz0 hz1 hz2 rfl (by omega) _ _ _ rfl (World.ownsRow_made w #[] 0 (Nat.le_refl _) (Nat.zero_le _) (by simp)) a l.length c (cellsT l) rfl ?qc1 ?qc2 ?qc3 ?qc4 ?qc5 ?qc6 ?_)
    case qc1 => exact hl
    case qc2 =>
      intro j u hj
      exact Lib.cell?_alloc_some _ (hnews.out j u hj)
    case qc3 => exact cellsT_one l
    case qc4 => show _ ≤ 9223372036854775807; omega
    case qc5 => omega
    case qc6 => simp
    intro v' w1 hown hgrow hnil
    go_wp2
    go_ret
    refine ⟨v', rfl, by simpa using hown, ?_⟩
    exact ((Below.refl _ w).alloc (Nat.le_refl _) _).grown hgrow (by simp) (by intro k hk; simp [Value.ownBlock] at hk; omega)

theorem blk_new_at {w : World} {b : Nat} (t : TypeId) (cs cs' : Array Value) (h : w.heap.size = b) (he : cs = cs' := by rfl) : Blk (w.alloc (.cells cs t)) b t cs' := by
  subst h; subst he; exact Blk.new w t cs
theorem blk_eq {w : World} {b : Nat} {t : TypeId} {cs cs' : Array Value} (h : Blk w b t cs) (he : cs = cs') : Blk w b t cs' := he ▸ h

end Go.Proofs.YtkmhimaeakbpoaaDoor
