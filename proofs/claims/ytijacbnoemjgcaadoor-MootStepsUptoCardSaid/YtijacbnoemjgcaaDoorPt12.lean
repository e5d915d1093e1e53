/- Lists of ints: slices.Clone, DeleteFunc. -/
import Derived.Test.YtijacbnoemjgcaaDoorPt7
import Derived.BigQuiet
import Derived.Deep.RegionHeld3
import Derived.Deep.DrawnRows
set_option linter.unusedVariables false
set_option linter.unusedSimpArgs false
set_option linter.unnecessarySimpa false
namespace Go.Proofs.YtijacbnoemjgcaaDoor
open Go.RowKit Go.Shelf

theorem int_info : (Tryd.prog.info? 3).map (fun i => (i.zero, i.size, i.bytes)) = some (some (.int .i64 0), 1, 8) := by kernel_rfl

set_option maxHeartbeats 1000000 in
set_option maxRecDepth 100000 in
theorem clone_any (v : Value) (l : List Int) (w : World) (B : Nat) (hB : B ≤ w.heap.size) (hr : Rd w B 1 v l.length (ints l)) (hm : l.length ≤ 1000) :
    Calls Tryd.prog 41 #[v] w fun e w' => ∃ v', e = .returned v' ∧ w'.ownsRow w.heap.size 3 1 v' l.length (ints l) ∧ Below w.heap.size w w' := by
  obtain ⟨i0, hi0, hz0, hz1, hz2⟩ := info_parts int_info
  obtain ⟨hl, A, c, rfl, hlc, hA⟩ := hr
  have heq := fun wx => Lib.run_eql_slice_nil (P := Tryd.prog) wx 46 3 A l.length c 0 0 Tryd.underlying46
  cases A with
  | none =>
    have h0 : l = [] := by
      rcases hA with h | ⟨g, off, h, _⟩
      · exact List.eq_nil_of_length_eq_zero h
      · cases h
    subst h0
    clear hA
    simp only [Option.isNone_none, List.length_nil] at heq ⊢
    go_enter Tryd.func41, Tryd.ntmps41
    go_wp2
    go_ret
    exact ⟨_, rfl, World.ownsRow_nil w w.heap.size 3 1, Below.refl _ _⟩
  | some a =>
    have hnews : Hid (∀ j u, (ints l)[j]? = some u → w.cell? (a.add j) = some u) := by
      intro j u hu
      rcases hA with h | ⟨g, off, h, hg, hc⟩
      · rw [List.eq_nil_of_length_eq_zero h] at hu; simp [ints] at hu
      · injection h with h
        subst h
        rw [Addr.add_lit]
        exact hc j u hu
    clear hA
    simp only [Option.isNone_some] at heq
    go_enter Tryd.func41, Tryd.ntmps41
    go_wp2_with (at_builtin; refine wpList_append_own _ rfl _ _ 46 rfl w.heap.size 3 i0 _ 1 8 Tryd.underlying46 hi0 hz0 hz1 hz2 rfl (by omega) _ _ _ rfl (World.ownsRow_made w #[] 0 (Nat.le_refl _) (Nat.zero_le _) (by simp)) a l.length c (ints l) rfl ?qc1 ?qc2 ?qc3 ?qc4 ?qc5 ?qc6 ?_)
    case qc1 => exact hl
    case qc2 =>
      intro j u hj
      exact Lib.cell?_alloc_some _ (hnews.out j u hj)
    case qc3 => exact ints_one l
    case qc4 => unfold maxLen; omega
    case qc5 => omega
    case qc6 => simp
    intro v' w1 hown hgrow hnil
    go_wp2
    go_ret
    refine ⟨v', rfl, by simpa using hown, ?_⟩
    exact ((Below.refl _ w).alloc (Nat.le_refl _) _).grown hgrow (by simp) (by intro k hk; simp [Value.ownBlock] at hk; omega)

theorem own_get1 {base : Nat} {V : Value} {w : World} {l : List Int} (h : w.ownsRow base 3 1 V l.length (ints l)) {k : Nat} (hk : k < l.length) :
    ∃ g c, V = .slice (some ⟨g, 0, none⟩) l.length c ∧ base ≤ g ∧ g < w.heap.size ∧ w.cell? ⟨g, k, none⟩ = some (.int .i64 l[k]) := by
  obtain ⟨g, c, rfl, hb, hg⟩ := h.form (by omega)
  have e := h.cells (g := g) rfl _ _ (ints_get l k hk)
  rw [Addr.add_lit, Nat.zero_add] at e
  exact ⟨g, c, rfl, hb, hg, e⟩

end Go.Proofs.YtijacbnoemjgcaaDoor
