/- Pools in memory; of, gone. -/
import Derived.Test.YtamlfapdifocoaaDoorBb
set_option linter.unusedVariables false
set_option linter.unusedSimpArgs false
set_option linter.unnecessarySimpa false
namespace Go.Proofs.YtamlfapdifocoaaDoor
open Go.RowKit Go.Shelf

/-- Block B is a pool: its list's slice is V, which owns the requests l; d: what is done of each caller. -/
structure PoolAt (w : World) (base B : Nat) (V : Value) (l : List Req) (d : Nat → Int) : Prop where
  blk : ∃ cs, Blk w B 47 cs ∧ cs.size = 65 ∧ cs[0]? = some V ∧ ∀ c, c < 64 → cs[c + 1]? = some (.int .i64 (d c))
  own : w.ownsRow base 26 3 V l.length (cellsOf l)

section
variable {w w' : World} {base B : Nat} {V : Value} {l : List Req} {d : Nat → Int} {F : Nat → Prop}
theorem PoolAt.lt (h : PoolAt w base B V l d) : B < w.heap.size := by obtain ⟨cs, hb, _⟩ := h.blk; exact hb.lt
theorem PoolAt.ne_ (h : PoolAt w base B V l d) : V.ownBlock ≠ some B := by
  obtain ⟨cs, hb, _⟩ := h.blk
  exact own_blk_ne h.own hb (by decide)
theorem PoolAt.chg (h : PoolAt w base B V l d) (hc : Chg F w w') (hB : ¬ F B) (hV : ∀ g, V.ownBlock = some g → ¬ F g) : PoolAt w' base B V l d := by
  obtain ⟨cs, hb, hs⟩ := h.blk
  exact ⟨⟨cs, hb.chg hc hB, hs⟩, hc.owns h.own hV⟩
theorem PoolAt.below (h : PoolAt w base B V l d) (hc : Below w.heap.size w w') : PoolAt w' base B V l d :=
  h.chg (F := fun _ => False) (Chg.of_below hc) id (fun _ _ => id)
theorem PoolAt.head (h : PoolAt w base B V l d) : w.cell? ⟨B, 0, none⟩ = some V := by
  obtain ⟨cs, hb, hs, h0, h1⟩ := h.blk
  rw [hb.cell]; exact h0
theorem PoolAt.num (h : PoolAt w base B V l d) {c : Nat} (hc : c < 64) : w.cell? ⟨B, c + 1, none⟩ = some (.int .i64 (d c)) := by
  obtain ⟨cs, hb, hs, h0, h1⟩ := h.blk
  rw [hb.cell]; exact h1 c hc
theorem PoolAt.free (h : PoolAt w base B V l d) (i : Nat) : w.frozen? ⟨B, i, none⟩ = false := by
  obtain ⟨cs, hb, hs, h0, h1⟩ := h.blk
  exact hb.frozen i
theorem PoolAt.form (h : PoolAt w base B V l d) : ∃ A c, V = .slice A l.length c := by
  rcases h.own.2 with ⟨rfl, h0⟩ | ⟨g, cap, cur, rfl, _⟩
  · exact ⟨none, 0, by rw [h0]⟩
  · exact ⟨_, _, rfl⟩
/-- another list -/
theorem PoolAt.put (h : PoolAt w base B V l d) (hc : Chg F w w') (hB : ¬ F B) {V' : Value} {l' : List Req} {base' : Nat} (hown : w'.ownsRow base' 26 3 V' l'.length (cellsOf l')) (hb : base ≤ base') (hne : V'.ownBlock ≠ some B) :
    PoolAt (w'.setCell ⟨B, 0, none⟩ V') base B V' l' d := by
  obtain ⟨cs, hb', hs, h0, h1⟩ := h.blk
  have hB' := hb'.chg hc hB
  refine ⟨⟨_, hB'.set_ 0 V', by simpa using hs, by simp [hs], fun c hc => ?_⟩, ?_⟩
  · rw [Array.getElem?_setIfInBounds, if_neg (by omega)]; exact h1 c hc
  · exact own_keep (row := some B) (own_weaken hown hb) ⟨rfl, rfl, rfl, by simp, fun k _ hk => Below.heap_setCell _ _ _ _ (fun e => hk (by rw [e]))⟩ (fun g hg e => hne (by rw [hg, e]))
/-- another number -/
theorem PoolAt.putNum (h : PoolAt w base B V l d) {c : Nat} (hc : c < 64) (x : Int) : PoolAt (w.setCell ⟨B, c + 1, none⟩ (.int .i64 x)) base B V l (fun k => if k = c then x else d k) := by
  obtain ⟨cs, hb', hs, h0, h1⟩ := h.blk
  refine ⟨⟨_, hb'.set_ (c + 1) (.int .i64 x), by simpa using hs, by rw [Array.getElem?_setIfInBounds, if_neg (by omega)]; exact h0, fun k hk => ?_⟩, ?_⟩
  · rw [Array.getElem?_setIfInBounds]
    by_cases e : k = c
    · subst e; simp [hs, hk]
    · rw [if_neg (by omega), if_neg e]; exact h1 k hk
  · have := h.ne_
    exact own_keep (row := some B) h.own ⟨rfl, rfl, rfl, by simp, fun k _ hk => Below.heap_setCell _ _ _ _ (fun e => hk (by rw [e]))⟩ (fun g hg e => this (by rw [hg, e]))
end

set_option maxRecDepth 100000 in
set_option maxHeartbeats 400000 in
theorem of_any (base B : Nat) (V : Value) (l : List Req) (d : Nat → Int) (x : Int) (w : World) (hp : PoolAt w base B V l d) (hm : l.length ≤ 1000000000) :
    Calls Tryd.prog 21 #[.pointer (some ⟨B, 0, none⟩), .int .i64 x] w fun e w' => e = .returned (.int .i64 (idxC x l)) ∧ Below w.heap.size w w' := by
  have hlt := hp.lt
  have hc := hp.head
  have hr : Rd (w.alloc (.cells #[.int .i64 x] 3)) (w.heap.size + 1) 3 V l.length (cellsOf l) := ((Rd.of_own hp.own).below ((Below.refl _ _).alloc (Nat.le_refl _) _)).more (by omega)
  obtain ⟨A, c, rfl⟩ := hp.form
  clear hp
  go_enter Tryd.func21, Tryd.ntmps21
  go_wp2_with (go_at_call 29; refine (indexC_any _ l x _ _ (by simp) (by simp) (by simpa using hr) hm).mono ?_; rintro e w' ⟨rfl, hb'⟩)
  go_ret
  exact ⟨rfl, ((Below.refl _ _).alloc (Nat.le_refl _) _).trans (hb'.mono (by simp))⟩

set_option maxRecDepth 100000 in
set_option maxHeartbeats 400000 in
theorem gone_any (base B : Nat) (V : Value) (l : List Req) (d : Nat → Int) (i : Nat) (w : World) (hp : PoolAt w base B V l d) (hi : i < l.length) (hm : l.length ≤ 1000000000) (hb : base ≤ w.heap.size) :
    Calls Tryd.prog 22 #[.pointer (some ⟨B, 0, none⟩), .int .i64 i] w fun e w' => ∃ g cap, e = .returned (.tuple #[]) ∧ w.heap.size ≤ g ∧ PoolAt w' base B (.slice (some ⟨g, 0, none⟩) (l.length - 1) cap) (l.eraseIdx i) d ∧ Chg (fun k => k = B) w w' := by
  have hlt := hp.lt
  have hc := hp.head
  have hf := hp.free 0
  have hr := Rd.of_own hp.own
  obtain ⟨A, c, rfl⟩ := hp.form
  have HP := Lib.hid hp
  clear hp
  go_enter Tryd.func22, Tryd.ntmps22
  go_wp2_with fail
  refine (clone_any _ l _ (by omega) hm hr).mono ?_
  rintro e w1 ⟨g, cap, rfl, hown1, hb1⟩
  obtain ⟨_, _, hwg, hcm⟩ := own_form hown1
  go_wp2_with fail
  refine (delete_any g cap l i _ hi hm (by unfold maxLen at hcm; omega) w.heap.size hown1).mono ?_
  rintro e w2 ⟨rfl, hown2, hg2⟩
  have hC : Chg (fun k => k = B) w w2 := (Chg.of_below hb1).grown hg2 (by intro k hk hlt'; injection hk with hk; omega)
  have hC2 : Chg (fun _ => False) w w2 := (Chg.of_below hb1).grown hg2 (by intro k hk hlt'; injection hk with hk; omega)
  have hc2 := hC2.cell (p := ⟨B, 0, none⟩) hc id
  have hf2 : w2.frozen? ⟨B, 0, none⟩ = false := (World.frozen?_of_block (hC2.block B hlt id)).trans hf
  go_wp2
  go_end0
  have hle : (l.eraseIdx i).length = l.length - 1 := List.length_eraseIdx_of_lt hi
  refine ⟨g, cap, rfl, hwg, ?_, hC.setCell (fun _ => rfl) _⟩
  exact HP.out.put hC2 id (by rw [hle]; exact hown2) hb (by simp [Value.ownBlock]; omega)

end Go.Proofs.YtamlfapdifocoaaDoor
