/- BatchSteps: the pool and the reference's pool in one memory. -/
import Derived.Test.YtemldlfolacekaaSa
import Derived.Test.YtemldlfolacekaaRf
import Derived.Test.YtemldlfolacekaaBo
namespace Go.Proofs.Ytemldlfolacekaa
open Go.RowKit Go.Shelf

theorem own_own_ne {w : World} {base base' : Nat} {e e' : TypeId} {size size' n n' : Nat} {v v' : Value} {xs xs' : List Value} (h : w.ownsRow base e size v n xs) (h' : w.ownsRow base' e' size' v' n' xs') (hne : e ≠ e') :
    ∀ g, v.ownBlock = some g → v'.ownBlock ≠ some g := by
  intro g hg hg'
  rcases h.2 with ⟨rfl, _⟩ | ⟨g1, cap, cur, rfl, _, hh, _⟩
  · simp [Value.ownBlock] at hg
  · have e1 : g1 = g := by simpa [Value.ownBlock] using hg
    subst e1
    exact own_blk_ne h' (hg := hh) (fun e2 => hne e2.symm) hg'

/-- A pool with the requests L and a reference's pool with M, all from block base on; the reference's lies below block top. -/
structure Duo (base top : Nat) (w : World) (B R : Nat) (L : List Req) (d : Nat → Int) (M D : List Req) : Prop where
  hB : base ≤ B
  hR : base ≤ R
  hw : base ≤ w.heap.size
  pool : ∃ V, PoolAt w base B V L d
  ref : ∃ vl vd, RefAt w base R vl vd M D ∧ R < top ∧ (∀ g, vl.ownBlock = some g → g < top) ∧ ∀ g, vd.ownBlock = some g → g < top

section
variable {base top B R : Nat} {w w' W : World} {L L' M M' D D' : List Req} {d d' : Nat → Int}
theorem Duo.below (h : Duo base top w B R L d M D) (hb : Below w.heap.size w w') : Duo base top w' B R L d M D := by
  obtain ⟨V, hp⟩ := h.pool
  obtain ⟨vl, vd, hr, ht⟩ := h.ref
  exact ⟨h.hB, h.hR, Nat.le_trans h.hw hb.size, ⟨V, hp.below hb⟩, ⟨vl, vd, hr.below hb, ht⟩⟩

/-- at its own top -/
theorem Duo.self (h : Duo base top w B R L d M D) : Duo base w.heap.size w B R L d M D := by
  obtain ⟨vl, vd, hr, _⟩ := h.ref
  exact ⟨h.hB, h.hR, h.hw, h.pool, ⟨vl, vd, hr, hr.lt, fun g hg => (hr.ol.lt g hg).2, fun g hg => (hr.od.lt g hg).2⟩⟩

theorem Duo.stepPool (h : Duo base top w B R L d M D) (hb : Below w.heap.size w W) {V : Value} (hp : PoolAt w base B V L d) (ht : PoolTo W w' base B V L' d') :
    Duo base top w' B R L' d' M D ∧ Below base W w' ∧ Since w.heap.size W w' := by
  obtain ⟨vl, vd, hr, htop⟩ := h.ref
  obtain ⟨V', hp', hc, hV⟩ := ht
  have hpW := hp.below hb
  have hrW := hr.below hb
  obtain ⟨cs, hbB, _⟩ := hpW.blk
  have f1 : ¬ (R = B ∨ V.ownBlock = some R) := fun f => by
    rcases f with rfl | f
    · exact Blk.ne_ hbB hrW.blk (by decide) rfl
    · exact own_blk_ne hpW.own hrW.blk (by decide) f
  have f2 : ∀ g, vl.ownBlock = some g → ¬ (g = B ∨ V.ownBlock = some g) := fun g hg f => by
    rcases f with rfl | f
    · exact own_blk_ne hrW.ol hbB (by decide) hg
    · exact own_own_ne hrW.ol hpW.own (by decide) g hg f
  have f3 : ∀ g, vd.ownBlock = some g → ¬ (g = B ∨ V.ownBlock = some g) := fun g hg f => by
    rcases f with rfl | f
    · exact own_blk_ne hrW.od hbB (by decide) hg
    · exact own_own_ne hrW.od hpW.own (by decide) g hg f
  have hbW : base ≤ W.heap.size := Nat.le_trans h.hw hb.size
  refine ⟨⟨h.hB, h.hR, Nat.le_trans hbW hc.size, ⟨V', hp'⟩, ⟨vl, vd, hrW.chg hc f1 f2 f3, htop⟩⟩, hc.to_below (fun i hi f => ?_) hbW, fun k hk hlt => hc.block k hlt (fun f => ?_)⟩
  · have := h.hB
    rcases f with rfl | f
    · omega
    · have := (hp.own.lt i f).1; omega
  · have := hp.lt
    rcases f with rfl | f
    · omega
    · have := (hp.own.lt k f).2; omega

theorem Duo.stepRef (h : Duo base top w B R L d M D) (hb : Below w.heap.size w W) {vl vd : Value} (hr : RefAt w base R vl vd M D) (hR' : R < top) (hl' : ∀ g, vl.ownBlock = some g → g < top) (hd' : ∀ g, vd.ownBlock = some g → g < top) (ht : RefTo W w' base R vl vd M' D') :
    Duo base w'.heap.size w' B R L d M' D' ∧ Below base W w' ∧ Since top W w' := by
  obtain ⟨V, hp⟩ := h.pool
  obtain ⟨vl', vd', hr', hc⟩ := ht
  have hpW := hp.below hb
  have hrW := hr.below hb
  obtain ⟨cs, hbB, _⟩ := hpW.blk
  have f1 : ¬ (B = R ∨ vl.ownBlock = some B ∨ vd.ownBlock = some B) := fun f => by
    rcases f with rfl | f | f
    · exact Blk.ne_ hbB hrW.blk (by decide) rfl
    · exact own_blk_ne hrW.ol hbB (by decide) f
    · exact own_blk_ne hrW.od hbB (by decide) f
  have f2 : ∀ g, V.ownBlock = some g → ¬ (g = R ∨ vl.ownBlock = some g ∨ vd.ownBlock = some g) := fun g hg f => by
    rcases f with rfl | f | f
    · exact own_blk_ne hpW.own hrW.blk (by decide) hg
    · exact own_own_ne hpW.own hrW.ol (by decide) g hg f
    · exact own_own_ne hpW.own hrW.od (by decide) g hg f
  have hbW : base ≤ W.heap.size := Nat.le_trans h.hw hb.size
  refine ⟨⟨h.hB, h.hR, Nat.le_trans hbW hc.size, ⟨V, hpW.chg hc f1 f2⟩, ⟨vl', vd', hr', hr'.lt, fun g hg => (hr'.ol.lt g hg).2, fun g hg => (hr'.od.lt g hg).2⟩⟩, hc.to_below (fun i hi f => ?_) hbW, fun k hk hlt => hc.block k hlt (fun f => ?_)⟩
  · have := h.hR
    rcases f with rfl | f | f
    · omega
    · have := (hr.ol.lt i f).1; omega
    · have := (hr.od.lt i f).1; omega
  · rcases f with rfl | f | f
    · omega
    · have := hl' k f; omega
    · have := hd' k f; omega
end

section
variable {base top B R : Nat} {w W : World} {L M D : List Req} {d : Nat → Int}

theorem add_duo (c n : Int) (t : ByteArray) (h : Duo base top w B R L d M D) (hb : Below w.heap.size w W) (hl : L.length ≤ 24) :
    Calls Try.prog 10 #[.pointer (some ⟨B, 0, none⟩), .agg #[.int .i64 c, .int .i64 n, .string t]] W fun e w' =>
      e = .returned (.tuple #[.bool (addS L d ⟨c, n, t⟩).1, .int .i64 (addS L d ⟨c, n, t⟩).2.1]) ∧ Duo base top w' B R (addS L d ⟨c, n, t⟩).2.2 d M D ∧ Below base W w' ∧ Since w.heap.size W w' := by
  obtain ⟨V, hp⟩ := h.pool
  exact (add_any base B V L d ⟨c, n, t⟩ W (hp.below hb) hl (Nat.le_trans h.hw hb.size)).mono fun _ _ ⟨he, ht⟩ => ⟨he, h.stepPool hb hp ht⟩

theorem done_duo (c n : Int) (h : Duo base top w B R L d M D) (hb : Below w.heap.size w W) (hl : L.length ≤ 24) :
    Calls Try.prog 9 #[.pointer (some ⟨B, 0, none⟩), .int .i64 c, .int .i64 n] W fun e w' =>
      e = .returned (.tuple #[.bool (doneS L d c n).1, .int .i64 (doneS L d c n).2.1]) ∧ Duo base top w' B R (doneS L d c n).2.2.1 (doneS L d c n).2.2.2 M D ∧ Below base W w' ∧ Since w.heap.size W w' := by
  obtain ⟨V, hp⟩ := h.pool
  exact (done_any base B V L d c n W (hp.below hb) hl (Nat.le_trans h.hw hb.size)).mono fun _ _ ⟨he, ht⟩ => ⟨he, h.stepPool hb hp ht⟩

theorem forget_duo (c n : Int) (h : Duo base top w B R L d M D) (hb : Below w.heap.size w W) (hl : L.length ≤ 24) (hw : wrongB c n = false) :
    Calls Try.prog 16 #[.pointer (some ⟨B, 0, none⟩), .int .i64 c, .int .i64 n] W fun e w' =>
      e = .returned (.tuple #[.bool (forgetS L c n).1, .int .i64 0]) ∧ Duo base top w' B R (forgetS L c n).2 d M D ∧ Below base W w' ∧ Since w.heap.size W w' := by
  obtain ⟨V, hp⟩ := h.pool
  by_cases hh : hasS L c n = true
  · obtain ⟨k, hf⟩ := has_find hh
    have hat := findC_some hf
    have e : forgetS L c n = (true, L.eraseIdx k) := by rw [forgetS, if_pos hh, hf]
    rw [e]
    exact (forget_yes base B V L d c n W (hp.below hb) (by omega) hw hh k hat.1 hat (Nat.le_trans h.hw hb.size)).mono fun _ _ ⟨he, ht⟩ => ⟨he, h.stepPool hb hp ht⟩
  · have e : forgetS L c n = (false, L) := by rw [forgetS, if_neg hh]
    rw [e]
    exact (forget_no base B V L d c n W (hp.below hb) (by omega) hw (by simpa using hh)).mono fun _ _ ⟨he, ht⟩ => ⟨he, h.stepPool hb hp (PoolTo.of_below (hp.below hb) ht)⟩

theorem radd_duo (c n : Int) (t : ByteArray) (h : Duo base top w B R L d M D) (hb : Below w.heap.size w W) (hl : M.length ≤ 24) (hD : D.length ≤ 1000000) :
    Calls Try.prog 13 #[.pointer (some ⟨R, 0, none⟩), .agg #[.int .i64 c, .int .i64 n, .string t]] W fun e w' =>
      e = .returned (.tuple #[.bool (raddS M D ⟨c, n, t⟩).1, .int .i64 (raddS M D ⟨c, n, t⟩).2.1]) ∧ Duo base w'.heap.size w' B R L d (raddS M D ⟨c, n, t⟩).2.2 D ∧ Below base W w' ∧ Since top W w' := by
  obtain ⟨vl, vd, hr, hR', hl', hd'⟩ := h.ref
  by_cases hw : wrongB c n = true
  · have e : raddS M D ⟨c, n, t⟩ = (false, 1, M) := by rw [raddS, if_pos hw]
    rw [e]
    exact (radd_wrong R ⟨c, n, t⟩ W hw).mono fun _ _ ⟨he, ht⟩ => ⟨he, h.stepRef hb hr hR' hl' hd' (RefTo.of_below (hr.below hb) ht)⟩
  · have hw' : wrongB c n = false := by simpa using hw
    by_cases hs : 4000 < t.size
    · have e : raddS M D ⟨c, n, t⟩ = (false, 2, M) := by rw [raddS, if_neg hw, if_pos hs]
      rw [e]
      exact (radd_long R ⟨c, n, t⟩ W hw' hs).mono fun _ _ ⟨he, ht⟩ => ⟨he, h.stepRef hb hr hR' hl' hd' (RefTo.of_below (hr.below hb) ht)⟩
    · exact (radd_rest base R vl vd M D ⟨c, n, t⟩ W (hr.below hb) hw' (by show t.size ≤ 4000; omega) (by omega) hD (Nat.le_trans h.hw hb.size)).mono fun _ _ ⟨he, ht⟩ => ⟨he, h.stepRef hb hr hR' hl' hd' ht⟩

theorem finish_duo (c n : Int) (h : Duo base top w B R L d M D) (hb : Below w.heap.size w W) (hl : M.length ≤ 24) (hD : D.length ≤ 1000000) (hw : wrongB c n = false) :
    Calls Try.prog 15 #[.pointer (some ⟨R, 0, none⟩), .int .i64 c, .int .i64 n] W fun e w' =>
      e = .returned (.tuple #[.bool (decide ((dropS M c n).length < M.length)), .int .i64 0]) ∧ Duo base w'.heap.size w' B R L d (dropS M c n) (D ++ [nq c n]) ∧ Below base W w' ∧ Since top W w' := by
  obtain ⟨vl, vd, hr, hR', hl', hd'⟩ := h.ref
  exact (finish_ok base R vl vd M D c n W (hr.below hb) hw (by omega) hD (Nat.le_trans h.hw hb.size)).mono fun _ _ ⟨he, ht⟩ => ⟨he, h.stepRef hb hr hR' hl' hd' ht⟩

theorem rforget_duo (c n : Int) (h : Duo base top w B R L d M D) (hb : Below w.heap.size w W) (hl : M.length ≤ 24) (hw : wrongB c n = false) :
    Calls Try.prog 17 #[.pointer (some ⟨R, 0, none⟩), .int .i64 c, .int .i64 n] W fun e w' =>
      e = .returned (.tuple #[.bool (rforgetS M c n).1, .int .i64 0]) ∧ Duo base w'.heap.size w' B R L d (rforgetS M c n).2 D ∧ Below base W w' ∧ Since top W w' := by
  obtain ⟨vl, vd, hr, hR', hl', hd'⟩ := h.ref
  exact (rforget_any base R vl vd M D c n W (hr.below hb) hw (by omega) (Nat.le_trans h.hw hb.size)).mono fun _ _ ⟨he, ht⟩ => ⟨he, h.stepRef hb hr hR' hl' hd' ht⟩

theorem take_duo (h : Duo base top w B R L d M D) (hb : Below w.heap.size w W) (hok : Ok L) :
    Calls Try.prog 11 #[.pointer (some ⟨B, 0, none⟩)] W fun e w' => ∃ v, e = .returned v ∧ w'.ownsRow W.heap.size 28 3 v (takeS L).length (cellsOf (takeS L)) ∧ Below W.heap.size W w' := by
  obtain ⟨V, hp⟩ := h.pool
  exact take_any base B V L d W (hp.below hb) (by have := hok.1; omega) hok.2
theorem rtake_duo (h : Duo base top w B R L d M D) (hb : Below w.heap.size w W) (hok : Ok M) :
    Calls Try.prog 19 #[.pointer (some ⟨R, 0, none⟩)] W fun e w' => ∃ v, e = .returned v ∧ w'.ownsRow W.heap.size 45 3 v (takeS M).length (cellsOf (takeS M)) ∧ Below W.heap.size W w' := by
  obtain ⟨vl, vd, hr, _⟩ := h.ref
  exact rtake_any base R vl vd M D W (hr.below hb) (by have := hok.1; omega) hok.2
theorem has_duo (c n : Int) (h : Duo base top w B R L d M D) (hb : Below w.heap.size w W) (hl : L.length ≤ 24) :
    Calls Try.prog 20 #[.pointer (some ⟨B, 0, none⟩), .int .i64 c, .int .i64 n] W fun e w' => e = .returned (.bool (hasS L c n)) ∧ Below W.heap.size W w' := by
  obtain ⟨V, hp⟩ := h.pool
  exact has_any base B V L d c n W (hp.below hb) (by omega)
theorem last_duo (c : Int) (h : Duo base top w B R L d M D) (hb : Below w.heap.size w W) :
    Calls Try.prog 21 #[.pointer (some ⟨B, 0, none⟩), .int .i64 c] W fun e w' => e = .returned (.int .i64 (if wrongB c 1 = true then 0 else d c.toNat)) ∧ Below W.heap.size W w' := by
  obtain ⟨V, hp⟩ := h.pool
  exact last_any base B V L d c W (hp.below hb)
theorem rlast_duo (c : Int) (h : Duo base top w B R L d M D) (hb : Below w.heap.size w W) (hD : D.length ≤ 1000000) :
    Calls Try.prog 22 #[.pointer (some ⟨R, 0, none⟩), .int .i64 c] W fun e w' => e = .returned (.int .i64 (lastS D c)) ∧ Below W.heap.size W w' := by
  obtain ⟨vl, vd, hr, _⟩ := h.ref
  exact rlast_any base R vl vd M D c W (hr.below hb) hD
theorem len_duo (h : Duo base top w B R L d M D) (hb : Below w.heap.size w W) :
    Calls Try.prog 12 #[.pointer (some ⟨B, 0, none⟩)] W fun e w' => e = .returned (.int .i64 L.length) ∧ W = w' := by
  obtain ⟨V, hp⟩ := h.pool
  exact len_any base B V L d W (hp.below hb)
end

end Go.Proofs.Ytemldlfolacekaa
