/- Two moots side by side: what one's Do writes leaves the other one alone. -/
import Derived.Test.YtijacbnoemjgcaaGreatDoorPb30
import Derived.Test.YtijacbnoemjgcaaGreatDoorPb33
set_option linter.unusedVariables false
set_option linter.unusedSimpArgs false
set_option linter.unnecessarySimpa false
namespace Go.Proofs.YtijacbnoemjgcaaGreatDoor
open Go.RowKit Go.Shelf

theorem own_blk {w : World} {base size n : Nat} {e : TypeId} {v : Value} {xs : List Value} (h : w.ownsRow base e size v n xs) {g : Nat} (hv : v.ownBlock = some g) : ∃ cs, Blk w g e cs := by
  rcases h.2 with ⟨rfl, _⟩ | ⟨g', cap, cur, rfl, _, hh, _⟩
  · simp [Value.ownBlock] at hv
  · have : g' = g := by simpa [Value.ownBlock] using hv
    subst this
    exact ⟨_, hh⟩
theorem own_own_ne {w : World} {base size n base' size' n' : Nat} {e e' : TypeId} {v v' : Value} {xs xs' : List Value} (h : w.ownsRow base e size v n xs) (h' : w.ownsRow base' e' size' v' n' xs') (hne : e ≠ e') {g : Nat} (hv : v.ownBlock = some g) : v'.ownBlock ≠ some g := fun hv' => by
  obtain ⟨cs, hb⟩ := own_blk h' hv'
  exact own_blk_ne h hb hne hv

/-- The blocks of two moots differ. -/
structure Sep (m h : Nat) (v tv : Value) (n h' : Nat) (v' tv' : Value) : Prop where
  m : m ≠ n
  h : h ≠ h'
  v : ∀ g, v.ownBlock = some g → v'.ownBlock ≠ some g
  t : ∀ g, tv.ownBlock = some g → tv'.ownBlock ≠ some g
section
variable {base base' : Nat} {w w2 : World} {m h n h' : Nat} {v tv v' tv' : Value} {ps ps' : List CfgV} {tk tk' : List Cmd} {cl cl' : Cls}
theorem Sep.turn (s : Sep m h v tv n h' v' tv') : Sep n h' v' tv' m h v tv := ⟨fun e => s.m e.symm, fun e => s.h e.symm, fun g hg e => s.v g e hg, fun g hg e => s.t g e hg⟩
theorem MtAt.apart (k : MtAt base' w n h' v' tv' ps' tk' cl') (p : MtAt base w m h v tv ps tk cl) (s : Sep m h v tv n h' v' tv') (hch : Chg (MFoot m h v tv) w w2) : MtAt base' w2 n h' v' tv' ps' tk' cl' := by
  refine ⟨⟨k.mp.box.chg hch ?_, hch.owns k.mp.row ?_, k.mp.hm, k.mp.hh⟩, ⟨k.ch.box.chg hch ?_, hch.owns k.ch.row ?_, fun q hq => hch.owns (k.ch.own q hq) ?_, k.ch.ok, k.ch.pos⟩⟩
  · rintro (e | e | e | e)
    · exact s.m e.symm
    · exact Blk.ne_ k.mp.box p.ch.box (by decide) e
    · exact own_blk_ne p.ch.row k.mp.box (by decide) e
    · exact own_blk_ne p.mp.row k.mp.box (by decide) e
  · rintro g hg (e | e | e | e)
    · subst e; exact own_blk_ne k.mp.row p.mp.box (by decide) hg
    · subst e; exact own_blk_ne k.mp.row p.ch.box (by decide) hg
    · exact own_own_ne k.mp.row p.ch.row (by decide) hg e
    · exact s.t g e hg
  · rintro (e | e | e | e)
    · exact Blk.ne_ k.ch.box p.mp.box (by decide) e
    · exact s.h e.symm
    · exact own_blk_ne p.ch.row k.ch.box (by decide) e
    · exact own_blk_ne p.mp.row k.ch.box (by decide) e
  · rintro g hg (e | e | e | e)
    · subst e; exact own_blk_ne k.ch.row p.mp.box (by decide) hg
    · subst e; exact own_blk_ne k.ch.row p.ch.box (by decide) hg
    · exact s.v g e hg
    · exact own_own_ne k.ch.row p.mp.row (by decide) hg e
  · rintro g hg (e | e | e | e)
    · subst e; exact own_blk_ne (k.ch.own q hq) p.mp.box (by decide) hg
    · subst e; exact own_blk_ne (k.ch.own q hq) p.ch.box (by decide) hg
    · exact own_own_ne (k.ch.own q hq) p.ch.row (by decide) hg e
    · exact own_own_ne (k.ch.own q hq) p.mp.row (by decide) hg e
theorem MtAt.low (p : MtAt base w m h v tv ps tk cl) : ∀ i, i < base → ¬ MFoot m h v tv i := by
  rintro i hi (rfl | rfl | e | e)
  · have := p.mp.hm; omega
  · have := p.mp.hh; omega
  · have := (p.ch.row.lt i e).1; omega
  · have := (p.mp.row.lt i e).1; omega
theorem MtAt.blk {g : Nat} {t : TypeId} {cs : Array Value} (p : MtAt base w m h v tv ps tk cl) (hch : Chg (MFoot m h v tv) w w2) (hb : Blk w g t cs) (h1 : t ≠ 63) (h2 : t ≠ 105) (h3 : t ≠ 46) (h4 : t ≠ 38) : Blk w2 g t cs :=
  hb.chg hch (by
    rintro (e | e | e | e)
    · exact Blk.ne_ hb p.mp.box h1 e
    · exact Blk.ne_ hb p.ch.box h2 e
    · exact own_blk_ne p.ch.row hb (fun e => h3 e.symm) e
    · exact own_blk_ne p.mp.row hb (fun e => h4 e.symm) e)
theorem MtAt.moot {cs : List Cfg} (p : MtAt base w m h v tv ps tk cl) (hps : ps.map (·.1) = cs) : Moot base w m cs tk cl := ⟨h, tv, p.mp, v, ps, p.ch, hps⟩
end

/-- Two moots that hold the same. -/
def Two (w : World) (base : Nat) (m n : Nat) (s : Mt) (wr : World) : Prop :=
  ∃ h v tv ps h' v' tv' ps', MtAt w.heap.size wr m h v tv ps s.tk s.cl ∧ ps.map (·.1) = s.cs ∧ MtAt base wr n h' v' tv' ps' s.tk s.cl ∧ ps'.map (·.1) = s.cs ∧ Sep m h v tv n h' v' tv' ∧ MtOk s ∧ Below w.heap.size w wr ∧ w.heap.size ≤ base
theorem Two.more {w wr w2 : World} {base m n : Nat} {s : Mt} (h : Two w base m n s wr) (hb : Below wr.heap.size wr w2) : Two w base m n s w2 := by
  obtain ⟨h, v, tv, ps, h', v', tv', ps', p, e, p', e', sp, ok, b, hle⟩ := h
  exact ⟨h, v, tv, ps, h', v', tv', ps', p.below hb, e, p'.below hb, e', sp, ok, b.trans (hb.mono b.size), hle⟩
/-- What is loaded lies behind all. -/
theorem two_start {w w1 w2 : World} {b m n : Nat} {s : Mt} (hp : Moot w.heap.size w1 m s.cs s.tk s.cl) (ok : MtOk s) (hb1 : Below w.heap.size w w1) (hb : w1.heap.size ≤ b) (hn : Moot b w2 n s.cs s.tk s.cl) (hb2 : Below w1.heap.size w1 w2) : Two w b m n s w2 := by
  obtain ⟨h, tv, mp, v, ps, ch, e⟩ := hp
  obtain ⟨h', tv', mp', v', ps', ch', e'⟩ := hn
  refine ⟨h, v, tv, ps, h', v', tv', ps', ⟨mp.below hb2, ch.below hb2⟩, e, ⟨mp', ch'⟩, e', ⟨?_, ?_, fun g hg hg' => ?_, fun g hg hg' => ?_⟩, ok, hb1.trans (hb2.mono hb1.size), Nat.le_trans hb1.size hb⟩
  · have := mp.box.lt; have := mp'.hm; omega
  · have := ch.box.lt; have := mp'.hh; omega
  · have := (ch.row.lt g hg).2; have := (ch'.row.lt g hg').1; omega
  · have := (mp.row.lt g hg).2; have := (mp'.row.lt g hg').1; omega
theorem Sep.lies {w : World} {m h n h' : Nat} {v tv v' tv' v2 tv2 : Value} {base' : Nat} {ps' : List CfgV} {tk' : List Cmd} {cl' : Cls} (s : Sep m h v tv n h' v' tv') (k : MtAt base' w n h' v' tv' ps' tk' cl')
    (hv : ∀ g, v2.ownBlock = some g → v.ownBlock = some g ∨ w.heap.size ≤ g) (ht : ∀ g, tv2.ownBlock = some g → tv.ownBlock = some g ∨ w.heap.size ≤ g) : Sep m h v2 tv2 n h' v' tv' := by
  refine ⟨s.m, s.h, fun g hg hg' => ?_, fun g hg hg' => ?_⟩
  · rcases hv g hg with e | e
    · exact s.v g e hg'
    · have := (k.ch.row.lt g hg').2; omega
  · rcases ht g hg with e | e
    · exact s.t g e hg'
    · have := (k.mp.row.lt g hg').2; omega
/-- Between the two Do's. -/
def Mid (w : World) (base : Nat) (m n : Nat) (s s2 : Mt) (wr : World) : Prop :=
  ∃ h v tv ps h' v' tv' ps', MtAt w.heap.size wr m h v tv ps s2.tk s2.cl ∧ ps.map (·.1) = s2.cs ∧ MtAt base wr n h' v' tv' ps' s.tk s.cl ∧ ps'.map (·.1) = s.cs ∧ Sep m h v tv n h' v' tv' ∧ MtOk s2 ∧ Below w.heap.size w wr ∧ w.heap.size ≤ base
def Kept (wr w' : World) : Prop := ∀ g t cs, Blk wr g t cs → t ≠ 63 → t ≠ 105 → t ≠ 46 → t ≠ 38 → Blk w' g t cs
theorem do_first {w wr : World} {base m n : Nat} {s : Mt} (c k : Int) (x : Cmd) (ht : Two w base m n s wr) :
    Calls Tryz.prog 11 #[.pointer (some ⟨m, 0, none⟩), .int .i64 c, .int .i64 k, .agg #[.int .i64 x.kind, .int .i64 x.group, .int .i64 x.shard]] wr fun e w' =>
      e = .returned (.tuple #[.int .i64 (mdS s c k x).1.1, .bool (mdS s c k x).1.2.1, .int .i64 (mdS s c k x).1.2.2]) ∧ Mid w base m n s (mdS s c k x).2 w' ∧ Kept wr w' := by
  obtain ⟨h, v, tv, ps, h', v', tv', ps', p, e, p', e', sp, ok, b, hle⟩ := ht
  refine (mdo_fine _ m h v tv ps s c k x wr p e ok.l41 (by have h1 := ok.len; have h2 := ok.l41; omega)).mono ?_
  rintro e w' ⟨v2, tv2, ps2, rfl, q, e2, hch, hv, ht⟩
  exact ⟨rfl, ⟨h, v2, tv2, ps2, h', v', tv', ps', q, e2, p'.apart p sp hch, e', sp.lies p' hv ht, md_ok ok c k x, b.trans (hch.to_below p.low b.size), hle⟩, fun g t cs hb h1 h2 h3 h4 => p.blk hch hb h1 h2 h3 h4⟩
theorem do_second {w wr : World} {base m n : Nat} {s : Mt} (c k : Int) (x : Cmd) (ht : Mid w base m n s (mdS s c k x).2 wr) (ok : MtOk s) :
    Calls Tryz.prog 11 #[.pointer (some ⟨n, 0, none⟩), .int .i64 c, .int .i64 k, .agg #[.int .i64 x.kind, .int .i64 x.group, .int .i64 x.shard]] wr fun e w' =>
      e = .returned (.tuple #[.int .i64 (mdS s c k x).1.1, .bool (mdS s c k x).1.2.1, .int .i64 (mdS s c k x).1.2.2]) ∧ Two w base m n (mdS s c k x).2 w' ∧ Kept wr w' := by
  obtain ⟨h, v, tv, ps, h', v', tv', ps', p, e, p', e', sp, ok2, b, hle⟩ := ht
  refine (mdo_fine _ n h' v' tv' ps' s c k x wr p' e' ok.l41 (by have h1 := ok.len; have h2 := ok.l41; omega)).mono ?_
  rintro e w' ⟨v2, tv2, ps2, rfl, q, e2, hch, hv, ht⟩
  exact ⟨rfl, ⟨h, v, tv, ps, h', v2, tv2, ps2, p.apart p' sp.turn hch, e, q, e2, (sp.turn.lies p hv ht).turn, ok2, b.trans (hch.to_below (fun i hi => p'.low i (by omega)) b.size), hle⟩, fun g t cs hb h1 h2 h3 h4 => p'.blk hch hb h1 h2 h3 h4⟩
theorem Two.left {w wr : World} {base m n : Nat} {s : Mt} (h : Two w base m n s wr) : Moot w.heap.size wr m s.cs s.tk s.cl := by
  obtain ⟨h, v, tv, ps, h', v', tv', ps', p, e, p', e', sp, ok, b, hle⟩ := h
  exact p.moot e
theorem Two.right {w wr : World} {base m n : Nat} {s : Mt} (h : Two w base m n s wr) : Moot base wr n s.cs s.tk s.cl := by
  obtain ⟨h, v, tv, ps, h', v', tv', ps', p, e, p', e', sp, ok, b, hle⟩ := h
  exact p'.moot e'
theorem Two.bel {w wr : World} {base m n : Nat} {s : Mt} (h : Two w base m n s wr) : Below w.heap.size w wr := by
  obtain ⟨h, v, tv, ps, h', v', tv', ps', p, e, p', e', sp, ok, b, hle⟩ := h
  exact b
theorem Two.ok {w wr : World} {base m n : Nat} {s : Mt} (h : Two w base m n s wr) : MtOk s := by
  obtain ⟨h, v, tv, ps, h', v', tv', ps', p, e, p', e', sp, ok, b, hle⟩ := h
  exact ok

end Go.Proofs.YtijacbnoemjgcaaGreatDoor
