/- Do, with the chain as its configurations alone. -/
import Derived.Test.YtijacbnoemjgcaaDoorPn35
set_option linter.unusedVariables false
set_option linter.unusedSimpArgs false
set_option linter.unnecessarySimpa false
namespace Go.Proofs.YtijacbnoemjgcaaDoor
open Go.RowKit Go.Shelf

/-- Blocks of a chain, from base on. -/
def Mine (base : Nat) (w : World) (i : Nat) : Prop := base ≤ i ∧ ∃ t cs, Blk w i t cs ∧ (t = 78 ∨ t = 49)
theorem do_in (base h : Nat) (cs : List Cfg) (x : Cmd) (w : World) (hp : Chn base w h cs) (hb : base ≤ h) (h41 : cs.length ≤ 41) :
    Calls Tryd.prog 28 #[.pointer (some ⟨h, 0, none⟩), .agg #[.int .i64 x.kind, .int .i64 x.group, .int .i64 x.shard]] w fun e w' =>
      e = .returned (.int .i64 (doS cs x).2) ∧ Chn base w' h (doS cs x).1 ∧ Chg (Mine base w) w w' := by
  obtain ⟨v, ps, hp, rfl⟩ := hp
  rw [List.length_map] at h41
  refine (do_any base h v ps x w hp h41).mono ?_
  rintro e w' ⟨v', ps', rfl, hp', he, hc, _⟩
  refine ⟨rfl, ⟨v', ps', hp', he⟩, hc.mono fun i hi hF => ?_⟩
  rcases hF with rfl | hF
  · exact ⟨hb, _, _, hp.box, .inl rfl⟩
  · refine ⟨(hp.row.lt i hF).1, ?_⟩
    rcases hp.row.2 with ⟨_, h0⟩ | ⟨g', cap', cur', hv', _, hb', _⟩
    · have := hp.pos; omega
    · rw [hv'] at hF
      simp only [Value.ownBlock, Option.some.injEq] at hF
      subst hF
      exact ⟨_, _, hb', .inr rfl⟩
theorem mine_below {base : Nat} {w w' : World} (h : Chg (Mine base w) w w') (hb : base ≤ w.heap.size) : Below base w w' := h.to_below (fun i hi hF => by have := hF.1; omega) hb
theorem Chn.base_le {base h : Nat} {w : World} {cs : List Cfg} (hp : Chn base w h cs) : base ≤ w.heap.size := by
  obtain ⟨v, ps, hp, rfl⟩ := hp
  obtain ⟨g, c, _, hb, hg⟩ := hp.row.form hp.pos
  omega


end Go.Proofs.YtijacbnoemjgcaaDoor
