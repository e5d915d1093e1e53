/- The chain: Last. -/
import Derived.Test.YtijacbnoemjgcaaDoorPn33
set_option linter.unusedVariables false
set_option linter.unusedSimpArgs false
set_option linter.unnecessarySimpa false
namespace Go.Proofs.YtijacbnoemjgcaaDoor
open Go.RowKit Go.Shelf

set_option maxHeartbeats 1000000 in
set_option maxRecDepth 100000 in
theorem last_nil (w : World) : GivesC 27 #[.pointer none] w cfg0 := by
  unfold GivesC
  go_enter Tryd.func27, Tryd.ntmps27
  go_wp2_with fail
  refine bodyPost_ret (v := cfg0.val (.slice none 0 0)) (by simp [results, Tryd.results27, go_sem, Cfg.val, cfg0]) rfl ?_
  exact ⟨_, rfl, World.ownsRow_nil _ _ _ _, (Below.refl _ _).alloc (Nat.le_refl _) _⟩

set_option maxHeartbeats 1000000 in
set_option maxRecDepth 100000 in
theorem lastc_any (base h : Nat) (v : Value) (ps : List CfgV) (m : Nat) (p : CfgV) (w : World) (hp : ChnP base w h v ps) (hl : ps.length = m + 1) (hm : ps[m]? = some p) (h41 : m ≤ 1000) : GivesC 27 #[.pointer (some ⟨h, 0, none⟩)] w p.1 := by
  have hg4 := (check_bounds (hp.ok _ (List.mem_of_getElem? hm))).2.2.1
  have hpl := place hp
  have HP := Lib.hid hpl
  clear hp hpl
  unfold GivesC
  go_enter Tryd.func27, Tryd.ntmps27
  go_wp2_with fail
  generalize w.alloc (.cells #[.int .i64 0, .slice none 0 0, .int .i64 0, .int .i64 0, .int .i64 0, .int .i64 0] 49) = W at *
  refine (last_any base h v ps m p W HP.out.1 hl hm h41).mono ?_
  rintro e w1 ⟨rfl, hb⟩
  have HP1 := Lib.hid (HP.out.1.below hb)
  have HZ1 := Lib.hid (HP.out.2.1.below hb HP.out.2.1.lt)
  have HB1 := Lib.hid (HP.out.2.2.trans (hb.mono HP.out.2.2.size))
  clear hb HP
  unfold Cfg.val
  go_wp2_with fail
  refine (own_any p.1 p.2 w1 w1.heap.size (Nat.le_refl _) (Rd.of_own (HP1.out.own p (List.mem_of_getElem? hm))) (by omega)).mono ?_
  rintro e w2 ⟨s', rfl, hown, hb⟩
  obtain ⟨As, cs, rfl⟩ := own_shape hown
  have hz := HZ1.out.below hb HZ1.out.lt
  have HB2 := Lib.hid (HB1.out.trans (hb.mono HB1.out.size))
  have hsz : w.heap.size ≤ w1.heap.size := HB1.out.size
  obtain ⟨z0, z1, z2, z3, z4, z5⟩ := keep6 hz (Below.refl _ _)
  have f0 := hz.frozen 0
  have f1 := hz.frozen 1
  have f2 := hz.frozen 2
  have f3 := hz.frozen 3
  have f4 := hz.frozen 4
  have f5 := hz.frozen 5
  have HZ := Lib.hid hz
  have HO := Lib.hid hown
  clear hz hown hb
  unfold Cfg.val
  go_wp2_with fail
  refine bodyPost_ret (v := p.1.val (.slice As p.1.gs.length cs)) (by simp [results, Tryd.results27, go_sem, z0, z1, z2, z3, z4, z5, Cfg.val]) rfl ?_
  exact ⟨_, rfl, put6 HB2.out HO.out hsz _ HZ.out (Nat.le_refl _) _ (((((((Chg.refl (fun i => i = w.heap.size) w2).setCell (fun _ => rfl) _).setCell (fun _ => rfl) _).setCell (fun _ => rfl) _).setCell (fun _ => rfl) _).setCell (fun _ => rfl) _).setCell (fun _ => rfl) _)⟩

theorem lastcfg_any (base h : Nat) (cs : List Cfg) (w : World) (hp : Chn base w h cs) (h41 : cs.length ≤ 1000) :
    GivesC 27 #[.pointer (some ⟨h, 0, none⟩)] w (cs.getLastD cfg0) := by
  obtain ⟨v, ps, hp, rfl⟩ := hp
  rw [List.length_map] at h41
  have hpos := hp.pos
  obtain ⟨m, hm⟩ : ∃ m, ps.length = m + 1 := ⟨ps.length - 1, by omega⟩
  have hk : m < ps.length := by omega
  have := lastc_any base h v ps m ps[m] w hp hm (List.getElem?_eq_getElem hk) (by omega)
  have e : (ps.map (·.1)).getLastD cfg0 = ps[m].1 := by
    rw [List.getLastD_eq_getLast?, List.getLast?_eq_getElem?, List.length_map, hm, Nat.add_sub_cancel, List.getElem?_map, List.getElem?_eq_getElem hk]; rfl
  rw [e]; exact this

end Go.Proofs.YtijacbnoemjgcaaDoor
