/- The chain: Get. -/
import Derived.Test.YtijacbnoemjgcaaDoorPt26
import Derived.Test.YtijacbnoemjgcaaDoorPt23
set_option linter.unusedVariables false
set_option linter.unusedSimpArgs false
set_option linter.unnecessarySimpa false
namespace Go.Proofs.YtijacbnoemjgcaaDoor
open Go.RowKit Go.Shelf

def GivesCE (f : Nat) (args : Array Value) (w : World) (r : Cfg × Int) : Prop :=
  Calls Tryd.prog f args w fun e w' => ∃ s', e = .returned (.tuple #[r.1.val s', .int .i64 r.2]) ∧ w'.ownsRow w.heap.size 3 1 s' r.1.gs.length (ints r.1.gs) ∧ Below w.heap.size w w'

set_option maxHeartbeats 1000000 in
set_option maxRecDepth 100000 in
theorem get_none (base h : Nat) (v : Value) (ps : List CfgV) (num : Int) (w : World) (hp : ChnP base w h v ps) (h41 : ps.length ≤ 1000) (hn : num < 0 ∨ (ps.length : Int) ≤ num) :
    GivesCE 25 #[.pointer (some ⟨h, 0, none⟩), .int .i64 num] w (cfg0, 6) := by
  have hpl := place hp
  have HP := Lib.hid hpl
  obtain ⟨g, c, rfl, hb, hg⟩ := hp.row.form hp.pos
  clear hp hpl
  unfold GivesCE
  by_cases hneg : num < 0
  · clear hn
    go_enter Tryd.func25, Tryd.ntmps25
    go_wp2_with fail
    refine bodyPost_ret (v := .tuple #[cfg0.val (.slice none 0 0), .int .i64 6]) (by simp [results, Tryd.results25, go_sem, Cfg.val, cfg0]) rfl ?_
    exact ⟨_, rfl, World.ownsRow_nil _ _ _ _, (Below.refl _ _).alloc (Nat.le_refl _) _⟩
  · have hge : (ps.length : Int) ≤ num := by omega
    have hn0 : 0 ≤ num := by omega
    have b0 : (w.alloc (.cells #[.int .i64 0, .slice none 0 0, .int .i64 0, .int .i64 0, .int .i64 0, .int .i64 0] 49)).cell? ⟨h, 0, none⟩ = some (.slice (some ⟨g, 0, none⟩) ps.length c) := HP.out.1.box.cell 0
    clear hn hneg
    go_enter Tryd.func25, Tryd.ntmps25
    go_wp2_with fail
    refine bodyPost_ret (v := .tuple #[cfg0.val (.slice none 0 0), .int .i64 6]) (by simp [results, Tryd.results25, go_sem, Cfg.val, cfg0]) rfl ?_
    exact ⟨_, rfl, World.ownsRow_nil _ _ _ _, (Below.refl _ _).alloc (Nat.le_refl _) _⟩

set_option maxHeartbeats 1000000 in
set_option maxRecDepth 100000 in
theorem get_some (base h : Nat) (v : Value) (ps : List CfgV) (k : Nat) (p : CfgV) (w : World) (hp : ChnP base w h v ps) (h41 : ps.length ≤ 1000) (hk : ps[k]? = some p) :
    GivesCE 25 #[.pointer (some ⟨h, 0, none⟩), .int .i64 k] w (p.1, 0) := by
  have hg4 := (check_bounds (hp.ok _ (List.mem_of_getElem? hk))).2.2.1
  have hkl : k < ps.length := (List.getElem?_eq_some_iff.1 hk).1
  obtain ⟨cf, sv⟩ := p
  obtain ⟨As, cs, hsv⟩ := own_shape (hp.own _ (List.mem_of_getElem? hk))
  simp only at hsv
  subst hsv
  have hpl := place hp
  have HP := Lib.hid hpl
  clear hp
  have HK := Lib.hid (List.mem_of_getElem? hk)
  obtain ⟨g, c, rfl, hb, hg, q0, q1, q2, q3, q4, q5⟩ := hpl.1.get hk
  have b0 : (w.alloc (.cells #[.int .i64 0, .slice none 0 0, .int .i64 0, .int .i64 0, .int .i64 0, .int .i64 0] 49)).cell? ⟨h, 0, none⟩ = some (.slice (some ⟨g, 0, none⟩) ps.length c) := HP.out.1.box.cell 0
  have hnc : ps.length ≤ c := (own_form hpl.1.row).2.1
  have hk0 : (0 : Int) ≤ (k : Int) := by omega
  have hk1 : (k : Int) < (ps.length : Int) := by omega
  clear hpl hk hg4 hg hb
  have hg4 : cf.gs.length ≤ 4 := (check_bounds (HP.out.1.ok _ HK.out)).2.2.1
  unfold GivesCE
  go_enter Tryd.func25, Tryd.ntmps25
  go_wp2_with fail
  generalize w.alloc (.cells #[.int .i64 0, .slice none 0 0, .int .i64 0, .int .i64 0, .int .i64 0, .int .i64 0] 49) = W at *
  refine (own_any cf (.slice As cf.gs.length cs) W W.heap.size (Nat.le_refl _) (Rd.of_own (HP.out.1.own (cf, .slice As cf.gs.length cs) HK.out)) (by omega)).mono ?_
  rintro e w2 ⟨s', rfl, hown, hb⟩
  obtain ⟨As, cs, rfl⟩ := own_shape hown
  have hz := HP.out.2.1.below hb HP.out.2.1.lt
  have HB2 := Lib.hid (HP.out.2.2.trans (hb.mono HP.out.2.2.size))
  have hsz : w.heap.size ≤ W.heap.size := HP.out.2.2.size
  obtain ⟨z0, z1, z2, z3, z4, z5⟩ := keep6 hz (Below.refl _ _)
  have f0 := hz.frozen 0
  have f1 := hz.frozen 1
  have f2 := hz.frozen 2
  have f3 := hz.frozen 3
  have f4 := hz.frozen 4
  have f5 := hz.frozen 5
  have HZ := Lib.hid hz
  have HO := Lib.hid hown
  clear hz hown hb q0 q1 q2 q3 q4 q5 b0
  unfold Cfg.val
  go_wp2_with fail
  refine bodyPost_ret (v := .tuple #[cf.val (.slice As cf.gs.length cs), .int .i64 0]) (by simp [results, Tryd.results25, go_sem, z0, z1, z2, z3, z4, z5, Cfg.val]) rfl ?_
  exact ⟨_, rfl, put6 HB2.out HO.out hsz _ HZ.out (Nat.le_refl _) _ (((((((Chg.refl (fun i => i = w.heap.size) w2).setCell (fun _ => rfl) _).setCell (fun _ => rfl) _).setCell (fun _ => rfl) _).setCell (fun _ => rfl) _).setCell (fun _ => rfl) _).setCell (fun _ => rfl) _)⟩

theorem get_any (base h : Nat) (cs : List Cfg) (num : Int) (w : World) (hp : Chn base w h cs) (h41 : cs.length ≤ 1000) :
    GivesCE 25 #[.pointer (some ⟨h, 0, none⟩), .int .i64 num] w (getS cs num) := by
  obtain ⟨v, ps, hp, rfl⟩ := hp
  rw [List.length_map] at h41
  unfold getS
  by_cases hn : 0 ≤ num ∧ num < ((ps.map (·.1)).length : Int)
  · rw [if_pos hn]
    obtain ⟨k, rfl⟩ : ∃ k : Nat, num = k := ⟨num.toNat, by omega⟩
    have hk : k < ps.length := by have := hn.2; rw [List.length_map] at this; omega
    have := get_some base h v ps k ps[k] w hp h41 (List.getElem?_eq_getElem hk)
    have e : (ps.map (·.1)).getD (k : Int).toNat cfg0 = ps[k].1 := by
      rw [Int.toNat_natCast, List.getD_eq_getElem?_getD, List.getElem?_map, List.getElem?_eq_getElem hk]; rfl
    rw [e]; exact this
  · rw [if_neg hn]
    rw [List.length_map] at hn
    exact get_none base h v ps num w hp h41 (by omega)


end Go.Proofs.YtijacbnoemjgcaaDoor

namespace Go.Proofs.YtijacbnoemjgcaaDoor

def okB (gs : List Int) (o : Own) : Bool := ascB 0 gs && o.list.all (ownB gs)
theorem okNext : allCfg (fun gs o g => (inS g gs || okB (isort (gs ++ [g])) ((giveS (isort (gs ++ [g])) o).getD o)) && (!inS g gs || gs.length == 1 || okB (offS g gs) ((giveS (offS g gs) o).getD o)) && (!inS g gs || (okB gs (o.put 0 g) && okB gs (o.put 1 g) && okB gs (o.put 2 g) && okB gs (o.put 3 g)))) = true := by decide +kernel

theorem next_is {c : Cfg} {x : Cmd} (h : (nextS c x).2 = 0) : checkB c = true ∧ refusedS c x = 0 ∧ nextS c x = (⟨c.num + 1, nextGs c.gs x, nextOwn c x⟩, 0) := by
  unfold nextS at h ⊢
  by_cases h1 : checkB c = false
  · rw [if_pos h1] at h; simp at h
  · rw [if_neg h1] at h ⊢
    by_cases h2 : refusedS c x ≠ 0
    · rw [if_pos h2] at h; exact absurd h h2
    · rw [if_neg h2]
      exact ⟨by simpa using h1, by simpa using h2, rfl⟩
theorem next_check {c : Cfg} {x : Cmd} (h : (nextS c x).2 = 0) : checkB (nextS c x).1 = true := by
  obtain ⟨hck, hrf, he⟩ := next_is h
  rw [he]
  obtain ⟨hgb, hnum, hcase⟩ := refused_zero hrf
  obtain ⟨n0, n1, _⟩ := check_bounds hck
  have hL := allCfg_at okNext hck hgb
  simp only [Bool.and_eq_true, Bool.or_eq_true, Bool.not_eq_true'] at hL
  obtain ⟨⟨hA, hB⟩, hC⟩ := hL
  have key : okB (nextGs c.gs x) (nextOwn c x) = true := by
    rcases hcase with ⟨h1, hin⟩ | ⟨h1, hin, hl⟩ | ⟨h1, hin, s0, s4⟩
    · have hgs : nextGs c.gs x = isort (c.gs ++ [x.group]) := by unfold nextGs; rw [if_pos h1]
      have how : nextOwn c x = (giveS (nextGs c.gs x) c.o).getD c.o := by unfold nextOwn; rw [if_neg (by omega)]
      rw [how, hgs]
      rw [hin] at hA
      simpa using hA
    · have hgs : nextGs c.gs x = offS x.group c.gs := by unfold nextGs; rw [if_neg (by omega), if_pos h1]
      have how : nextOwn c x = (giveS (nextGs c.gs x) c.o).getD c.o := by unfold nextOwn; rw [if_neg (by omega)]
      rw [how, hgs]
      rw [hin] at hB
      simpa [hl] using hB
    · have hgs : nextGs c.gs x = c.gs := by unfold nextGs; rw [if_neg (by omega), if_neg (by omega)]
      have how : nextOwn c x = c.o.put x.shard.toNat x.group := by unfold nextOwn; rw [if_pos h1]
      rw [how, hgs]
      rw [hin] at hC
      have hC' : ((okB c.gs (c.o.put 0 x.group) = true ∧ okB c.gs (c.o.put 1 x.group) = true) ∧ okB c.gs (c.o.put 2 x.group) = true) ∧ okB c.gs (c.o.put 3 x.group) = true := by simpa using hC
      have h4 : x.shard.toNat = 0 ∨ x.shard.toNat = 1 ∨ x.shard.toNat = 2 ∨ x.shard.toNat = 3 := by omega
      rcases h4 with h | h | h | h <;> rw [h]
      · exact hC'.1.1.1
      · exact hC'.1.1.2
      · exact hC'.1.2
      · exact hC'.2
  unfold okB at key
  simp only [Bool.and_eq_true] at key
  simp only [checkB, Bool.and_eq_true, Bool.not_eq_true', decide_eq_false_iff_not]
  exact ⟨⟨⟨by omega, by omega⟩, key.1⟩, key.2⟩

end Go.Proofs.YtijacbnoemjgcaaDoor
