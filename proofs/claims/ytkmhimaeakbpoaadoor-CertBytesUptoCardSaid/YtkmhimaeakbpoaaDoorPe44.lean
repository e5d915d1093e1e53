/- The document's answer: the list that a text is. -/
import Derived.Test.YtkmhimaeakbpoaaDoorPe43
import Derived.Test.YtkmhimaeakbpoaaDoorPe17
set_option linter.unusedVariables false
set_option linter.unusedSimpArgs false
set_option linter.unnecessarySimpa false
namespace Go.Proofs.YtkmhimaeakbpoaaDoor
open Go.RowKit Go.Shelf

def sizeV : Value → Nat
  | .string b => b.size
  | _ => 0
theorem sizeV_is (s : Bs) : sizeV (.string ⟨s.toArray⟩) = s.length := by show s.toArray.size = _; simp

set_option maxHeartbeats 4000000 in
set_option maxRecDepth 100000 in
theorem runpack_any (s : Bs) (hs : s.length ≤ 1000000000000) (w : World) :
    Calls Tryd.prog 44 #[.string ⟨s.toArray⟩] w fun e w' => ∃ v, e = .returned (.tuple #[v, .int .i64 (unpackB s).2]) ∧ w'.ownsRow w.heap.size 9 1 v (unpackB s).1.length (strs (unpackB s).1) ∧ Below w.heap.size w w' := by
  obtain ⟨i0, hi, hz0, hz1, hz2⟩ := info_parts infoS
  go_enter Tryd.func44, Tryd.ntmps44
  go_wp2
  go_loopw [4, 5] (fun out r wr => ∃ (pre : List Bs) (cur : Bs) (A : Option Addr) (c : Nat), out = .slice A pre.length c ∧ r = .string ⟨cur.toArray⟩ ∧ pre.length + cur.length ≤ s.length ∧
    Hid (wr.ownsRow w.heap.size 9 1 (.slice A pre.length c) pre.length (strs pre) ∧ Below w.heap.size w wr ∧ unpackO s = (unpackO cur).map (pre ++ ·))) (fun _ r _ => sizeV r)
  case atStart => exact ⟨[], s, none, 0, rfl, rfl, by simp, World.ownsRow_nil _ _ _ _, Below.refl _ _, by simp⟩
  case round =>
    obtain ⟨pre, cur, A, c, rfl, rfl, hlen, HI⟩ := hrel
    by_cases hz : cur = []
    · subst hz
      have hun : Hid (unpackB s = (pre, 0)) := by unfold Hid unpackB; rw [HI.out.2.2, unpack_nil]; simp
      go_wp2
      go_ret2
      exact ⟨_, by rw [hun.out]; rfl, by rw [hun.out]; exact HI.out.1, HI.out.2.1⟩
    · have hz' : cur.isEmpty = false := by cases cur <;> simp_all
      have HT := Lib.hid (unpack_step cur hz)
      go_wp2_with fail
      refine (rtake_any cur (by omega) _).mono ?_
      rintro e w1 ⟨rfl, hb1⟩
      by_cases hok : (takeB cur).2.2 = 0
      · have hsh := take_shorter cur hok
        have hrow := own_below HI.out.1 hb1
        have hbw := HI.out.2.1.trans (hb1.mono HI.out.2.1.size)
        have HUN : Hid (unpackO s = (unpackO (takeB cur).2.1).map ((pre ++ [(takeB cur).1]) ++ ·)) := by
          unfold Hid
          rw [HI.out.2.2, HT.out, if_pos hok, Option.map_map]
          congr 1
          funext x
          simp
        have hsz := hbw.size
        have hcl : Hid (cur.length = cur.length) := rfl
        clear HI HT
        have hb1' : pre.length + 1 ≤ maxLen := by show _ ≤ 9223372036854775807; omega
        rw [hok]
        generalize hcu : takeB cur = tk at *
        obtain ⟨t, r, e⟩ := tk
        simp only at *
        go_wp2_with (at_builtin; refine wpList_append_own _ rfl _ _ 84 rfl w.heap.size 9 i0 (.string ⟨#[]⟩) 1 16 Tryd.underlying84 hi hz0 hz1 hz2 rfl (by decide) _ _ _ rfl (hrow.alloc _) ⟨w1.heap.size, 0, none⟩ 1 1 [.string ⟨t.toArray⟩] rfl rfl (cell_one_new _ _ _) (by simp [Value.oneCell']) hb1' (by omega) (by simp; omega) ?_; intro v' w2 hown' hgrow _; obtain ⟨g', cap', rfl⟩ := ownsRow_succ hown')
        refine ⟨⟨pre ++ [t], r, some ⟨g', 0, none⟩, cap', by simp, rfl, by simp; omega, by simpa [strs] using hown', ?_, HUN.out⟩, by rw [sizeV_is, sizeV_is]; omega⟩
        exact hbw.trans (((Below.refl w.heap.size w1).alloc hsz _).grown hgrow (by simp; omega) (fun g e => (hrow.lt g e).1))
      · have et := take_err cur hok
        have hun : Hid (unpackB s = ([], 4)) := by unfold Hid unpackB; rw [HI.out.2.2, HT.out, if_neg hok]; rfl
        rw [et]
        go_wp2
        go_ret2
        exact ⟨_, by rw [hun.out]; rfl, by rw [hun.out]; exact World.ownsRow_nil _ _ _ _, HI.out.2.1.trans (hb1.mono HI.out.2.1.size)⟩

end Go.Proofs.YtkmhimaeakbpoaaDoor
