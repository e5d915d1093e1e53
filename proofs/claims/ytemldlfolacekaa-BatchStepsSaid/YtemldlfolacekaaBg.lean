/- New, Len, Take. -/
import Derived.Test.YtemldlfolacekaaBe
namespace Go.Proofs.Ytemldlfolacekaa
open Go.RowKit Go.Shelf

/-- an empty pool's cells -/
def pz : Array Value := (Value.slice none 0 0 :: List.replicate 64 (Value.int .i64 0)).toArray
theorem pz_size : pz.size = 65 := by simp [pz]
theorem pz_zero : pz[0]? = some (.slice none 0 0) := by simp [pz]
theorem pz_succ (c : Nat) (hc : c < 64) : pz[c + 1]? = some (.int .i64 0) := by
  unfold pz
  rw [List.getElem?_toArray, List.getElem?_cons_succ, List.getElem?_replicate, if_pos hc]
theorem zero55 (w : World) : (zeroValue 55).run Try.prog w = .ok (.agg pz) w := by kernel_rfl

set_option maxHeartbeats 400000 in
theorem new_any (w : World) :
    Calls Try.prog 7 #[] w fun e w' => e = .returned (.pointer (some ⟨w.heap.size, 0, none⟩)) ∧ PoolAt w' w.heap.size w.heap.size (.slice none 0 0) [] (fun _ => 0) ∧ Below w.heap.size w w' := by
  have hz := zero55
  go_enter Try.func7, Try.ntmps7
  go_wp2
  go_ret
  exact ⟨rfl, ⟨⟨_, Blk.new _ _ _, pz_size, pz_zero, pz_succ⟩, ⟨by simp [cellsOf], .inl ⟨rfl, rfl⟩⟩⟩, (Below.refl _ _).alloc (Nat.le_refl _) _⟩

set_option maxHeartbeats 400000 in
theorem len_any (base B : Nat) (V : Value) (l : List Req) (d : Nat → Int) (w : World) (hp : PoolAt w base B V l d) :
    Calls Try.prog 12 #[.pointer (some ⟨B, 0, none⟩)] w fun e w' => e = .returned (.int .i64 l.length) ∧ w = w' := by
  have hlt := hp.lt
  have hc := hp.head
  obtain ⟨A, c, rfl⟩ := hp.form
  clear hp
  go_enter Try.func12, Try.ntmps12
  go_wp2
  go_ret
  exact ⟨rfl, rfl⟩

set_option maxHeartbeats 400000 in
theorem len_nil (w : World) : Calls Try.prog 12 #[.pointer none] w fun e w' => e = .returned (.int .i64 0) ∧ w = w' := by
  go_enter Try.func12, Try.ntmps12
  go_wp2
  go_ret
  exact ⟨rfl, rfl⟩

def takeFrom : List Req → Nat → Nat → List Req
  | [], _, _ => []
  | r :: l, k, s => if k = 4 ∨ 9000 < s + r.t.size then [] else r :: takeFrom l (k + 1) (s + r.t.size)
def takeS (l : List Req) : List Req := takeFrom l 0 0
def szOf : List Req → Nat
  | [] => 0
  | r :: l => r.t.size + szOf l
theorem szOf_append (a b : List Req) : szOf (a ++ b) = szOf a + szOf b := by
  induction a with
  | nil => simp [szOf]
  | cons x a ih => simp [szOf, ih]; omega
theorem szOf_succ (l : List Req) (k : Nat) (hk : k < l.length) : szOf (l.take (k + 1)) = szOf (l.take k) + l[k].t.size := by
  rw [List.take_succ_eq_append_getElem hk, szOf_append]; simp [szOf]
theorem cells_snoc (l : List Req) (k : Nat) (hk : k < l.length) : cellsOf (l.take (k + 1)) = cellsOf (l.take k) ++ Req.cells l[k] := by
  rw [List.take_succ_eq_append_getElem hk, cellsOf_append]; simp [cellsOf]
theorem take_stop (l : List Req) (k s : Nat) (hk : k < l.length) (h : k = 4 ∨ 9000 < s + l[k].t.size) : takeFrom (l.drop k) k s = [] := by
  rw [List.drop_eq_getElem_cons hk, takeFrom, if_pos h]
theorem take_more (l : List Req) (k s : Nat) (hk : k < l.length) (h : ¬ (k = 4 ∨ 9000 < s + l[k].t.size)) : l.take k ++ takeFrom (l.drop k) k s = l.take (k + 1) ++ takeFrom (l.drop (k + 1)) (k + 1) (s + l[k].t.size) := by
  rw [List.drop_eq_getElem_cons hk, takeFrom, if_neg h, List.take_succ_eq_append_getElem hk, List.append_assoc]; rfl

set_option maxHeartbeats 400000 in
theorem take_nil (w : World) : Calls Try.prog 11 #[.pointer none] w fun e w' => e = .returned (.slice none 0 0) ∧ w = w' := by
  go_enter Try.func11, Try.ntmps11
  go_wp2
  go_ret
  exact ⟨rfl, rfl⟩

set_option maxHeartbeats 800000 in
theorem take_any (base B : Nat) (V : Value) (l : List Req) (d : Nat → Int) (w : World) (hp : PoolAt w base B V l d) (hm : l.length ≤ 1000000) (hs : ∀ r ∈ l, r.t.size ≤ 4000) :
    Calls Try.prog 11 #[.pointer (some ⟨B, 0, none⟩)] w fun e w' => ∃ v, e = .returned v ∧ w'.ownsRow w.heap.size 28 3 v (takeS l).length (cellsOf (takeS l)) ∧ Below w.heap.size w w' := by
  obtain ⟨i0, hi0, hz0, hz1, hz2⟩ := info_parts req_info
  have hlt := hp.lt
  have hc := hp.head
  have HO := Lib.hid hp.own
  obtain ⟨A, c, rfl⟩ := hp.form
  clear hp
  go_enter Try.func11, Try.ntmps11
  go_wp2
  go_loopw [3, 4, 14] (fun v s i wr => ∃ k : Nat, k ≤ l.length ∧ k ≤ 4 ∧ i = .int .i64 k ∧ s = .int .i64 (szOf (l.take k)) ∧ szOf (l.take k) ≤ 9000 ∧ wr.ownsRow w.heap.size 28 3 v k (cellsOf (l.take k)) ∧ Below w.heap.size w wr ∧ Hid (takeS l = l.take k ++ takeFrom (l.drop k) k (szOf (l.take k)))) (fun _ _ i _ => l.length - (intOf i).toNat)
  case atStart => exact ⟨0, Nat.zero_le _, by omega, rfl, rfl, by simp [szOf], by simpa [cellsOf] using World.ownsRow_nil w w.heap.size 28 3, Below.refl _ _, by simp [Hid, takeS, szOf]⟩
  case round =>
    obtain ⟨k, hk, hk4, rfl, rfl, hsz, hown, hbw, ht⟩ := hrel
    by_cases hlt' : k < l.length
    · obtain ⟨g, c', hV, hg, hx0, hx1, hx2⟩ := own_get HO.out hlt'
      injection hV with hA _ hcc
      subst hA
      clear hcc
      have y0 := (hbw.cell (p := ⟨g, k * 3, none⟩) hg).trans hx0
      have y1 := (hbw.cell (p := ⟨g, k * 3 + 1, none⟩) hg).trans hx1
      have y2 := (hbw.cell (p := ⟨g, k * 3 + 2, none⟩) hg).trans hx2
      have hss := hs l[k] (List.getElem_mem _)
      have hbs := hbw.size
      clear hx0 hx1 hx2
      obtain ⟨A', c2, rfl⟩ := own_shape hown
      by_cases hst : k = 4 ∨ 9000 < szOf (l.take k) + l[k].t.size
      · have hend := take_stop l k _ hlt' hst
        have HE : Hid (takeS l = l.take k) := by rw [Hid, ht.out, hend, List.append_nil]
        clear hend
        have hfin : Below w.heap.size w (wr.alloc (.cells #[.int .i64 l[k].c, .int .i64 l[k].n, .string l[k].t] 28)) := hbw.alloc hbs _
        have hfo : Hid ((wr.alloc (.cells #[.int .i64 l[k].c, .int .i64 l[k].n, .string l[k].t] 28)).ownsRow w.heap.size 28 3 (.slice A' k c2) k (cellsOf (l.take k))) := hown.alloc _
        have hl' : Hid ((l.take k).length = k) := by rw [Hid, List.length_take]; omega
        rcases hst with hst | hst
        · subst hst
          clear hown
          go_wp2
          go_ret
          exact ⟨_, rfl, by rw [HE.out, hl'.out]; exact hfo.out, hfin⟩
        · by_cases h4 : k = 4
          · subst h4
            clear hown
            go_wp2
            go_ret
            exact ⟨_, rfl, by rw [HE.out, hl'.out]; exact hfo.out, hfin⟩
          · have h4' : ((k : Int) == 4) = false := by simp; omega
            clear hown
            go_wp2
            go_ret
            exact ⟨_, rfl, by rw [HE.out, hl'.out]; exact hfo.out, hfin⟩
      · have hmore := Lib.hid (take_more l k (szOf (l.take k)) hlt' hst)
        have h4 : ((k : Int) == 4) = false := by simp; omega
        have h9 : szOf (l.take k) + l[k].t.size ≤ 9000 := by omega
        have hk3 : k < 4 := by omega
        have hone : Hid (∀ u ∈ Req.cells l[k], u.oneCell' = true) := by intro u hu; simp [Req.cells] at hu; rcases hu with rfl | rfl | rfl <;> rfl
        have HO2 : Hid (∀ o o', ((wr.alloc o).alloc o').ownsRow w.heap.size 28 3 (.slice A' k c2) k (cellsOf (l.take k))) := fun o o' => (hown.alloc o).alloc o'
        have hown' := Lib.hid hown
        clear hown hst
        go_wp2_with (at_builtin; go_must (refine wpList_append_lies _ rfl (.tmp 30) (.tmp 32) _ rfl w.heap.size 28 i0 _ 3 32 Try.underlying26 hi0 hz0 hz1 hz2 rfl (by omega) (.slice A' k c2) k (cellsOf (l.take k)) rfl (HO2.out _ _) ⟨wr.heap.size + 1, 0, none⟩ 1 1 (Req.cells l[k]) rfl rfl (news_box (by simp)) hone.out (by omega) (by unfold maxLen; omega) (by omega) (by simp; omega) (wr.heap.size + 2) (by simp) ?_); intro g2 cap2 w2 hown2 hg2 hat2 hlt2)
        have e1 : szOf (l.take (k + 1)) = szOf (l.take k) + l[k].t.size := szOf_succ l k hlt'
        have e2 := cells_snoc l k hlt'
        have hb2 : Below w.heap.size w w2 := ((hbw.alloc hbs _).alloc (by simp; omega) _).grown hg2 (by simp; omega) (fun g' h' => (hown'.out.lt g' h').1)
        go_roundw
        case rel =>
          refine ⟨k + 1, by omega, by omega, by go_num, by rw [e1]; go_num, by omega, by rw [e2]; exact hown2, hb2, ?_⟩
          rw [Hid, ht.out, hmore.out, e1]
        case measure => simp [intOf]; omega
    · have HE : Hid (takeS l = l.take k) := by rw [Hid, ht.out, List.drop_eq_nil_of_le (by omega)]; simp [takeFrom]
      have hl' : Hid ((l.take k).length = k) := by rw [Hid, List.length_take]; omega
      have hfo := Lib.hid hown
      clear hown
      go_wp2
      go_ret
      exact ⟨_, rfl, by rw [HE.out, hl'.out]; exact hfo.out, hbw⟩

end Go.Proofs.Ytemldlfolacekaa
