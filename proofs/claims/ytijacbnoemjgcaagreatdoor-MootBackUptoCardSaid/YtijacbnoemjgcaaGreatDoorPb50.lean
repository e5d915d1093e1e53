/- MootBack: the law's walk. -/
import Derived.Test.YtijacbnoemjgcaaGreatDoorPb34
import Derived.Test.YtijacbnoemjgcaaGreatDoorPb49
import Derived.Test.YtijacbnoemjgcaaGreatDoorPb41
import Derived.Test.YtijacbnoemjgcaaGreatDoorPb27
set_option linter.unusedVariables false
set_option linter.unusedSimpArgs false
set_option linter.unnecessarySimpa false
namespace Go.Proofs.YtijacbnoemjgcaaGreatDoor
open Go.RowKit Go.Shelf

/-- At the head of the first loop. -/
structure LpA (w : World) (mm : Nat) (wr : World) (s : Mt) : Prop where
  hp : Moot w.heap.size wr mm s.cs s.tk s.cl
  ok : MtOk s
  hb : Below w.heap.size w wr

set_option maxHeartbeats 4000000 in
set_option maxRecDepth 100000 in
theorem mback_law (a b : List Stp) (va vb : Value) (w : World) (hl : Lay w) (hra : Rd w w.heap.size 5 va a.length (cellsS a)) (hma : a.length ≤ 1048576) (hrb : Rd w w.heap.size 5 vb b.length (cellsS b)) (hmb : b.length ≤ 1048576) :
    Calls Tryz.prog 4 #[va, vb] w fun e w' => e = .returned (.bool true) ∧ Below w.heap.size w w' := by
  have HR := Lib.hid hra
  have HRB := Lib.hid hrb
  obtain ⟨_, A, cc, rfl, hncc, _⟩ := hra
  obtain ⟨_, A2, cc2, rfl, hncc2, _⟩ := hrb
  by_cases hbig : 60 < a.length
  · have hb2 : (60 : Int) < (a.length : Int) := by omega
    go_enter Tryz.func4, Tryz.ntmps4
    go_wp2_with fail
    refine (mnew_any w).mono ?_
    rintro e w1 ⟨mm, rfl, hp1, hb1⟩
    have HB1 := Lib.hid hb1
    clear hp1 hb1
    go_wp2_with fail
    refine (one_any w1).mono ?_
    rintro e w2 ⟨rfl, hb⟩
    have HB := Lib.hid (HB1.out.trans (hb.mono HB1.out.size))
    clear hb
    go_wp2_with fail
    go_ret
    exact ⟨rfl, HB.out⟩
  by_cases hbigb : 60 < b.length
  · have hb2 : (60 : Int) < (b.length : Int) := by omega
    have hb3 : decide ((60 : Int) < (a.length : Int)) = false := by rw [decide_eq_false_iff_not]; omega
    clear hbig
    go_enter Tryz.func4, Tryz.ntmps4
    go_wp2_with fail
    refine (mnew_any w).mono ?_
    rintro e w1 ⟨mm, rfl, hp1, hb1⟩
    have HB1 := Lib.hid hb1
    clear hp1 hb1
    go_wp2_with fail
    refine (one_any w1).mono ?_
    rintro e w2 ⟨rfl, hb⟩
    have HB := Lib.hid (HB1.out.trans (hb.mono HB1.out.size))
    clear hb
    go_wp2_with fail
    go_ret
    exact ⟨rfl, HB.out⟩
  have hb2 : decide ((60 : Int) < (b.length : Int)) = false := by rw [decide_eq_false_iff_not]; omega
  have hb3 : decide ((60 : Int) < (a.length : Int)) = false := by rw [decide_eq_false_iff_not]; omega
  have hm2 : a.length ≤ 60 := by omega
  have hm3 : b.length ≤ 60 := by omega
  clear hbig hbigb
  go_enter Tryz.func4, Tryz.ntmps4
  go_wp2_with fail
  refine (mnew_any w).mono ?_
  rintro e w1 ⟨mm, rfl, hp1, hb1⟩
  have hstart : Hid (∃ s, LpA w mm w1 s) := ⟨mt0, hp1, mt0_ok, hb1⟩
  clear hp1 hb1
  go_wp2_with fail
  go_loopw [38] (fun i wr => ∃ k : Nat, k ≤ a.length ∧ i = .int .i64 k ∧ Hid (∃ s, LpA w mm wr s)) (fun i _ => a.length - (intOf i).toNat)
  case atStart => exact ⟨0, Nat.zero_le _, rfl, hstart.out⟩
  case round =>
    obtain ⟨k, hk, rfl, hI⟩ := hrel
    obtain ⟨wo, rfl⟩ : ∃ wo : World, wo = wr := ⟨_, rfl⟩
    clear hstart
    obtain ⟨s, hO⟩ := hI.out
    clear hI
    by_cases hlt : k < a.length
    · obtain ⟨g0, off0, c0, hV, hg0, x0, x1, x2, x3, x4⟩ := rd_stp (HR.out.below hO.hb) hlt
      injection hV with hA hB hcc
      subst hA hcc
      clear hB
      generalize a[k] = x at *
      obtain ⟨c, n, x⟩ := x
      simp only at x0 x1 x2 x3 x4
      have hba := (Below.refl wo.heap.size wo).alloc (Nat.le_refl _) (.cells #[.int .i64 c, .int .i64 n, .int .i64 x.kind, .int .i64 x.group, .int .i64 x.shard] 40)
      have htk : s.tk.length ≤ 40 := by have h1 := hO.ok.len; have h2 := hO.ok.l41; omega
      have HMD := Lib.hid (mdo_any w.heap.size mm s c n x _ (hO.hp.below hba) hO.ok.l41 (by omega))
      have HOK2 := Lib.hid (md_ok hO.ok c n x)
      have HBW := Lib.hid (hO.hb.trans (hba.mono hO.hb.size))
      unfold MdPost at HMD
      clear hO hba
      generalize mdS s c n x = r at *
      obtain ⟨⟨ra, rn, re⟩, s'⟩ := r
      simp only at HMD HOK2
      go_wp2_with fail
      refine HMD.out.mono ?_
      rintro e w2 ⟨rfl, hM2, hch2⟩
      have HS2 : Hid (LpA w mm w2 s') := ⟨hM2, HOK2.out, HBW.out.trans (mmine_below hch2 HBW.out.size)⟩
      clear hM2 hch2 HMD HBW x0 x1 x2 x3 x4
      go_wp2_with fail
      exact ⟨⟨k + 1, by omega, by simp, s', HS2.out⟩, by simp [intOf]; omega⟩
    · obtain rfl : k = a.length := by omega
      have HO := Lib.hid hO
      have hlay := hl.later hO.hb
      have hX := mtext_any w.heap.size mm s wo hlay hO.hp hO.ok
      have hlen := (mtxt_parts hO.ok).2.2
      have hback := load_back hO.ok
      have HLD := Lib.hid (fun (w3 : World) (h : Lay w3) => mload_any (mtxt s.tk s.cl) (by omega) w3 h)
      unfold LdPost at HLD
      rw [hback] at HLD
      have HX := Lib.hid hX
      clear hX hback hlen hO
      generalize mtxt s.tk s.cl = tx at *
      simp only at HLD
      go_wp2_with fail
      refine HX.out.mono ?_
      rintro e w3 ⟨rfl, hb3⟩
      have HB3 := Lib.hid hb3
      clear hb3 HX
      go_wp2_with fail
      refine (HLD.out w3 (hlay.later HB3.out)).mono ?_
      rintro e w4 ⟨n, rfl, ⟨bb, hbb, hn⟩, hb4⟩
      have htwo : Hid (∃ s, Two w bb mm n s w4) := ⟨s, two_start (HO.out.hp.below HB3.out) HO.out.ok (HO.out.hb.trans (HB3.out.mono HO.out.hb.size)) hbb hn hb4⟩
      clear hb4 hbb hn HLD HB3 HO hlay
      go_wp2_with fail
      go_loopw [65] (fun i wr => ∃ k : Nat, k ≤ b.length ∧ i = .int .i64 k ∧ Hid (∃ s, Two w bb mm n s wr)) (fun i _ => b.length - (intOf i).toNat)
      case atStart => exact ⟨0, Nat.zero_le _, rfl, htwo.out⟩
      case round =>
        obtain ⟨k, hk, rfl, hI⟩ := hrel
        obtain ⟨wp, rfl⟩ : ∃ wp : World, wp = wr := ⟨_, rfl⟩
        clear htwo
        obtain ⟨s, hT⟩ := hI.out
        clear hI
        by_cases hlt : k < b.length
        · obtain ⟨g0, off0, c0, hV, hg0, x0, x1, x2, x3, x4⟩ := rd_stp (HRB.out.below hT.bel) hlt
          injection hV with hA hB hcc
          subst hA hcc
          clear hB
          generalize b[k] = x at *
          obtain ⟨c, q, x⟩ := x
          simp only at x0 x1 x2 x3 x4
          have hba := (Below.refl wp.heap.size wp).alloc (Nat.le_refl _) (.cells #[.int .i64 c, .int .i64 q, .int .i64 x.kind, .int .i64 x.group, .int .i64 x.shard] 40)
          have HBX := Lib.hid (Blk.new wp 40 #[.int .i64 c, .int .i64 q, .int .i64 x.kind, .int .i64 x.group, .int .i64 x.shard])
          have hok := hT.ok
          have HD1 := Lib.hid (do_first c q x (hT.more hba))
          have HD2 := Lib.hid (fun (w2 : World) (h : Mid w bb mm n s (mdS s c q x).2 w2) => do_second c q x h hok)
          clear hT hba hok
          generalize mdS s c q x = r at *
          obtain ⟨⟨ra, rn, re⟩, s'⟩ := r
          simp only at HD1 HD2
          go_wp2_with fail
          refine HD1.out.mono ?_
          rintro e w5 ⟨rfl, hM5, hK5⟩
          have hbx := hK5 _ _ _ HBX.out (by decide) (by decide) (by decide) (by decide)
          obtain ⟨y0, y1, y2, y3, y4⟩ : w5.cell? ⟨wp.heap.size, 0, none⟩ = some (.int .i64 c) ∧ w5.cell? ⟨wp.heap.size, 1, none⟩ = some (.int .i64 q) ∧ w5.cell? ⟨wp.heap.size, 2, none⟩ = some (.int .i64 x.kind) ∧ w5.cell? ⟨wp.heap.size, 3, none⟩ = some (.int .i64 x.group) ∧ w5.cell? ⟨wp.heap.size, 4, none⟩ = some (.int .i64 x.shard) :=
            ⟨hbx.cell 0, hbx.cell 1, hbx.cell 2, hbx.cell 3, hbx.cell 4⟩
          have HM5 := Lib.hid hM5
          clear hM5 hK5 hbx HD1 HBX x0 x1 x2 x3 x4
          go_wp2_with fail
          refine (HD2.out w5 HM5.out).mono ?_
          rintro e w6 ⟨rfl, hT6, hK6⟩
          have HT6 := Lib.hid hT6
          have HX1 := Lib.hid (mtext_any w.heap.size mm s' w6 (hl.later hT6.bel) hT6.left hT6.ok)
          have HX2 := Lib.hid (fun (w7 : World) (h : Two w bb mm n s' w7) => mtext_any bb n s' w7 (hl.later h.bel) h.right h.ok)
          have h1000 : s'.cs.length ≤ 1000 := by have := hT6.ok.l41; omega
          have HL1 := Lib.hid (fun (w7 : World) (h : Two w bb mm n s' w7) => mlast_any w.heap.size mm s'.cs s'.tk s'.cl w7 h.left h1000)
          have HL2 := Lib.hid (fun (w7 : World) (h : Two w bb mm n s' w7) => mlast_any bb n s'.cs s'.tk s'.cl w7 h.right h1000)
          unfold GivesC at HL1 HL2
          clear hT6 hK6 HD2 HM5 y0 y1 y2 y3 y4 h1000
          generalize mtxt s'.tk s'.cl = tx2 at *
          go_wp2_with fail
          refine HX1.out.mono ?_
          rintro e w7 ⟨rfl, hb7⟩
          have HT7 := Lib.hid (HT6.out.more hb7)
          clear hb7 HX1 HT6
          go_wp2_with fail
          refine (HX2.out w7 HT7.out).mono ?_
          rintro e w8 ⟨rfl, hb8⟩
          have HT8 := Lib.hid (HT7.out.more hb8)
          clear hb8 HX2 HT7
          go_wp2_with fail
          refine (HL1.out w8 HT8.out).mono ?_
          rintro e w9 ⟨s9, rfl, ho9, hb9⟩
          obtain ⟨A9, c9, rfl⟩ := own_shape ho9
          have HT9 := Lib.hid (HT8.out.more hb9)
          have HL3 := Lib.hid (HL2.out w9 HT9.out)
          clear ho9 hb9 HL1 HL2 HT8
          generalize s'.cs.getLastD cfg0 = cf at *
          obtain ⟨cn, cg, co⟩ := cf
          have hfld := fun (w : World) (n a b c d : Int) (A : Option Addr) (l m : Nat) => field_num n a b c d A l m w
          unfold Cfg.val at HL3 ⊢
          simp only at HL3 ⊢
          go_wp2_with fail
          refine HL3.out.mono ?_
          rintro e w10 ⟨s10, rfl, ho10, hb10⟩
          obtain ⟨A10, c10, rfl⟩ := own_shape ho10
          have HT10 := Lib.hid (HT9.out.more hb10)
          clear ho10 hb10 HL3 HT9
          go_wp2_with fail
          exact ⟨⟨k + 1, by omega, by simp, s', HT10.out⟩, by simp [intOf]; omega⟩
        · obtain rfl : k = b.length := by omega
          have HB := Lib.hid hT.bel
          clear hT
          go_wp2_with fail
          refine (one_any _).mono ?_
          rintro e w9 ⟨rfl, hb9⟩
          go_wp2
          go_ret
          exact ⟨rfl, HB.out.trans (hb9.mono HB.out.size)⟩

end Go.Proofs.YtijacbnoemjgcaaGreatDoor
