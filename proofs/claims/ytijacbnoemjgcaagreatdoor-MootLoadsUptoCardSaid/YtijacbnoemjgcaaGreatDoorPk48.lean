/- MootLoads: the law's walk. -/
import Derived.Test.YtijacbnoemjgcaaGreatDoorPk46
import Derived.Test.YtijacbnoemjgcaaGreatDoorPk47
import Derived.Test.YtijacbnoemjgcaaGreatDoorPk31
set_option linter.unusedVariables false
set_option linter.unusedSimpArgs false
set_option linter.unnecessarySimpa false
namespace Go.Proofs.YtijacbnoemjgcaaGreatDoor
open Go.RowKit Go.Shelf

theorem take_in {l : List Tri} : ∀ {cs : List Cfg} {tk : List Cmd} {cs' : List Cfg} {tk' : List Cmd}, takeAll l cs tk = some (cs', tk') → (∀ x ∈ tk, triIn (cmdT x)) → ∀ x ∈ tk', triIn (cmdT x) := by
  induction l with
  | nil => intro cs tk cs' tk' h hx; simp [takeAll] at h; rw [← h.2]; exact hx
  | cons y l ih =>
    intro cs tk cs' tk' h hx
    rw [takeAll] at h
    split at h
    · rename_i h0
      refine ih h (fun x hx' => ?_)
      rcases List.mem_append.1 hx' with h1 | h1
      · exact hx x h1
      · rw [List.mem_singleton] at h1
        subst h1
        exact do_cmd h0
    · cases h
theorem cli_in {l : List Tri} : ∀ {before : Int} {cl cl' : Cls}, -1 ≤ before → cliAll l before cl = some cl' → (∀ i, cl i = (0, 0) ∨ (i < 8 ∧ 1 ≤ (cl i).1 ∧ (cl i).1 ≤ 1099511627776 ∧ 0 ≤ (cl i).2 ∧ (cl i).2 ≤ 999)) → ∀ i, cl' i = (0, 0) ∨ (i < 8 ∧ 1 ≤ (cl' i).1 ∧ (cl' i).1 ≤ 1099511627776 ∧ 0 ≤ (cl' i).2 ∧ (cl' i).2 ≤ 999) := by
  induction l with
  | nil => intro b cl cl' h0 h hx; simp [cliAll] at h; rw [← h]; exact hx
  | cons y l ih =>
    intro b cl cl' h0 h hx
    rw [cliAll] at h
    split at h
    · cases h
    · rename_i hb
      have hbb : ¬ (y.1 ≤ b ∨ 8 ≤ y.1 ∨ y.2.1 < 1 ∨ 1099511627776 < y.2.1 ∨ y.2.2 < 0 ∨ 999 < y.2.2) := by
        intro hc
        apply hb
        simp only [badT, Bool.or_eq_true, decide_eq_true_eq]
        omega
      refine ih (by omega) h (fun i => ?_)
      unfold upd
      split
      · rename_i hi
        refine .inr ⟨?_, ?_⟩
        · omega
        · simp only; omega
      · exact hx i
theorem load_ok {t : Bs} {s : Mt} (h : loadS t = some s) : MtOk s := by
  obtain ⟨h1, h2, h3, h4⟩ := load_text h
  unfold loadS at h
  split at h
  · split at h
    · split at h
      · split at h
        · rename_i cs tk ht
          split at h
          · rename_i cl hc
            injection h with h
            subst h
            obtain ⟨t1, _, _, _⟩ := take_all ht
            refine ⟨h2, h4, h3, ?_, cli_in (by omega) hc (fun _ => .inl rfl), take_in ht (fun _ hx => by cases hx)⟩
            simp only
            rw [t1]
            exact ht
          · cases h
        · cases h
      · cases h
    · cases h
  · cases h

set_option maxHeartbeats 4000000 in
set_option maxRecDepth 100000 in
theorem mloads_law (t : Bs) (ht : t.length ≤ 1000000000) (w : World) (hl : Lay w) :
    Calls Tryz.prog 3 #[.string ⟨t.toArray⟩] w fun e w' => e = .returned (.bool true) ∧ Below w.heap.size w w' := by
  by_cases hbig : 20000 < t.length
  · go_enter Tryz.func3, Tryz.ntmps3
    go_wp2_with fail
    refine (one_any _).mono ?_
    rintro e w1 ⟨rfl, hb⟩
    go_wp2
    go_ret
    exact ⟨rfl, hb⟩
  · have hM := mload_any t ht w hl
    have HR := Lib.hid (fun (w1 : World) => rload_any t ht w1)
    have hd : decide ((20000 : Int) < (t.length : Int)) = false := by rw [decide_eq_false_iff_not]; omega
    cases hs : loadS t with
    | none =>
      rw [hs] at hM HR
      unfold LdPost at hM
      unfold RLdPost at HR
      simp only at hM HR
      clear hbig
      go_enter Tryz.func3, Tryz.ntmps3
      go_wp2_with fail
      refine hM.mono ?_
      rintro e w1 ⟨rfl, hb1⟩
      have HB1 := Lib.hid hb1
      clear hb1 hM
      go_wp2_with fail
      refine (HR.out w1).mono ?_
      rintro e w2 ⟨rfl, hb2⟩
      have HB2 := Lib.hid (HB1.out.trans (hb2.mono HB1.out.size))
      have HB3 := Lib.hid (HB2.out.alloc HB2.out.size (.cells #[.slice none 0 0, .slice none 0 0] 30))
      clear hb2 HR
      go_wp2_with fail
      refine (one_any _).mono ?_
      rintro e w3 ⟨rfl, hb⟩
      go_wp2
      go_ret
      exact ⟨rfl, HB3.out.trans (hb.mono HB3.out.size)⟩
    | some s =>
      rw [hs] at hM HR
      unfold LdPost at hM
      unfold RLdPost at HR
      simp only at hM HR
      have hok := load_ok hs
      have htx := (load_text hs).1
      have HOK := Lib.hid hok
      have HTX := Lib.hid htx
      clear hbig hok htx hs
      go_enter Tryz.func3, Tryz.ntmps3
      go_wp2_with fail
      refine hM.mono ?_
      rintro e w1 ⟨m, rfl, ⟨b, hbb, hm⟩, hb1⟩
      have HB1 := Lib.hid hb1
      have HM1 := Lib.hid hm
      clear hb1 hM hm
      go_wp2_with fail
      refine (HR.out w1).mono ?_
      rintro e w2 ⟨b2, lv, cv, C, rfl, hb2b, hlv, hcv, hag, hC8, hb2⟩
      obtain ⟨Al, al, rfl⟩ := own_shape hlv
      obtain ⟨Ac, ac, rfl⟩ := own_shape hcv
      have hb3 := (Below.refl w2.heap.size w2).alloc (Nat.le_refl _) (.cells #[.slice Al s.tk.length al, .slice Ac C.length ac] 30)
      have HM2 := Lib.hid ((HM1.out.below hb2).below hb3)
      have HB2 := Lib.hid (HB1.out.trans (hb2.mono HB1.out.size))
      have HB3 := Lib.hid (HB2.out.trans (hb3.mono HB2.out.size))
      have HLV := Lib.hid (own_below hlv hb3)
      have HCV := Lib.hid (own_below hcv hb3)
      have HAG := Lib.hid hag
      have hlen2 : Hid (s.tk.length ≤ 1000) := by have h1 := HOK.out.len; have h2 := HOK.out.l41; unfold Hid; omega
      have HRM : Hid (RMtP (min b2 w2.heap.size) (w2.alloc (.cells #[.slice Al s.tk.length al, .slice Ac C.length ac] 30)) w2.heap.size (.slice Al s.tk.length al) (.slice Ac C.length ac) s.tk C) := ⟨Blk.new w2 _ _, own_weaken HLV.out (Nat.min_le_left _ _), own_weaken HCV.out (Nat.min_le_left _ _), Nat.min_le_right _ _⟩
      clear hb2 hb3 hlv hcv hag HR HM1
      have hT1 := fun w1 (h : Lay w1) (hp : Moot b w1 m s.cs s.tk s.cl) => mtext_any b m s w1 h hp HOK.out
      have hT2 := fun w1 (hp : RMtP (min b2 w2.heap.size) w1 w2.heap.size (.slice Al s.tk.length al) (.slice Ac C.length ac) s.tk C) => rmtext_any _ _ _ _ s C w1 hp HOK.out HAG.out (by omega)
      rw [HTX.out] at hT1 hT2
      have HT1 := Lib.hid hT1
      have HT2 := Lib.hid hT2
      clear hT1 hT2
      go_wp2_with fail
      refine (HT1.out _ (hl.later HB3.out) HM2.out).mono ?_
      rintro e w4 ⟨rfl, hb4⟩
      have HB4 := Lib.hid (HB3.out.trans (hb4.mono HB3.out.size))
      have HRM4 := Lib.hid (HRM.out.below hb4)
      clear hb4 HRM HM2 HLV HCV
      go_wp2_with fail
      refine (HT2.out _ HRM4.out).mono ?_
      rintro e w5 ⟨rfl, hb5⟩
      have HB5 := Lib.hid (HB4.out.trans (hb5.mono HB4.out.size))
      clear hb5 HRM4
      go_wp2_with fail
      refine (one_any _).mono ?_
      rintro e w6 ⟨rfl, hb6⟩
      go_wp2
      go_ret
      exact ⟨rfl, HB5.out.trans (hb6.mono HB5.out.size)⟩

end Go.Proofs.YtijacbnoemjgcaaGreatDoor
