/- The law's same. -/
import Derived.Test.YtemldlfolacekaaRd
namespace Go.Proofs.Ytemldlfolacekaa
open Go.RowKit Go.Shelf
attribute [local go_sem ↓] Go.wp_at_zero Go.wp_at_succ

theorem neq_ref (a b : Req) (w : World) :
    (binOp .neq 45 (.agg #[.int .i64 a.c, .int .i64 a.n, .string a.t]) (.agg #[.int .i64 b.c, .int .i64 b.n, .string b.t])).run Try.prog w = .ok (.bool (!reqEq a b)) w := by
  have hs : Try.prog.stoodInHeld 45 = false := by kernel_rfl
  have hf : Try.prog.underlying 45 = some (.struct (Try.prog.fieldsOf 45)) := by simp [Program.fieldsOf, Try.underlying45]
  rw [run_neq_struct, run_equalIn_agg w 9999 45 _ _ hf hs]
  simp only [Program.fieldsOf, Try.underlying45]
  have h3 := fun (d : Nat) (a b : Int) => run_equalIn_int (P := Try.prog) w d 3 .i64 .i64 a b Try.underlying3
  have h9 := fun (d : Nat) (a b : ByteArray) => run_equalIn_string (P := Try.prog) w d 9 a b Try.underlying9
  have p0 : ∀ x : Req, (part 3 #[.int .i64 x.c, .int .i64 x.n, .string x.t] 0).run Try.prog w = .ok (.int .i64 x.c) w := fun x => by kernel_rfl
  have p1 : ∀ x : Req, (part 3 #[.int .i64 x.c, .int .i64 x.n, .string x.t] 1).run Try.prog w = .ok (.int .i64 x.n) w := fun x => by kernel_rfl
  have p2 : ∀ x : Req, (part 9 #[.int .i64 x.c, .int .i64 x.n, .string x.t] 2).run Try.prog w = .ok (.string x.t) w := fun x => by kernel_rfl
  have e2 : ∀ f : Field, (f.name == "_") = false → f.type = 9 → f.offset = 2 → (Op.eqFields 9999 #[.int .i64 a.c, .int .i64 a.n, .string a.t] #[.int .i64 b.c, .int .i64 b.n, .string b.t] [f]).run Try.prog w = .ok (a.t.toList == b.t.toList) w := fun f hn ht ho => by
    have := eqf_one (f := f) (fs := []) (s := true) hn (by rw [ht, ho]; exact p2 a) (by rw [ht, ho]; exact p2 b) (by rw [ht]; exact h9 9998 a.t b.t) (by simp [Op.eqFields])
    rwa [Bool.and_true] at this
  have E := eqf_one (f := { name := "Caller", type := 3, offset := 0, embedded := false, tag := "", pkgPath := "", byteOffset := 0 }) (by decide) (p0 a) (p0 b) (h3 9998 a.c b.c)
    (eqf_one (f := { name := "Number", type := 3, offset := 1, embedded := false, tag := "", pkgPath := "", byteOffset := 8 }) (by decide) (p1 a) (p1 b) (h3 9998 a.n b.n)
      (e2 { name := "Text", type := 9, offset := 2, embedded := false, tag := "", pkgPath := "", byteOffset := 16 } (by decide) rfl rfl))
  rw [E]
  rfl

set_option maxHeartbeats 1600000 in
theorem same_yes (v u : Value) (l : List Req) (w : World) (B : Nat) (hB : B ≤ w.heap.size) (hv : Rd w B 3 v l.length (cellsOf l)) (hu : Rd w B 3 u l.length (cellsOf l)) (hm : l.length ≤ 1000000) :
    Calls Try.prog 18 #[v, u] w fun e w' => e = .returned (.bool true) ∧ Below w.heap.size w w' := by
  have HV := Lib.hid hv
  have HU := Lib.hid hu
  obtain ⟨_, A, c, rfl, _⟩ := hv
  obtain ⟨_, A2, c2, rfl, _⟩ := hu
  go_enter Try.func18, Try.ntmps18
  go_wp2
  go_loopw [13] (fun i wr => ∃ k : Nat, k ≤ l.length ∧ i = .int .i64 k ∧ Hid (Below w.heap.size w wr)) (fun i _ => l.length - (intOf i).toNat)
  case atStart => exact ⟨0, Nat.zero_le _, rfl, Below.refl _ _⟩
  case round =>
    obtain ⟨k, hk, rfl, hbw⟩ := hrel
    have hbs := hbw.out.size
    by_cases hlt : k < l.length
    · obtain ⟨g, off, rfl, hg, x0, x1, x2⟩ := rd_get HV.out hlt
      obtain ⟨g2, off2, rfl, hg2, z0, z1, z2⟩ := rd_get HU.out hlt
      have y0 := (hbw.out.cell (p := ⟨g, off + k * 3, none⟩) (by show g < w.heap.size; omega)).trans x0
      have y1 := (hbw.out.cell (p := ⟨g, off + k * 3 + 1, none⟩) (by show g < w.heap.size; omega)).trans x1
      have y2 := (hbw.out.cell (p := ⟨g, off + k * 3 + 2, none⟩) (by show g < w.heap.size; omega)).trans x2
      have q0 := (hbw.out.cell (p := ⟨g2, off2 + k * 3, none⟩) (by show g2 < w.heap.size; omega)).trans z0
      have q1 := (hbw.out.cell (p := ⟨g2, off2 + k * 3 + 1, none⟩) (by show g2 < w.heap.size; omega)).trans z1
      have q2 := (hbw.out.cell (p := ⟨g2, off2 + k * 3 + 2, none⟩) (by show g2 < w.heap.size; omega)).trans z2
      have heq := fun wx => neq_ref l[k] l[k] wx
      simp only [reqEq_refl, Bool.not_true] at heq
      have hgd : Try.prog.eqGuardType Try.prog.depth 45 = false := by kernel_rfl
      have hk0 : (0 : Int) ≤ (k : Int) := by omega
      have hk1 : (k : Int) < (l.length : Int) := by omega
      have hgb : g < wr.heap.size ∧ g2 < wr.heap.size := by omega
      have hgbH := Lib.hid hgb
      clear x0 x1 x2 z0 z1 z2 hgb
      go_wp2_with fail
      go_region_held3 (fun w' => w'.cell? ⟨g, off + k * 3, none⟩ = some (.int .i64 l[k].c) ∧ w'.cell? ⟨g, off + k * 3 + 1, none⟩ = some (.int .i64 l[k].n) ∧ w'.cell? ⟨g, off + k * 3 + 2, none⟩ = some (.string l[k].t) ∧ w'.cell? ⟨g2, off2 + k * 3, none⟩ = some (.int .i64 l[k].c) ∧ w'.cell? ⟨g2, off2 + k * 3 + 1, none⟩ = some (.int .i64 l[k].n) ∧ w'.cell? ⟨g2, off2 + k * 3 + 2, none⟩ = some (.string l[k].t))
        (first | go_keep | exact ⟨(hb1.cell (p := ⟨g, off + k * 3, none⟩) hgbH.out.1).trans y0, (hb1.cell (p := ⟨g, off + k * 3 + 1, none⟩) hgbH.out.1).trans y1, (hb1.cell (p := ⟨g, off + k * 3 + 2, none⟩) hgbH.out.1).trans y2, (hb1.cell (p := ⟨g2, off2 + k * 3, none⟩) hgbH.out.2).trans q0, (hb1.cell (p := ⟨g2, off2 + k * 3 + 1, none⟩) hgbH.out.2).trans q1, (hb1.cell (p := ⟨g2, off2 + k * 3 + 2, none⟩) hgbH.out.2).trans q2⟩)
        ((go_at_call 14; refine (ref_any l[k] _).mono ?_; rintro e w1 ⟨rfl, hb1'⟩; have hb1 : Below wr.heap.size wr w1 := (Below.refl _ _).drew.trans (hb1'.mono (by simp))))
      go_wp2
      go_roundw
      case rel => exact ⟨k + 1, by omega, by go_num, hbw.out.trans (hb1.mono hbs)⟩
      case measure => simp [intOf]; omega
    · go_wp2
      go_ret
      exact ⟨rfl, hbw.out⟩

end Go.Proofs.Ytemldlfolacekaa
