/- MarkRises: what stays so, vote by vote; the law's walk. -/
import Derived.Test.YtogpbldipmcbdaaDoorKi
import Derived.Test.YtogpbldipmcbdaaDoorKj
set_option linter.unusedVariables false
set_option linter.unusedSimpArgs false
set_option linter.unnecessarySimpa false
namespace Go.Proofs.YtogpbldipmcbdaaDoor
open Go.RowKit Go.Shelf

structure Good (m : Mks) : Prop where
  g : m.g = 1
  n0 : 0 ≤ m.n
  zero : m.n = 0 → m.s = [] ∧ m.c.t = []
  pos : 0 < m.n → mrkR m.c.t = ⟨1, m.n, m.s, 0⟩
  tags : m.c.tags.length ≤ 1048576
  tl : m.c.t.length ≤ 1048576
theorem vote_cases (m : Mks) (no n : Int) (s t : Bs) :
    ((voteS m no n s t).m.n = m.n ∧ (voteS m no n s t).m.s = m.s ∧ (voteS m no n s t).m.c = m.c ∧ (voteS m no n s t).m.g = m.g) ∨
    (m.n < n ∧ (mrkT m.g n s).2 = 0 ∧ (voteS m no n s t).m.n = n ∧ (voteS m no n s t).m.s = s ∧ (voteS m no n s t).m.g = m.g ∧ (voteS m no n s t).m.c = ⟨(mrkT m.g n s).1, m.g, pickV n s 0 (m.vs.set no.toNat ⟨n, s, t⟩)⟩) := by
  unfold voteS
  split
  · exact .inl ⟨rfl, rfl, rfl, rfl⟩
  · split
    · exact .inl ⟨rfl, rfl, rfl, rfl⟩
    · rename_i he
      split
      · exact .inl ⟨rfl, rfl, rfl, rfl⟩
      · split
        · exact .inl ⟨rfl, rfl, rfl, rfl⟩
        · split
          · exact .inl ⟨rfl, rfl, rfl, rfl⟩
          · rename_i hn
            split
            · exact .inl ⟨rfl, rfl, rfl, rfl⟩
            · exact .inr ⟨by omega, by omega, rfl, rfl, rfl, rfl⟩
theorem vote_good {m : Mks} (h : Good m) (hv : m.vs.length ≤ 10) (no n : Int) (s t : Bs) : Good (voteS m no n s t).m ∧ m.n ≤ (voteS m no n s t).m.n := by
  rcases vote_cases m no n s t with ⟨e1, e2, e3, e4⟩ | ⟨hn, he, e1, e2, e4, e3⟩
  · exact ⟨⟨by rw [e4]; exact h.g, by rw [e1]; exact h.n0, by rw [e1, e2, e3]; exact h.zero, by rw [e1, e2, e3]; exact h.pos, by rw [e3]; exact h.tags, by rw [e3]; exact h.tl⟩, by rw [e1]; omega⟩
  · have h0 := h.n0
    have hlen := ((mrkT_ok m.g n s).1 he).2
    rw [← mrkT_text m.g n s he] at hlen
    have hb := mrk_back m.g n s he
    rw [h.g] at hb
    refine ⟨⟨by rw [e4]; exact h.g, by rw [e1]; omega, by rw [e1]; intro e; omega, ?_, ?_, ?_⟩, by rw [e1]; omega⟩
    · rw [e1, e2, e3]
      intro _
      simp only [h.g]
      exact hb
    · rw [e3]
      have := pickV_len n s (m.vs.set no.toNat ⟨n, s, t⟩) 0
      simp only [List.length_set] at this
      simp only
      omega
    · rw [e3]
      simp only
      omega
theorem adopt_good {m : Mks} (h : Good m) (c : Crt) (htl : c.tags.length ≤ 1048576) (htt : c.t.length ≤ 1048576) : Good (adoptS m c).m ∧ m.n ≤ (adoptS m c).m.n := by
  unfold adoptS
  split
  · rename_i hc
    obtain ⟨h1, h2, h3⟩ := hc
    split
    · exact ⟨h, Int.le_refl _⟩
    · rename_i hn
      have h0 := h.n0
      refine ⟨⟨h.g, by simp only; omega, by simp only; intro e; omega, ?_, htl, htt⟩, by simp only; omega⟩
      intro _
      simp only
      have := h.g
      rw [this] at h2
      generalize mrkR c.t = r at *
      obtain ⟨a, b, d, e⟩ := r
      simp only at h1 h2
      subst h1 h2
      rfl
  · exact ⟨h, Int.le_refl _⟩
theorem good0 (f : Int) : Good (m0 1 f) := ⟨rfl, Int.le_refl _, fun _ => ⟨rfl, rfl⟩, fun h => by simp [m0] at h, by simp [m0], by simp [m0]⟩

theorem mnew_err (f : Int) (hf : ¬ (0 ≤ f ∧ f ≤ 3)) (w : World) :
    Calls Tryd.prog 9 #[.int .i64 1, .int .i64 f] w fun e w' => e = .returned (.tuple #[.pointer none, .int .i64 1]) ∧ w = w' := by
  by_cases h0 : 0 ≤ f
  · have h1 : 3 < f := by omega
    clear hf
    go_enter Tryd.func9, Tryd.ntmps9
    go_wp2_with (go_at_call 25; refine (grouped_yes 1 (by omega) (by omega) _).mono ?_; rintro e w' ⟨rfl, rfl⟩)
    go_ret2
    exact ⟨rfl, rfl⟩
  · clear hf
    go_enter Tryd.func9, Tryd.ntmps9
    go_wp2_with (go_at_call 25; refine (grouped_yes 1 (by omega) (by omega) _).mono ?_; rintro e w' ⟨rfl, rfl⟩)
    go_ret2
    exact ⟨rfl, rfl⟩

theorem CrtV.Ok.below {w w' : World} {c : CrtV} (h : c.Ok w) (hb : Below w.heap.size w w') : c.Ok w' := ⟨(h.rd.below hb).more hb.size, h.tl, h.ts, h.t, h.g⟩
theorem StpM.Ok.below {w w' : World} {o : StpM} (h : o.Ok w) (hb : Below w.heap.size w w') : o.Ok w' := ⟨h.s, h.t, h.c.below hb⟩
theorem flat_at {α : Type} (f : α → List Value) (s : Nat) (hs : ∀ a, (f a).length = s) (l : List α) (k : Nat) (hk : k < l.length) (j : Nat) (hj : j < s) : (l.flatMap f)[k * s + j]? = (f l[k])[j]? := by
  induction l generalizing k with
  | nil => simp at hk
  | cons a l ih =>
    rw [List.flatMap_cons]
    cases k with
    | zero => rw [Nat.zero_mul, Nat.zero_add, List.getElem?_append_left (by rw [hs]; exact hj)]; rfl
    | succ k =>
      rw [List.getElem?_append_right (by rw [hs, Nat.add_mul]; omega), hs, show (k + 1) * s + j - s = k * s + j by rw [Nat.add_mul]; omega]
      rw [ih k (by simpa using hk)]
      rfl
/-- The cells of a step of a list. -/
theorem rd_stpm {w : World} {B : Nat} {v : Value} {l : List StpM} (h : Rd w B 8 v l.length (l.flatMap StpM.cells)) {k : Nat} (hk : k < l.length) :
    ∃ g off cap, v = .slice (some ⟨g, off, none⟩) l.length cap ∧ g < B ∧ ∀ j, j < 8 → w.cell? ⟨g, off + (k * 8 + j), none⟩ = l[k].cells[j]? := by
  obtain ⟨_, A, cap, rfl, _, h0 | ⟨g, off, rfl, hg, hc⟩⟩ := h
  · omega
  · refine ⟨g, off, cap, rfl, hg, fun j hj => ?_⟩
    have := flat_at StpM.cells 8 (fun _ => rfl) l k hk j hj
    have hlt : j < l[k].cells.length := by simpa [StpM.cells] using hj
    rw [List.getElem?_eq_getElem hlt] at this ⊢
    exact hc _ _ this

set_option maxHeartbeats 8000000 in
set_option maxRecDepth 100000 in
theorem mrises_law (f : Int) (v : Value) (l : List StpM) (w : World) (hl : Lay w) (hr : Rd w w.heap.size 8 v l.length (l.flatMap StpM.cells)) (hm : l.length ≤ 1048576) (hg : ∀ o ∈ l, o.Ok w) :
    Calls Tryd.prog 5 #[.int .i64 f, v] w fun e w' => e = .returned (.bool true) ∧ Below w.heap.size w w' := by
  have HR : Hid (Rd w w.heap.size 8 v l.length (l.flatMap StpM.cells)) := hr
  obtain ⟨_, A, c, rfl, _, _⟩ := hr
  by_cases hf : 0 ≤ f ∧ f ≤ 3
  · by_cases hbig : 100 < l.length
    · go_enter Tryd.func5, Tryd.ntmps5
      go_wp2_with fail
      refine (mnew_ok 1 f (by omega) hf _).mono ?_
      rintro e w1 ⟨rfl, hM, hb1⟩
      go_wp2_with fail
      refine (one_any _ (hl.later hb1)).mono ?_
      rintro e w2 ⟨rfl, hb2⟩
      go_wp2
      go_ret
      exact ⟨rfl, hb1.trans (hb2.mono hb1.size)⟩
    · go_enter Tryd.func5, Tryd.ntmps5
      go_wp2_with fail
      refine (mnew_ok 1 f (by omega) hf _).mono ?_
      rintro e w1 ⟨rfl, hM, hb1⟩
      go_wp2_with fail
      go_loopw [7, 44] (fun la i wr => ∃ (k : Nat) (m : Mks), k ≤ l.length ∧ i = .int .i64 k ∧ la = .int .i64 m.n ∧ Hid (Good m) ∧ Hid (MkAt wr (w.heap.size + 1) w.heap.size m) ∧ Hid (Below w.heap.size w wr)) (fun _ i _ => l.length - (intOf i).toNat)
      case atStart => exact ⟨0, m0 1 f, Nat.zero_le _, rfl, rfl, good0 f, hM, hb1⟩
      case round =>
        obtain ⟨k, m, hk, rfl, rfl, HG, HM, HB⟩ := hrel
        by_cases hlt : k < l.length
        · obtain ⟨g, off, cap, hV, hgl, hcs⟩ := rd_stpm (HR.out.below HB.out) hlt
          injection hV with hA _ hcc
          subst hA
          clear hcc
          have hok := (hg l[k] (List.getElem_mem hlt)).below HB.out
          generalize l[k] = o at *
          obtain ⟨what, no, n, s, t, ⟨ct, cg, tags, At, capt⟩⟩ := o
          have c0 : wr.cell? ⟨g, off + (k * 8 + 0), none⟩ = some (.int .i64 what) := hcs 0 (by omega)
          have c1 : wr.cell? ⟨g, off + (k * 8 + 1), none⟩ = some (.int .i64 no) := hcs 1 (by omega)
          have c2 : wr.cell? ⟨g, off + (k * 8 + 2), none⟩ = some (.int .i64 n) := hcs 2 (by omega)
          have c3 : wr.cell? ⟨g, off + (k * 8 + 3), none⟩ = some (.string ⟨s.toArray⟩) := hcs 3 (by omega)
          have c4 : wr.cell? ⟨g, off + (k * 8 + 4), none⟩ = some (.string ⟨t.toArray⟩) := hcs 4 (by omega)
          have c5 : wr.cell? ⟨g, off + (k * 8 + 5), none⟩ = some (.string ⟨ct.toArray⟩) := hcs 5 (by omega)
          have c6 : wr.cell? ⟨g, off + (k * 8 + 6), none⟩ = some (.int .i64 cg) := hcs 6 (by omega)
          have c7 : wr.cell? ⟨g, off + (k * 8 + 7), none⟩ = some (.slice At tags.length capt) := hcs 7 (by omega)
          clear hcs
          simp only [Nat.add_zero, ← Nat.add_assoc] at c0 c1 c2 c3 c4 c5 c6 c7
          have HOK := Lib.hid hok
          clear hok
          go_upto_if 50 with (fail)
          have hbX : Below wr.heap.size wr (wr.alloc (.cells #[.int .i64 what, .int .i64 no, .int .i64 n, .string ⟨s.toArray⟩, .string ⟨t.toArray⟩, .string ⟨ct.toArray⟩, .int .i64 cg, .slice At tags.length capt] 52)) := below_alloc1 wr _
          have HMX := Lib.hid (HM.out.below hbX)
          have HBX := Lib.hid (HB.out.trans (hbX.mono HB.out.size))
          have HOX := Lib.hid (HOK.out.below hbX)
          have hvl : m.vs.length ≤ 10 := by have := HM.out.ok.2.2.2.1; have := HM.out.ok.2.2.2.2; omega
          go_cut [] (fun wc => ∃ m' : Mks, Hid (Good m') ∧ m.n ≤ m'.n ∧ Hid (MkAt wc (w.heap.size + 1) w.heap.size m') ∧ Hid (Below w.heap.size w wc))
          case first =>
            by_cases hw : what = 2
            · subst hw
              go_wp2_with fail
              refine (madopt_any _ _ m ⟨ct, cg, tags, At, capt⟩ _ (hl.later HBX.out) HMX.out HOX.out.c).mono ?_
              rintro e w2 ⟨rfl, hM2, hc2⟩
              have hgd := adopt_good HG.out ⟨ct, cg, tags⟩ HOX.out.c.tl HOX.out.c.t
              have hb2 := HBX.out.trans (hc2.to_below (fun i hi e => by omega) HBX.out.size)
              go_wp2_with fail
              go_meet
              case rel => exact ⟨_, hgd.1, hgd.2, hM2, hb2⟩
            · go_wp2_with fail
              refine (mvote_any _ _ m no n s t (by have := HOX.out.s; simp only at this; omega) (by have := HOX.out.t; simp only at this; omega) _ (hl.later HBX.out) HMX.out).mono ?_
              rintro e w2 ⟨rfl, hM2, hc2⟩
              have hgd := vote_good HG.out hvl no n s t
              have hb2 := HBX.out.trans (hc2.to_below (fun i hi e => by omega) HBX.out.size)
              go_wp2_with fail
              go_meet
              case rel => exact ⟨_, hgd.1, hgd.2, hM2, hb2⟩
          case rest =>
            obtain ⟨m', HG', hge, HM', HB'⟩ := hcut
            go_wp2_with fail
            refine (mstable_any _ _ m' _ HM'.out HG'.out.tags).mono ?_
            rintro e w3 ⟨A3, c3', rfl, hown3, hb3⟩
            have hb13 := HB'.out.trans (hb3.mono HB'.out.size)
            have hM3 := HM'.out.below hb3
            have hbY := below_alloc1 w3 (.cells #[.string ⟨m'.c.t.toArray⟩, .int .i64 m'.c.g, .slice A3 m'.c.tags.length c3'] 35)
            have HMY := Lib.hid (hM3.below hbY)
            have HBY := Lib.hid (hb13.trans (hbY.mono hb13.size))
            clear hM3 hb13 hown3 hb3 hbY
            have hn0 := HG'.out.n0
            have hml := HG'.out.tl
            have hm0 := HG.out.n0
            by_cases hz : m'.n = 0
            · obtain ⟨z1, z2⟩ := HG'.out.zero hz
              have hmn : m.n = 0 := by omega
              have hsz : m'.s.toArray = #[] := by rw [z1]
              have hcz : m'.c.t.toArray = #[] := by rw [z2]
              have hge0 := hge
              rw [hz] at hge0
              clear z1 z2 hge
              go_wp2
              exact ⟨⟨k + 1, m', by omega, by simp, by rw [hz], HG'.out, by simp only [hz, hsz, hcz] at HMY; exact HMY.out, by simp only [hz, hsz, hcz] at HBY; exact HBY.out⟩, by simp [intOf]; omega⟩
            · have hpos : 0 < m'.n := by omega
              have hp := Lib.hid (HG'.out.pos hpos)
              go_wp2_with fail
              refine (mread_any m'.c.t (by omega) _ (hl.later HBY.out)).mono ?_
              rintro e w4 ⟨rfl, hb4⟩
              rw [hp.out]
              have hb5 := HBY.out.trans (hb4.mono HBY.out.size)
              have hM5 := HMY.out.below hb4
              go_wp2
              exact ⟨⟨k + 1, m', by omega, by simp, rfl, HG'.out, hM5, hb5⟩, by simp [intOf]; omega⟩
        · obtain rfl : k = l.length := by omega
          go_wp2_with fail
          refine (one_any _ (hl.later HB.out)).mono ?_
          rintro e w2 ⟨rfl, hb2⟩
          go_wp2
          go_ret
          exact ⟨rfl, HB.out.trans (hb2.mono HB.out.size)⟩
  · go_enter Tryd.func5, Tryd.ntmps5
    go_wp2_with fail
    refine (mnew_err f hf _).mono ?_
    rintro e w1 ⟨rfl, rfl⟩
    go_wp2_with fail
    refine (one_any _ hl).mono ?_
    rintro e w2 ⟨rfl, hb2⟩
    go_wp2
    go_ret
    exact ⟨rfl, hb2⟩

end Go.Proofs.YtogpbldipmcbdaaDoor
