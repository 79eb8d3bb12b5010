import Derived.Test.YtildomllnnnofaaGreatP32
/- Functions of the program and of the reference in plain terms. -/
namespace Go.Proofs.YtildomllnnnofaaGreat
open Go Go.Tm
set_option linter.unusedVariables false
set_option linter.unusedSimpArgs false
set_option linter.unusedSectionVars false
theorem qye {n : Int} (hn : n ≤ 999999) {s : DSrc} (h : SrcOK n s) : ∃ (v : Int) (s' : DSrc), spec_l00Src_pick s 65536 = some ((v, ()), (s', ())) ∧ 0 ≤ v ∧ v < 65536 ∧ SrcOK (n + 2) s' := by
  have e : iLe 65536 1 = false := rfl
  have e0 : iEq 65536 0 = false := rfl
  have e2 : iLt 200 65536 = true := rfl
  obtain ⟨v, s1, hv, v0, v1, hs1⟩ := qe3 (by omega) h
  obtain ⟨u, s2, hu, u0, u1, hs2⟩ := qe3 (by omega) hs1
  have m1 : iMul .i64 v 256 = v * 256 := qlk (by omega) (by omega)
  have m2 : iAdd .i64 (v * 256) u = v * 256 + u := qa8 (by omega) (by omega)
  have m3 : iRem .i64 (v * 256 + u) 65536 = (v * 256 + u) % 65536 := Int.tmod_eq_emod_of_nonneg (by omega)
  refine ⟨iRem .i64 (v * 256 + u) 65536, s2, ?_, by rw [m3]; omega, by rw [m3]; omega, hs2.mono (by omega)⟩
  simp only [spec_l00Src_pick, e, e0, e2, hv, hu, m1, m2, Option.bind_some, cond_true, cond_false]
theorem qja {n : Int} (hn : n ≤ 999999) {s : DSrc} (h : SrcOK n s) (L : List (List UInt8)) (h1 : 1 ≤ L.length) (h2 : L.length ≤ 60) : ∃ (t : List UInt8) (s' : DSrc), spec_l00Src_text s L = some ((t, ()), (s', ())) ∧ t ∈ L ∧ SrcOK (n + 2) s' := by
  obtain ⟨v, s', e, v0, -, vl, hs⟩ := qbf (by omega) h (lenI L) (by rw [qaa]; omega)
  rw [qaa] at vl
  have vl := vl (by omega)
  have hlt : v.toNat < L.length := by omega
  have eb : inB v L.length = true := qfm v0 vl
  refine ⟨L[v.toNat], s', ?_, List.getElem_mem hlt, hs⟩
  unfold spec_l00Src_text
  rw [e]
  simp only [Option.bind_some]
  rw [eb, qau hlt]
  rfl
theorem qm2 {n : Int} (hn : n ≤ 999999) {s : DSrc} (h : SrcOK n s) : ∃ (t : List UInt8) (s' : DSrc), spec_l08Number s = some ((t, ()), (s', ())) ∧ t.length ≤ 4 ∧ SrcOK (n + 2) s' := by
  obtain ⟨t, s', e, ht, hs⟩ := qja hn h [[48], [49], [45, 49], [49, 47, 50], [50], [45, 51, 47, 52], [48], [52], [49, 47, 56]] (by decide) (by decide)
  refine ⟨t, s', ?_, ?_, hs⟩
  · unfold spec_l08Number
    exact (congrArg (fun z => Option.bind z _) e).trans rfl
  · have : ∀ u ∈ ([[48], [49], [45, 49], [49, 47, 50], [50], [45, 51, 47, 52], [48], [52], [49, 47, 56]] : List (List UInt8)), u.length ≤ 4 := by decide
    exact this t ht
abbrev DTold := (List UInt8 × Unit) × (DSrc × Unit)
def ToldQ (o : DTold) : Prop := ∃ t s', o = ((t, ()), (s', ())) ∧ t.length ≤ 4000 ∧ SrcOK 1000 s'
theorem qr8 (z : List UInt8 × Int × Int × DSrc × Unit) (hz : SrcOK 1000 z.2.2.2.1) : ∀ (o : Nat) (out : List UInt8), out.length + 4 * o ≤ 4000 → ∃ w, run (spec_l08Told_l23 z) (out, (o : Int), ()) = some w ∧ ToldQ w
  | 0, out, h => by
    refine ⟨((out, ()), (z.2.2.2.1, ())), qaj ?_, out, _, rfl, by omega, hz⟩
    unfold spec_l08Told_l23
    have e : iLt 0 ((0 : Nat) : Int) = false := rfl
    simp only
    rw [e]
    rfl
  | o + 1, out, h => by
    have e : iLt 0 ((o + 1 : Nat) : Int) = true := qah (by omega)
    have es : iSub .i64 ((o + 1 : Nat) : Int) 1 = (o : Int) := by rw [qbv (by omega) (by omega)]; omega
    obtain ⟨w, h1, h2⟩ := qr8 z hz o (strCat out [101, 110, 100, 10]) (by unfold strCat; simp; omega)
    refine ⟨w, ?_, h2⟩
    refine Eq.trans (qad ?_) h1
    unfold spec_l08Told_l23
    simp only
    rw [e, qal (by simp; omega), es]
    rfl
theorem qiw {v : Int} (h0 : 0 ≤ v) (h1 : v ≤ 1000) : ∃ w, spec_Decimal v = some ((w, ()), ()) ∧ w.length ≤ 19 := by
  have := qov (n := v.toNat) (by omega)
  rw [Int.toNat_of_nonneg h0] at this
  exact ⟨_, this.1, this.2⟩
theorem qwm {out : List UInt8} {o d : Nat} {s : DSrc} (ho : o + d ≤ 6) (hd : 1 ≤ d) (hl : out.length + 200 * d ≤ 2000) (hs : SrcOK (900 - 100 * d) s) :
    ∃ (out' : List UInt8) (o' : Nat) (s' : DSrc), spec_l08Told_l6 (out, (o : Int), (d : Int), s, ()) = some (.inl (out', (o' : Int), ((d - 1 : Nat) : Int), s', ())) ∧ o' + (d - 1) ≤ 6 ∧ out'.length + 200 * (d - 1) ≤ 2000 ∧ SrcOK (900 - 100 * (d - 1)) s' := by
  have ed : iLt 0 (d : Int) = true := qah (by omega)
  have es : iSub .i64 (d : Int) 1 = ((d - 1 : Nat) : Int) := by rw [qbv (by omega) (by omega)]; omega
  obtain ⟨v, s1, e1, v0, -, -, h1⟩ := qbf (by omega) hs 8 (by decide)
  unfold spec_l08Told_l6
  simp only
  rw [ed, e1, es]
  simp only [cond_true, Option.bind_some]
  cases c0 : iEq v 0 with
  | true =>
    obtain ⟨x, s2, e2, x0, -, x1, h2⟩ := qbf (by omega) h1 6 (by decide)
    have x1 := x1 (by omega)
    obtain ⟨w, ew, lw⟩ := qiw x0 (by omega)
    simp only [e2, ew, Option.bind_some, cond_true]
    rw [qal (by simp; omega), qal (by unfold strCat; simp; omega), qal (by unfold strCat; simp; omega)]
    exact ⟨_, o, s2, rfl, by omega, by unfold strCat; simp; omega, h2.mono (by omega)⟩
  | false =>
    simp only [cond_false]
    cases c1 : iEq v 1 with
    | true =>
      obtain ⟨x, s2, e2, x0, -, x1, h2⟩ := qbf (by omega) h1 6 (by decide)
      have x1 := x1 (by omega)
      have ea : iAdd .i64 1 x = 1 + x := qa8 (by omega) (by omega)
      obtain ⟨w, ew, lw⟩ := qiw (v := 1 + x) (by omega) (by omega)
      simp only [e2, ea, ew, Option.bind_some, cond_true]
      rw [qal (by simp; omega), qal (by unfold strCat; simp; omega), qal (by unfold strCat; simp; omega)]
      exact ⟨_, o, s2, rfl, by omega, by unfold strCat; simp; omega, h2.mono (by omega)⟩
    | false =>
      simp only [cond_false]
      cases c2 : iEq v 2 with
      | true =>
        obtain ⟨x, s2, e2, x0, -, x1, h2⟩ := qbf (by omega) h1 3 (by decide)
        have x1 := x1 (by omega)
        obtain ⟨w, ew, lw⟩ := qiw x0 (by omega)
        simp only [e2, ew, Option.bind_some, cond_true]
        rw [qal (by simp; omega), qal (by unfold strCat; simp; omega), qal (by unfold strCat; simp; omega)]
        exact ⟨_, o, s2, rfl, by omega, by unfold strCat; simp; omega, h2.mono (by omega)⟩
      | false =>
        simp only [cond_false]
        cases c3 : iEq v 3 with
        | true =>
          obtain ⟨x, s2, e2, x0, -, x1, h2⟩ := qbf (by omega) h1 3 (by decide)
          have x1 := x1 (by omega)
          have ea : iAdd .i64 1 x = 1 + x := qa8 (by omega) (by omega)
          have eo : iAdd .i64 (o : Int) 1 = ((o + 1 : Nat) : Int) := by rw [qa8 (by omega) (by omega)]; omega
          obtain ⟨w, ew, lw⟩ := qiw (v := 1 + x) (by omega) (by omega)
          simp only [e2, ea, eo, ew, Option.bind_some, cond_true]
          rw [qal (by simp; omega), qal (by unfold strCat; simp; omega), qal (by unfold strCat; simp; omega)]
          exact ⟨_, o + 1, s2, rfl, by omega, by unfold strCat; simp; omega, h2.mono (by omega)⟩
        | false =>
          simp only [cond_false]
          cases c4 : iEq v 4 with
          | true =>
            simp only [cond_true]
            by_cases hz : 0 < o
            · have eo : iSub .i64 (o : Int) 1 = ((o - 1 : Nat) : Int) := by rw [qbv (by omega) (by omega)]; omega
              rw [qah (by omega : (0 : Int) < (o : Int)), qal (by simp; omega), eo]
              exact ⟨_, o - 1, s1, rfl, by omega, by unfold strCat; simp; omega, h1.mono (by omega)⟩
            · rw [qag (by omega : ¬ (0 : Int) < (o : Int))]
              exact ⟨out, o, s1, rfl, by omega, by omega, h1.mono (by omega)⟩
          | false =>
            simp only [cond_false]
            obtain ⟨a, s2, e2, la, h2⟩ := qm2 (by omega) h1
            obtain ⟨b, s3, e3, lb, h3⟩ := qm2 (by omega) h2
            obtain ⟨c, s4, e4, lc, h4⟩ := qm2 (by omega) h3
            obtain ⟨x, s5, e5, x0, -, x1, h5⟩ := qbf (by omega) h4 8 (by decide)
            have x1 := x1 (by omega)
            have ea : iAdd .i64 1 x = 1 + x := qa8 (by omega) (by omega)
            obtain ⟨w, ew, lw⟩ := qiw (v := 1 + x) (by omega) (by omega)
            simp only [e2, e3, e4, e5, ea, ew, Option.bind_some]
            rw [qal (by simp; omega), qal (by unfold strCat; simp; omega), qal (by unfold strCat; simp; omega), qal (by unfold strCat; simp; omega), qal (by unfold strCat; simp; omega), qal (by unfold strCat; simp; omega), qal (by unfold strCat; simp; omega), qal (by unfold strCat; simp; omega), qal (by unfold strCat; simp; omega)]
            exact ⟨_, o, s5, rfl, by omega, by unfold strCat; simp; omega, h5.mono (by omega)⟩
theorem qw9 (d : Nat) : ∀ (out : List UInt8) (o : Nat) (s : DSrc), o + d ≤ 6 → out.length + 200 * d ≤ 2000 → SrcOK (900 - 100 * d) s → ∃ w, run (spec_l08Told_l6) (out, (o : Int), (d : Int), s, ()) = some w ∧ ToldQ w := by
  induction d with
  | zero =>
    intro out o s ho hl hs
    obtain ⟨w, h1, h2⟩ := qr8 (out, (o : Int), ((0 : Nat) : Int), s, ()) (hs.mono (by omega)) o out (by omega)
    refine ⟨w, qaj ?_, h2⟩
    unfold spec_l08Told_l6
    have e : iLt 0 ((0 : Nat) : Int) = false := rfl
    simp only
    rw [e]
    simp only [cond_false]
    exact (congrArg (Option.map Sum.inr) h1).trans rfl
  | succ d ih =>
    intro out o s ho hl hs
    obtain ⟨out', o', s', e, k1, k2, k3⟩ := qwm (out := out) (o := o) (d := d + 1) (s := s) ho (Nat.succ_le_succ (Nat.zero_le d)) hl hs
    have ed : d + 1 - 1 = d := by omega
    rw [ed] at e k1 k2
    obtain ⟨w, h1, h2⟩ := ih out' o' s' k1 k2 (k3.mono (by omega))
    exact ⟨w, (qad e).trans h1, h2⟩
theorem qaar {s : DSrc} (hs : SrcOK 0 s) : ∃ w, spec_l08Told s 6 = some w ∧ ToldQ w := by
  obtain ⟨a, s1, e1, m1, h1⟩ := qja (by omega) hs [[], [114, 97, 116, 101, 32, 52, 10], [114, 97, 116, 101, 32, 49, 54, 10], [115, 116, 97, 114, 116, 32, 49, 32, 48, 32, 45, 49, 47, 50, 10]] (by decide) (by decide)
  obtain ⟨b, s2, e2, m2, h2⟩ := qja (by omega) h1 [[], [98, 101, 97, 99, 111, 110, 32, 53, 32, 53, 32, 48, 10], [98, 101, 97, 99, 111, 110, 32, 48, 32, 48, 32, 48, 10, 98, 101, 97, 99, 111, 110, 32, 45, 52, 32, 50, 32, 49, 10]] (by decide) (by decide)
  obtain ⟨c, s3, e3, m3, h3⟩ := qja (by omega) h2 [[102, 105, 120, 32, 52, 10], [102, 105, 120, 32, 50, 10], [], [102, 105, 120, 32, 49, 10]] (by decide) (by decide)
  have la : a.length ≤ 30 := (by decide : ∀ u ∈ ([[], [114, 97, 116, 101, 32, 52, 10], [114, 97, 116, 101, 32, 49, 54, 10], [115, 116, 97, 114, 116, 32, 49, 32, 48, 32, 45, 49, 47, 50, 10]] : List (List UInt8)), u.length ≤ 30) a m1
  have lb : b.length ≤ 30 := (by decide : ∀ u ∈ ([[], [98, 101, 97, 99, 111, 110, 32, 53, 32, 53, 32, 48, 10], [98, 101, 97, 99, 111, 110, 32, 48, 32, 48, 32, 48, 10, 98, 101, 97, 99, 111, 110, 32, 45, 52, 32, 50, 32, 49, 10]] : List (List UInt8)), u.length ≤ 30) b m2
  have lc : c.length ≤ 30 := (by decide : ∀ u ∈ ([[102, 105, 120, 32, 52, 10], [102, 105, 120, 32, 50, 10], [], [102, 105, 120, 32, 49, 10]] : List (List UInt8)), u.length ≤ 30) c m3
  have e6 : iAdd .i64 6 1 = 7 := rfl
  obtain ⟨v, s4, e4, v0, -, v1, h4⟩ := qbf (by omega) h3 7 (by decide)
  have v1 := v1 (by omega)
  obtain ⟨d, rfl⟩ : ∃ d : Nat, v = (d : Int) := ⟨v.toNat, by omega⟩
  obtain ⟨w, r1, r2⟩ := qw9 d (strCat (strCat a b) c) 0 s4 (by omega) (by unfold strCat; simp; omega) (h4.mono (by omega))
  refine ⟨w, ?_, r2⟩
  unfold spec_l08Told
  rw [e1]
  simp only [Option.bind_some]
  rw [e2]
  simp only [Option.bind_some]
  rw [qal (by omega)]
  simp only [cond_true]
  rw [e3]
  simp only [Option.bind_some]
  rw [qal (by unfold strCat; simp; omega), e6, e4]
  simp only [Option.bind_some, cond_true]
  exact r1
def dflT : List UInt8 := [98, 101, 97, 99, 111, 110, 32, 53, 32, 53, 32, 48, 10, 102, 105, 120, 32, 50, 10, 109, 111, 118, 101, 32, 49, 32, 49, 47, 50, 32, 48, 32, 54, 10, 114, 97, 110, 103, 101, 32, 48, 10, 109, 111, 118, 101, 32, 45, 49, 32, 48, 32, 49, 32, 52, 10]
def dflY : List (List UInt8) := [[98, 101, 97, 99, 111, 110, 32, 53, 32, 53, 32, 48], [102, 105, 120, 32, 50], [109, 111, 118, 101, 32, 49, 32, 49, 47, 50, 32, 48, 32, 54], [114, 97, 110, 103, 101, 32, 48], [109, 111, 118, 101, 32, 45, 49, 32, 48, 32, 49, 32, 52]]
theorem qvt : impl_textLines dflT = some ((dflY, ()), ()) := by kernel_rfl
abbrev dB : List (Vec 3 Nat) := [(1084227584, 1084227584, 0, ())]
theorem qab4 : impl_CompileMission_l5 ((dflY, ()), ()) (((8, (0, 0, 0, ()), [], [], ()), 0, [], 0, ()), ()) = some (.inl (((8, (0, 0, 0, ()), dB, [], ()), 0, [], 1, ()), ())) := by kernel_rfl
theorem qaca : impl_CompileMission_l5 ((dflY, ()), ()) (((8, (0, 0, 0, ()), dB, [], ()), 0, [], 1, ()), ()) = some (.inl (((8, (0, 0, 0, ()), dB, [], ()), 2, [], 2, ()), ())) := by kernel_rfl
end Go.Proofs.YtildomllnnnofaaGreat
