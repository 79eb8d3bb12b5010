import Derived.Test.YtildomllnnnofaaGreatP34
/- Functions of the program and of the reference in plain terms. -/
namespace Go.Proofs.YtildomllnnnofaaGreat
open Go Go.Tm
set_option linter.unusedVariables false
set_option linter.unusedSimpArgs false
set_option linter.unusedSectionVars false
theorem qx1 (v : Vec 6 Nat) : spec_l03SameSix v v = some ((true, ()), ()) := by
  unfold spec_l03SameSix
  simp only [qeq, qjj, Option.bind_some, Bool.not_true, cond_false]
theorem qgw (s : DState) : spec_SameState s s = some ((true, ()), ()) := by
  unfold spec_SameState spec_l03Same
  simp only [qx1, Option.bind_some, Bool.not_true, cond_false]
abbrev zE : DEntry := (0, (0, 0, 0, ()), (0, 0, 0, ()), 0, 0, ())
def entAt (g : DLog) (i : Nat) : DEntry := List.getD g.2.2.2.1 i zE
noncomputable def nextS (g : DLog) (s : DState) (e : DEntry) : DState := match impl_takeEntry g s e with
  | some y => y.1.1
  | none => s
noncomputable def fS (g : DLog) (s : DState) : Nat → DState
  | 0 => s
  | m + 1 => nextS g (fS g s m) (entAt g m)
def StepOK (g : DLog) (s : DState) (m : Nat) : Prop := stateB (fS g s m) = true ∧ stateB (fS g s (m + 1)) = true ∧ ∃ b, impl_takeEntry g (fS g s m) (entAt g m) = some ((fS g s (m + 1), b, 0, ()), ()) ∧ spec_l08Take g (fS g s m) (entAt g m) = some ((fS g s (m + 1), b, 0, ()), ()) ∧ (b = false → 3 ≤ (entAt g m).1)
theorem qwn {g : DLog} (hg : LogOK g) {i : Nat} (hi : i < g.2.2.2.1.length) : entAt g i = g.2.2.2.1[i] ∧ entryB (lenI g.2.2.1) (entAt g i) = true ∧ Fit (.arr 3 (.int .i16)) (entAt g i).2.2.1 := by
  obtain ⟨h1, -, -, -, -, h6⟩ := hg
  have e : entAt g i = g.2.2.2.1[i] := qau hi
  simp only [logB, Bool.and_eq_true] at h1
  rw [e]
  exact ⟨rfl, List.all_eq_true.1 h1.2.2 _ (List.getElem_mem hi), h6 _ (List.getElem_mem hi)⟩
theorem qxo {g : DLog} (hg : LogOK g) {i : Nat} (hi : i < g.2.2.2.1.length) {s : DState} (hs : stateB s = true) :
    ∃ w b k, impl_takeEntry g s (entAt g i) = some ((w, b, k, ()), ()) ∧ spec_l08Take g s (entAt g i) = some ((w, b, k, ()), ()) ∧ (k = 0 → stateB w = true) ∧ C4 k ∧ (k = 0 → b = false → 3 ≤ (entAt g i).1) := by
  obtain ⟨e, h1, h2⟩ := qwn hg hi
  obtain ⟨w, b, k, t1, t2, t3⟩ := qy0 g hs (entAt g i) h1 h2 (by have := hg.2.2.1; omega)
  obtain ⟨w', b', k', u1, u2, u3⟩ := qw1 g hg.2.1 hs (entAt g i) h1 h2 (by have := hg.2.2.1; omega)
  rw [t2] at u1
  simp only [Option.some.injEq, Prod.mk.injEq, and_true] at u1
  obtain ⟨rfl, rfl, rfl⟩ := u1
  exact ⟨w, b, k, t1, t2, t3, u2, u3⟩
theorem qt3 {g : DLog} (hg : LogOK g) {s : DState} {i : Nat} (hi : i < g.2.2.2.1.length) (hs : stateB (fS g s i) = true) :
    StepOK g s i ∨ ∃ w b, impl_takeEntry g (fS g s i) (entAt g i) = some ((w, b, 4, ()), ()) ∧ spec_l08Take g (fS g s i) (entAt g i) = some ((w, b, 4, ()), ()) := by
  obtain ⟨w, b, k, t1, t2, t3, t4, t5⟩ := qxo hg hi hs
  rcases t4 with rfl | rfl
  · have e : fS g s (i + 1) = w := by
      show nextS g (fS g s i) (entAt g i) = w
      unfold nextS
      rw [t1]
    left
    exact ⟨hs, by rw [e]; exact t3 rfl, b, by rw [e]; exact t1, by rw [e]; exact t2, t5 rfl⟩
  · exact .inr ⟨w, b, t1, t2⟩
theorem qth {g : DLog} {s : DState} {i j : Nat} (hi : i < j) (hj : j ≤ g.2.2.2.1.length) (hlen : g.2.2.2.1.length ≤ 1200) (h : StepOK g s i) {l : List Int} (hl : l.length ≤ i) :
    ∃ l' : List Int, l'.length ≤ i + 1 ∧ impl_replay_l3 (j : Int) g (l, (i : Int), fS g s i, ()) = some (.inl (l', ((i + 1 : Nat) : Int), fS g s (i + 1), ())) ∧ spec_l08Replay_l3 (j : Int) g (l, (i : Int), fS g s i, ()) = some (.inl (l', ((i + 1 : Nat) : Int), fS g s (i + 1), ())) := by
  obtain ⟨-, -, b, t1, t2, -⟩ := h
  have e1 : iLt (i : Int) (j : Int) = true := qah (by omega)
  have e2 : inB (i : Int) (List.length g.2.2.2.1) = true := qaf (by omega)
  have e4 : List.getD g.2.2.2.1 i ((0, (0, 0, 0, ()), (0, 0, 0, ()), 0, 0, ()) : DEntry) = entAt g i := rfl
  have e5 : iAdd .i64 (i : Int) 1 = ((i + 1 : Nat) : Int) := qap hi (by omega)
  have e6 : room (l.length + 1) 8 = true := qbk (by omega)
  have i0 : (!iEq (0 : Int) 0) = false := rfl
  refine ⟨bif !b then l ++ [(i : Int)] else l, ?_, ?_, ?_⟩
  · cases b
    · simp only [Bool.not_false, cond_true, List.length_append, List.length_singleton]; omega
    · simp only [Bool.not_true, cond_false]; omega
  · simp only [impl_replay_l3, e1, e2, e4, e5, e6, t1, i0, Int.toNat_natCast, Option.bind_some, cond_true, cond_false]
    cases b <;> rfl
  · simp only [spec_l08Replay_l3, e1, e2, e4, e5, e6, t2, i0, Int.toNat_natCast, Option.bind_some, cond_true, cond_false]
    cases b <;> rfl
theorem qtd {g : DLog} (s : DState) (j : Nat) (l : List Int) : impl_replay_l3 (j : Int) g (l, (j : Int), s, ()) = some (.inr ((s, l, 0, ()), ())) ∧ spec_l08Replay_l3 (j : Int) g (l, (j : Int), s, ()) = some (.inr ((s, l, 0, ()), ())) := by
  have e1 : iLt (j : Int) (j : Int) = false := qag (by omega)
  constructor
  · simp only [impl_replay_l3, e1, cond_false, Option.map_some]
  · simp only [spec_l08Replay_l3, e1, cond_false, Option.map_some]
theorem qv7 {g : DLog} (hg : LogOK g) {s : DState} {n : Nat} (hn : n ≤ g.2.2.2.1.length) (d : Nat) : ∀ (i : Nat) (l : List Int), i + d = n → l.length ≤ i → stateB (fS g s i) = true →
    (run (impl_replay_l3 (n : Int) g) (l, (i : Int), fS g s i, ()) = some ((zS, [], 4, ()), ()) ∧ run (spec_l08Replay_l3 (n : Int) g) (l, (i : Int), fS g s i, ()) = some ((zS, [], 4, ()), ())) ∨
    ((∃ l', run (impl_replay_l3 (n : Int) g) (l, (i : Int), fS g s i, ()) = some ((fS g s n, l', 0, ()), ()) ∧ run (spec_l08Replay_l3 (n : Int) g) (l, (i : Int), fS g s i, ()) = some ((fS g s n, l', 0, ()), ())) ∧ ∀ m, i ≤ m → m < n → StepOK g s m) := by
  have hlen := hg.2.2.2.1
  induction d with
  | zero =>
    intro i l hi hl hs
    have : i = n := by omega
    subst this
    right
    obtain ⟨a, b⟩ := qtd (g := g) (fS g s i) i l
    exact ⟨⟨l, qaj a, qaj b⟩, fun m h1 h2 => by omega⟩
  | succ d ih =>
    intro i l hi hl hs
    rcases qt3 hg (i := i) (by omega) hs with h | ⟨w, b, t1, t2⟩
    · obtain ⟨l', q1, q2, q3⟩ := qth (j := n) (by omega) hn hlen h hl
      rw [qad q2, qad q3]
      rcases ih (i + 1) l' (by omega) q1 h.2.1 with h2 | ⟨h2, h3⟩
      · exact .inl h2
      · refine .inr ⟨h2, fun m h4 h5 => ?_⟩
        rcases Nat.lt_or_ge i m with h6 | h6
        · exact h3 m h6 h5
        · have : m = i := by omega
          rw [this]; exact h
    · left
      have e1 : iLt (i : Int) (n : Int) = true := qah (by omega)
      have e2 : inB (i : Int) (List.length g.2.2.2.1) = true := qaf (by omega)
      have e4 : List.getD g.2.2.2.1 i ((0, (0, 0, 0, ()), (0, 0, 0, ()), 0, 0, ()) : DEntry) = entAt g i := rfl
      have i0 : (!iEq (4 : Int) 0) = true := rfl
      constructor
      · refine qaj ?_
        simp only [impl_replay_l3, e1, e2, e4, t1, i0, Int.toNat_natCast, Option.bind_some, cond_true]
        rfl
      · refine qaj ?_
        simp only [spec_l08Replay_l3, e1, e2, e4, t2, i0, Int.toNat_natCast, Option.bind_some, cond_true]
        rfl
theorem qzh {g : DLog} (hg : LogOK g) {s : DState} {j : Nat} (hj : j ≤ g.2.2.2.1.length) (h : ∀ m, m < j → StepOK g s m) (d : Nat) : ∀ (i : Nat) (l : List Int), i + d = j → l.length ≤ i →
    ∃ l', run (impl_replay_l3 (j : Int) g) (l, (i : Int), fS g s i, ()) = some ((fS g s j, l', 0, ()), ()) := by
  have hlen := hg.2.2.2.1
  induction d with
  | zero =>
    intro i l hi hl
    have : i = j := by omega
    subst this
    exact ⟨l, qaj (qtd (g := g) (fS g s i) i l).1⟩
  | succ d ih =>
    intro i l hi hl
    obtain ⟨l', q1, q2, -⟩ := qth (j := j) (by omega) hj hlen (h i (by omega)) hl
    rw [qad q2]
    exact ih (i + 1) l' (by omega) q1
theorem qgm {i n : Nat} (h : i ≤ n) : impl_within (i : Int) 0 (n : Int) = some ((true, ()), ()) := by
  rw [qbt, qbl, qaq (by omega), qaq (by omega)]; rfl
theorem qtx {g : DLog} (hg : LogOK g) {s : DState} {i j : Nat} (hij : i ≤ j) (hj : j ≤ g.2.2.2.1.length) (h : ∀ m, m < j → StepOK g s m) (hs : stateB (fS g s i) = true) : impl_ReplayFrom g (fS g s i) (i : Int) (j : Int) = some ((fS g s j, 0, ()), ()) := by
  obtain ⟨l', hr⟩ := qzh hg hj h (j - i) i [] (by omega) (Nat.zero_le _)
  have hL := qcu g hg.2.2.2.2.1
  rw [hg.1] at hL
  have hV := qas (fS g s i)
  rw [hs] at hV
  have hb : iLt (j : Int) (i : Int) = false := qag (by omega)
  unfold impl_ReplayFrom
  rw [hL, hV, qaa, qgm (by omega : i ≤ g.2.2.2.1.length), qgm hj, hb]
  simp only [Option.bind_some, Bool.not_true, cond_false]
  unfold impl_replay
  rw [hr]
  rfl
theorem qx9 {g : DLog} (hg : LogOK g) {s : DState} {k : Nat} (hk : k ≤ g.2.2.2.1.length) (hs : stateB s = true) : ∃ w, impl_ReplayFrom g s ((k + 1 : Nat) : Int) (k : Int) = some ((w, 2, ()), ()) := by
  have hL := qcu g hg.2.2.2.2.1
  rw [hg.1] at hL
  have hV := qas s
  rw [hs] at hV
  have hb : iLt (k : Int) ((k + 1 : Nat) : Int) = true := qah (by omega)
  unfold impl_ReplayFrom
  rw [hL, hV, qaa, qgm hk, hb]
  simp only [Option.bind_some, Bool.not_true, cond_false, cond_true]
  by_cases h : k + 1 ≤ g.2.2.2.1.length
  · rw [qgm h]
    exact ⟨_, rfl⟩
  · have e : impl_within ((k + 1 : Nat) : Int) 0 (g.2.2.2.1.length : Int) = some ((false, ()), ()) := by
      rw [qbt, qbl, qc9 (by omega : ¬ ((k + 1 : Nat) : Int) ≤ (g.2.2.2.1.length : Int)), Bool.and_false]
    rw [e]
    exact ⟨_, rfl⟩
theorem qp1 {l : List Int} (h : Fit (.list (.int .u8)) l) : ∀ x ∈ l, 0 ≤ x ∧ x ≤ 255 := fun x hx => h.2 x hx
theorem qyo {c : List Int} (h : ∀ x ∈ c, 0 ≤ x ∧ x ≤ 255) (hl : c.length ≤ 4096) (i : Nat) (k : Nat) (hk : 1 ≤ k) (hk2 : k ≤ 5000) : ∃ v : Nat, laws_a2At c (i : Int) (k : Int) = some (((v : Int), ()), ()) ∧ v < k := by
  unfold laws_a2At
  by_cases hi : i < c.length
  · have e1 : iLe (lenI c) (i : Int) = false := qc9 (by rw [qaa]; omega)
    have e2 : iLt (k : Int) 1 = false := qag (by omega)
    have e3 : inB (i : Int) (List.length c) = true := qaf hi
    have e4 : iEq (k : Int) 0 = false := qbm (by omega)
    have hx := h _ (List.getElem_mem hi)
    have e5 : iWrap .i64 c[i] = c[i] := qed (by omega) (by omega)
    have e6 : iRem .i64 c[i] (k : Int) = c[i] % (k : Int) := Int.tmod_eq_emod_of_nonneg hx.1
    rw [e1, e2, e3, e4, Int.toNat_natCast, qau hi, e5, e6]
    have m0 := Int.emod_nonneg c[i] (show (k : Int) ≠ 0 by omega)
    have m1 := Int.emod_lt_of_pos c[i] (show (0 : Int) < k by omega)
    refine ⟨(c[i] % (k : Int)).toNat, ?_, by omega⟩
    rw [Int.toNat_of_nonneg m0]
    rfl
  · have e1 : iLe (lenI c) (i : Int) = true := qaq (by rw [qaa]; omega)
    rw [e1]
    exact ⟨0, rfl, by omega⟩
theorem qzu {g : DLog} (hg : LogOK g) {s : DState} {k : Nat} (hk : k ≤ g.2.2.2.1.length) (h : ∀ m, m < k → StepOK g s m) (hs : stateB s = true) {x4 x5 : Int} (d : Nat) : ∀ i, i + d = k →
    run (laws_FnReplayed_l19 (((k : Int), ()), ()) ((g, ()), ()) ((s, x4, ()), ()) ((fS g s k, x5, ()), ())) ((i : Int), fS g s i, ()) = some ((true, ()), ()) := by
  have hlen := hg.2.2.2.1
  have hL := qcu g hg.2.2.2.2.1
  rw [hg.1] at hL
  obtain ⟨g1, g2, g3, g4, ⟨⟩⟩ := g
  induction d with
  | zero =>
    intro i hi
    have : i = k := by omega
    subst this
    have e1 : iLt (i : Int) (i : Int) = false := qag (by omega)
    have e5 : iAdd .i64 (i : Int) 1 = ((i + 1 : Nat) : Int) := qap (n := i + 1) (by omega) (by simp only at hk hlen; omega)
    obtain ⟨w, hw⟩ := qx9 hg hk hs
    refine qaj ?_
    unfold laws_FnReplayed_l19
    simp only
    rw [e1, e5, hw]
    simp only [cond_false, Option.bind_some]
    rw [qgw]
    rfl
  | succ d ih =>
    intro i hi
    have e1 : iLt (i : Int) (k : Int) = true := qah (by omega)
    have e2 : inB (i : Int) (List.length g4) = true := qaf (by simp only at hk; omega)
    have e5 : iAdd .i64 (i : Int) 1 = ((i + 1 : Nat) : Int) := qap (n := k) (by omega) (by simp only at hk hlen; omega)
    obtain ⟨p1, p2, b, t1, -, t3⟩ := h i (by omega)
    have hV := qas (fS (g1, g2, g3, g4, ()) s i)
    rw [p1] at hV
    obtain ⟨-, q1, -⟩ := qwn hg (i := i) (by simp only at hk ⊢; omega)
    have hE := qf2 (entAt (g1, g2, g3, g4, ()) i) (lenI g3)
    rw [q1] at hE
    have e4 : List.getD g4 i ((0, (0, 0, 0, ()), (0, 0, 0, ()), 0, 0, ()) : DEntry) = entAt (g1, g2, g3, g4, ()) i := rfl
    have i0 : (!iEq (0 : Int) 0) = false := rfl
    have hT : impl_TakeEntry (g1, g2, g3, g4, ()) (fS (g1, g2, g3, g4, ()) s i) (entAt (g1, g2, g3, g4, ()) i) = some ((fS (g1, g2, g3, g4, ()) s (i + 1), b, 0, ()), ()) := by
      unfold impl_TakeEntry
      rw [hL, hV]
      simp only [Option.bind_some, Bool.not_true, cond_false]
      rw [hE, t1]
      rfl
    have hs : laws_FnReplayed_l19 (((k : Int), ()), ()) (((g1, g2, g3, g4, ()), ()), ()) ((s, x4, ()), ()) ((fS (g1, g2, g3, g4, ()) s k, x5, ()), ()) ((i : Int), fS (g1, g2, g3, g4, ()) s i, ()) = some (.inl (((i + 1 : Nat) : Int), fS (g1, g2, g3, g4, ()) s (i + 1), ())) := by
      unfold laws_FnReplayed_l19
      simp only
      rw [e1, e2, Int.toNat_natCast, e4, e5, hT]
      simp only [Option.bind_some, cond_true, cond_false, i0]
      cases b with
      | true => rfl
      | false =>
        have e3 : iLt (entAt (g1, g2, g3, g4, ()) i).1 3 = false := qag (fun q => absurd q (Int.not_lt.2 (t3 rfl)))
        rw [e3]
        rfl
    rw [qad hs]
    exact ih (i + 1) (by omega)
theorem qif (a0 : List Int) (h0 : Fit (.list (.int .u8)) a0) (a1 : List Int) (h1 : Fit (.list (.int .u8)) a1) : ∃ o, laws_FnReplayed a0 a1 = some ((true, ()), o) := by
  refine ⟨(), ?_⟩
  unfold laws_FnReplayed laws_a2Long
  by_cases l0 : a0.length ≤ 3000
  · by_cases l1 : a1.length ≤ 3000
    · have e0 : iLt 3000 (lenI a0) = false := qag (by rw [qaa]; omega)
      have e1 : iLt 3000 (lenI a1) = false := qag (by rw [qaa]; omega)
      obtain ⟨g, hg0, hg⟩ := qyz (qp1 h0) (by omega)
      have hlen := hg.2.2.2.1
      have hv := qvi hg.1
      have hs : stateB (firstS g.2.1) = true := qkl hv
      have hL := qcu g hg.2.2.2.2.1
      have hL2 := qo7 g hg.2.2.2.2.1
      rw [hg.1] at hL hL2
      have i0 : (!iEq (0 : Int) 0) = false := rfl
      have i4 : (!iEq (4 : Int) 0) = true := rfl
      have hF : impl_FirstState g = some ((firstS g.2.1, 0, ()), ()) := by
        unfold impl_FirstState
        rw [hL, qdi g hv]
        rfl
      have hlenE : lenI g.2.2.2.1 = (g.2.2.2.1.length : Int) := qaa _
      have key := qv7 hg (s := firstS g.2.1) (n := g.2.2.2.1.length) (Nat.le_refl _) g.2.2.2.1.length 0 [] (by omega) (Nat.zero_le _) hs
      rcases key with ⟨r1, r2⟩ | ⟨⟨l', r1, r2⟩, hst⟩
      · have hR : impl_ReplayLog g = some ((zS, 4, ()), ()) := by
          unfold impl_ReplayLog impl_replay
          rw [hL, qdi g hv, hlenE]
          simp only [Option.bind_some, Bool.not_true, cond_false]
          exact (congrArg (fun z => Option.bind z _) r1).trans rfl
        have hR2 : spec_ReplayLog g = some ((zS, 4, ()), ()) := by
          unfold spec_ReplayLog spec_l08Replay
          rw [hL2, qg3 g, hlenE]
          simp only [Option.bind_some, Bool.not_true, cond_false]
          exact (congrArg (fun z => Option.bind z _) r2).trans rfl
        obtain ⟨g1, g2, g3, g4, ⟨⟩⟩ := g
        rw [e0, e1]
        simp only [cond_false, Option.bind_some]
        rw [hg0]
        simp only [Option.bind_some]
        rw [hR, hR2, hF]
        simp only [Option.bind_some]
        rw [qgw, qbq.2 rfl, i4, i0]
        rfl
      · have hR : impl_ReplayLog g = some ((fS g (firstS g.2.1) g.2.2.2.1.length, 0, ()), ()) := by
          unfold impl_ReplayLog impl_replay
          rw [hL, qdi g hv, hlenE]
          simp only [Option.bind_some, Bool.not_true, cond_false]
          exact (congrArg (fun z => Option.bind z _) r1).trans rfl
        have hR2 : spec_ReplayLog g = some ((fS g (firstS g.2.1) g.2.2.2.1.length, 0, ()), ()) := by
          unfold spec_ReplayLog spec_l08Replay
          rw [hL2, qg3 g, hlenE]
          simp only [Option.bind_some, Bool.not_true, cond_false]
          exact (congrArg (fun z => Option.bind z _) r2).trans rfl
        have hst' : ∀ m, m < g.2.2.2.1.length → StepOK g (firstS g.2.1) m := fun m hm => hst m (Nat.zero_le _) hm
        obtain ⟨k, hk, hk2⟩ := qyo (qp1 h1) (by omega) 0 (g.2.2.2.1.length + 1) (by omega) (by omega)
        replace hk : laws_a2At a1 (0 : Int) ((g.2.2.2.1.length + 1 : Nat) : Int) = some (((k : Int), ()), ()) := hk
        have ea : iAdd .i64 (g.2.2.2.1.length : Int) 1 = ((g.2.2.2.1.length + 1 : Nat) : Int) := qap (n := g.2.2.2.1.length + 1) (by omega) (by omega)
        have hsk : stateB (fS g (firstS g.2.1) k) = true := by
          rcases Nat.eq_zero_or_pos k with h | h
          · rw [h]; exact hs
          · have := (hst' (k - 1) (by omega)).2.1
            rw [show k - 1 + 1 = k by omega] at this
            exact this
        have f1 : impl_ReplayFrom g (firstS g.2.1) (0 : Int) (k : Int) = some ((fS g (firstS g.2.1) k, 0, ()), ()) := qtx hg (s := firstS g.2.1) (i := 0) (Nat.zero_le _) (by omega) (fun m hm => hst' m (by omega)) hs
        have f2 := qtx hg (s := firstS g.2.1) (i := k) (j := g.2.2.2.1.length) (by omega) (Nat.le_refl _) hst' hsk
        have f3 := qzu hg (s := firstS g.2.1) (k := k) (x4 := 0) (x5 := 0) (by omega) (fun m hm => hst' m (by omega)) hs k 0 (by omega)
        generalize hfs : firstS g.2.1 = S at *
        obtain ⟨g1, g2, g3, g4, ⟨⟩⟩ := g
        rw [e0, e1]
        simp only [cond_false, Option.bind_some]
        rw [hg0]
        simp only [Option.bind_some]
        rw [hR, hR2, hF]
        simp only [Option.bind_some]
        simp only at hlenE ea hk f1 f2 f3
        rw [qgw, qbq.2 rfl, hlenE, ea]
        simp only [Option.bind_some, Bool.not_true, cond_false]
        rw [hk]
        simp only [Option.bind_some]
        rw [f1]
        simp only [Option.bind_some]
        rw [f2]
        simp only [Option.bind_some, i0, cond_false]
        rw [qgw]
        simp only [Option.bind_some, Bool.not_true, cond_false]
        exact f3
    · have e0 : iLt 3000 (lenI a0) = false := qag (by rw [qaa]; omega)
      have e1 : iLt 3000 (lenI a1) = true := qah (by rw [qaa]; omega)
      rw [e0, e1]; rfl
  · have e0 : iLt 3000 (lenI a0) = true := qah (by rw [qaa]; omega)
    rw [e0]; rfl
end Go.Proofs.YtildomllnnnofaaGreat
