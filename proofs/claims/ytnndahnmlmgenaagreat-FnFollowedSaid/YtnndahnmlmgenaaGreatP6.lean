/- Functions of the program and of the reference in plain terms. -/
import Derived.Test.YtnndahnmlmgenaaGreatP5
namespace Go.Proofs.YtnndahnmlmgenaaGreat
open Go Go.Tm
set_option linter.unusedVariables false
set_option linter.unusedSimpArgs false
set_option linter.unusedSectionVars false
/-! ### CostsTo -/
theorem spotsCode_zero {g : DGrid} {l : List (Vec 2 Int)} (h : iEq (spotsCode g l) 0 = true) : spotsCode g l = 0 ∧ gridB g = true ∧ ∀ s ∈ l, hasB g s = true := by
  rw [iEq_true] at h
  refine ⟨h, ?_⟩
  unfold spotsCode at h
  cases hg : gridB g with
  | false => rw [hg, cond_false] at h; exact absurd h (by decide)
  | true =>
    rw [hg, cond_true] at h
    cases ha : (l.any fun s => !hasB g s) with
    | true => rw [ha, cond_true] at h; exact absurd h (by decide)
    | false =>
      refine ⟨rfl, fun s hs => ?_⟩
      have := List.any_eq_false.1 ha s hs
      simpa using this

theorem spec_l07Open_ok (g : DGrid) (l : List (Vec 2 Int)) (hl : l.length ≤ 1000000) (hfit : ∀ s ∈ l, Fit TySpot s) : spec_l07Open g l = some ((bif iEq (spotsCode g l) 0 then (bif l.any (wallB g) then 4 else 0) else spotsCode g l, ()), ()) := by
  simp only [spec_l07Open, spec_l07Asked_ok g l (by omega), Option.bind_some]
  cases h0 : iEq (spotsCode g l) 0 with
  | false => rfl
  | true =>
    obtain ⟨_, hg, hh⟩ := spotsCode_zero h0
    simp only [Bool.not_true, cond_false, cond_true]
    have key : ∀ (r q : List (Vec 2 Int)), q ++ r = l → run (spec_l07Open_l5 l g) ((q.length : Int), ()) = some ((bif r.any (wallB g) then 4 else 0, ()), ()) := by
      intro r
      induction r with
      | nil =>
        intro q hq
        rw [List.append_nil] at hq
        subst hq
        refine run_done ?_
        have e1 : iLt (q.length : Int) (lenI q) = false := iLt_neg (by rw [lenI_eq]; omega)
        simp only [spec_l07Open_l5, e1, cond_false]
        rfl
      | cons x r ih =>
        intro q hq
        have hlt : q.length < l.length := by rw [← hq]; simp
        have hx : l[q.length] = x := by simp [← hq]
        have hm : x ∈ l := by rw [← hq]; simp
        have e1 : iLt (q.length : Int) (lenI l) = true := iLt_pos (by rw [lenI_eq]; omega)
        have e2 : inB (q.length : Int) l.length = true := inB_pos hlt
        have e4 : l.getD q.length ((0, 0, ()) : (Vec 2 Int)) = x := (getD_of hlt).trans hx
        have e5 : iAdd .i64 (q.length : Int) 1 = ((q.length + 1 : Nat) : Int) := iAdd_one hlt (by omega)
        have e6 : spec_l07Open_l5 l g ((q.length : Int), ()) = bif wallB g x then some (.inr ((4, ()), ())) else some (.inl (((q.length + 1 : Nat) : Int), ())) := by
          simp only [spec_l07Open_l5, e1, e2, e4, e5, Int.toNat_natCast, spec_l07Wall_ok (hfit x hm) hg (hh x hm), Option.bind_some, cond_true]
          cases wallB g x <;> rfl
        cases hb : wallB g x with
        | true =>
          rw [hb] at e6
          refine (run_done e6).trans ?_
          simp [hb]
        | false =>
          rw [hb] at e6
          have e2 : ((q.length + 1 : Nat) : Int) = ((q ++ [x]).length : Int) := by simp
          rw [run_step e6, e2, ih (q ++ [x]) (by rw [← hq]; simp)]
          simp [hb]
    exact key l [] rfl

/-! ### BestRoute -/
/-- a way that costs just what is told -/
structure Path (g : DGrid) (out : List Int) (a b : Vec 2 Int) (r : List (Vec 2 Int)) : Prop where
  pos : 0 < r.length
  first : r[0] = a
  last : r[r.length - 1]'(by omega) = b
  fit : ∀ s ∈ r, Fit TySpot s ∧ hasB g s = true ∧ wallB g s = false ∧ 0 ≤ valI g out s
  step : ∀ (i : Nat) (h : i + 1 < r.length), stepB g r[i] r[i + 1] = true ∧ stepC g r[i] r[i + 1] + valI g out r[i + 1] = valI g out r[i]
def bestB (g : DGrid) (out : List Int) (a : Vec 2 Int) (k : Nat) : Bool := stepB g a (nb a k) && (iLe 0 (valI g out (nb a k)) && iEq (stepC g a (nb a k) + valI g out (nb a k)) (valI g out a))
theorem Path.snoc {g : DGrid} {out : List Int} {a b c : Vec 2 Int} {r : List (Vec 2 Int)} (h : Path g out a b r) (hc : Fit TySpot c ∧ hasB g c = true ∧ wallB g c = false ∧ 0 ≤ valI g out c) (hs : stepB g b c = true ∧ stepC g b c + valI g out c = valI g out b) : Path g out a c (r ++ [c]) := by
  have hp := h.pos
  refine ⟨by simp, ?_, ?_, ?_, ?_⟩
  · rw [List.getElem_append_left hp]; exact h.first
  · simp
  · intro s hs'
    rcases List.mem_append.1 hs' with hs' | hs'
    · exact h.fit s hs'
    · rw [List.mem_singleton] at hs'; rw [hs']; exact hc
  · intro i hi
    have hi' : i + 1 ≤ r.length := by have : i < r.length := by simpa using hi
                                      omega
    have e0 : (r ++ [c])[i]'(by omega) = r[i]'(by omega) := List.getElem_append_left (by omega)
    by_cases hlt : i + 1 < r.length
    · have e1 : (r ++ [c])[i + 1]'hi = r[i + 1] := List.getElem_append_left hlt
      rw [e0, e1]
      exact h.step i hlt
    · have hil : i = r.length - 1 := by omega
      have e1 : (r ++ [c])[i + 1]'hi = c := by
        rw [List.getElem_append_right (by omega)]; simp
      have e2 : r[i]'(by omega) = b := by
        have := h.last
        simp only [hil]
        exact this
      rw [e0, e1, e2]
      exact hs
theorem Path.drop {g : DGrid} (hf : Fit TyGrid g) (hg : gridB g = true) {out : List Int} {a b : Vec 2 Int} {r : List (Vec 2 Int)} (h : Path g out a b r) : ∀ (d i : Nat) (hi : i + d < r.length), valI g out r[i + d] + 10 * (d : Int) ≤ valI g out r[i]
  | 0, i, hi => by simp
  | d + 1, i, hi => by
    have ih := Path.drop hf hg h d i (by omega)
    obtain ⟨_, h2⟩ := h.step (i + d) hi
    obtain ⟨c1, _⟩ := stepC_bounds hf hg r[i + d] r[i + d + 1]
    have e : r[i + (d + 1)]'hi = r[i + d + 1]'hi := rfl
    rw [e]
    omega
theorem nodup_le : ∀ {n : Nat} {l : List Nat}, l.Nodup → (∀ x ∈ l, x < n) → l.length ≤ n
  | 0, l, _, h => by
    cases l with
    | nil => exact Nat.le_refl _
    | cons x _ => exact absurd (h x (List.mem_cons_self ..)) (Nat.not_lt_zero _)
  | n + 1, l, hd, h => by
    by_cases hm : n ∈ l
    · have h1 := List.length_erase_of_mem hm
      have h2 : (l.erase n).length ≤ n := nodup_le (hd.erase n) fun x hx => by
        have := (List.Nodup.mem_erase_iff hd).1 hx
        have := h x this.2
        omega
      omega
    · have : l.length ≤ n := nodup_le hd fun x hx => by
        have h1 := h x hx
        have : x ≠ n := fun e => hm (e ▸ hx)
        omega
      omega
theorem Path.short {g : DGrid} (hf : Fit TyGrid g) (hg : gridB g = true) {out : List Int} {a b : Vec 2 Int} {r : List (Vec 2 Int)} (h : Path g out a b r) : r.length ≤ 576 := by
  have hN := cells_le hf hg
  have hd : (r.map fun s => (atI g s).toNat).Nodup := by
    rw [List.Nodup, List.pairwise_map, List.pairwise_iff_getElem]
    intro i j hi hj hij he
    have hv : valI g out r[i] = valI g out r[j] := by unfold valI; rw [he]
    obtain ⟨d, rfl⟩ : ∃ d, j = i + d := ⟨j - i, by omega⟩
    have := h.drop hf hg d i hj
    omega
  have := nodup_le (n := g.2.2.1.length) hd fun x hx => by
    obtain ⟨s, hs, rfl⟩ := List.mem_map.1 hx
    obtain ⟨f1, f2, _⟩ := h.fit s hs
    obtain ⟨e, a1, b1⟩ := atI_eq f1 hg f2
    rw [e]; omega
  rw [List.length_map] at this
  omega
section
variable {g : DGrid} (hf : Fit TyGrid g) (hg : gridB g = true)
include hf hg
theorem impl_best_l13 {goal : Vec 2 Int} {out : List Int} (hL : Lab g goal out) {a : Vec 2 Int} (ha : Fit TySpot a) (hh : hasB g a = true) {k : Nat} (hk : k < 8) {r : List (Vec 2 Int)} (hn : r.length ≤ 300000000) :
    impl_BestRoute_l13 ((waysL, ()), ()) (r, a, ()) g ((out, ()), ()) ((k : Int), ()) = bif bestB g out a k then some (.inr (.inl (r ++ [nb a k], nb a k, ()))) else some (.inl (((k + 1 : Nat) : Int), ())) := by
  obtain ⟨fa, b1, b2⟩ := nb_fit hf hg ha hh hk
  have e1 : iLt (k : Int) (lenI waysL) = true := iLt_pos (by rw [lenI_eq]; show (k : Int) < 8; omega)
  have e2 : inB (k : Int) waysL.length = true := inB_pos hk
  have ew : waysL.getD k ((0, 0, ()) : (Vec 2 Int)) = wayK k := rfl
  have w0 : Vec.getD 2 (wayK k) 0 (0 : Int) = (wayK k).1 := rfl
  have w1 : Vec.getD 2 (wayK k) 1 (0 : Int) = (wayK k).2.1 := rfl
  have t0 : Vec.getD 2 a 0 (0 : Int) = a.1 := rfl
  have t1 : Vec.getD 2 a 1 (0 : Int) = a.2.1 := rfl
  simp only [nb] at b1 b2
  have x0 : iAdd .i16 a.1 (wayK k).1 = a.1 + (wayK k).1 := iAdd16_eq (by omega) (by omega)
  have x1 : iAdd .i16 a.2.1 (wayK k).2.1 = a.2.1 + (wayK k).2.1 := iAdd16_eq (by omega) (by omega)
  have en : ((a.1 + (wayK k).1, a.2.1 + (wayK k).2.1, ()) : Vec 2 Int) = nb a k := rfl
  have ek : iAdd .i64 (k : Int) 1 = ((k + 1 : Nat) : Int) := iAdd_one hk (by omega)
  have er : room (r.length + 1) 4 = true := room_pos (by omega)
  simp only [impl_BestRoute_l13, e1, e2, ew, w0, w1, t0, t1, x0, x1, en, ek, er, Int.toNat_natCast, cond_true, impl_Grid_at_ok, impl_Grid_stepCost_ok hf hg ha fa hh, Option.bind_some, bestB]
  cases hs : stepB g a (nb a k) with
  | false => rfl
  | true =>
    have hb : hasB g (nb a k) = true := by simp only [stepB, Bool.and_eq_true] at hs; exact hs.2.1
    have i1 := out_inB hf hg ha hh hL.len
    have i2 := out_inB hf hg fa hb hL.len
    have v1 := val_le hf hg hL fa hb
    obtain ⟨c1, c2⟩ := stepC_bounds hf hg a (nb a k)
    have q1 : List.getD out (atI g a).toNat (0 : Int) = valI g out a := rfl
    have q2 : List.getD out (atI g (nb a k)).toNat (0 : Int) = valI g out (nb a k) := rfl
    have q3 : iAdd .i64 (stepC g a (nb a k)) (valI g out (nb a k)) = stepC g a (nb a k) + valI g out (nb a k) := iAdd_eq (by omega) (by omega)
    simp only [cond_true, Bool.true_and, i1, i2, q1, q2, q3]
    cases iLe 0 (valI g out (nb a k)) with
    | false => rfl
    | true => cases iEq (stepC g a (nb a k) + valI g out (nb a k)) (valI g out a) <;> rfl
theorem spec_best_l14 {goal : Vec 2 Int} {out : List Int} (hL : Lab g goal out) {a : Vec 2 Int} (ha : Fit TySpot a) (hh : hasB g a = true) {k : Nat} (hk : k < 8) {r : List (Vec 2 Int)} (hn : r.length ≤ 300000000) :
    spec_BestRoute_l14 ((waysL, ()), ()) g (r, a, ()) ((out, ()), ()) (valI g out a) ((k : Int), ()) = bif bestB g out a k then some (.inr (.inl (r ++ [nb a k], nb a k, ()))) else some (.inl (((k + 1 : Nat) : Int), ())) := by
  obtain ⟨fa, b1, b2⟩ := nb_fit hf hg ha hh hk
  obtain ⟨hnr, ex, ey⟩ := nb_near (t := a) hk
  have e1 : iLt (k : Int) 8 = true := iLt_pos (by omega)
  have e2 : inB (k : Int) waysL.length = true := inB_pos hk
  have ew : waysL.getD k ((0, 0, ()) : (Vec 2 Int)) = wayK k := rfl
  have w0 : Vec.getD 2 (wayK k) 0 (0 : Int) = dxI a (nb a k) := ex.symm
  have w1 : Vec.getD 2 (wayK k) 1 (0 : Int) = dyI a (nb a k) := ey.symm
  have ek : iAdd .i64 (k : Int) 1 = ((k + 1 : Nat) : Int) := iAdd_one hk (by omega)
  have er : room (r.length + 1) 4 = true := room_pos (by omega)
  have m := spec_l07Move_ok hf hg ha fa hh hnr
  cases hs : stepB g a (nb a k) with
  | false =>
    obtain ⟨zz, m'⟩ : ∃ zz : Vec 2 Int, spec_l07Move g a (dxI a (nb a k)) (dyI a (nb a k)) = some ((zz, 0, false, ()), ()) := ⟨_, by rw [m, hs]; rfl⟩
    simp only [spec_BestRoute_l14, e1, e2, ew, w0, w1, ek, m', Int.toNat_natCast, cond_true, Option.bind_some, bestB, hs, Bool.false_and, cond_false]
  | true =>
    have m' : spec_l07Move g a (dxI a (nb a k)) (dyI a (nb a k)) = some ((nb a k, stepC g a (nb a k), true, ()), ()) := by rw [m, hs]; rfl
    simp only [spec_BestRoute_l14, e1, e2, ew, w0, w1, ek, er, m', Int.toNat_natCast, cond_true, spec_l07Index_ok, Option.bind_some, bestB, hs]
    have hb : hasB g (nb a k) = true := by simp only [stepB, Bool.and_eq_true] at hs; exact hs.2.1
    have i2 := out_inB hf hg fa hb hL.len
    have v1 := val_le hf hg hL fa hb
    obtain ⟨c1, c2⟩ := stepC_bounds hf hg a (nb a k)
    have q2 : List.getD out (atI g (nb a k)).toNat (0 : Int) = valI g out (nb a k) := rfl
    have q3 : iAdd .i64 (stepC g a (nb a k)) (valI g out (nb a k)) = stepC g a (nb a k) + valI g out (nb a k) := iAdd_eq (by omega) (by omega)
    simp only [cond_true, Bool.true_and, i2, q2, q3]
    cases iLe 0 (valI g out (nb a k)) with
    | false => rfl
    | true => cases iEq (stepC g a (nb a k) + valI g out (nb a k)) (valI g out a) <;> rfl
/-- from each place with a cost a step leads on -/
theorem best_ex {goal : Vec 2 Int} {out : List Int} (hL : Lab g goal out) (hc : ∀ u, Fit TySpot u → hasB g u = true → closedAt g out u) {a : Vec 2 Int} (ha : Fit TySpot a) (hh : hasB g a = true) (h0 : 0 ≤ valI g out a) (hne : a ≠ goal) : ∃ k, k < 8 ∧ bestB g out a k = true := by
  have hw := hL.walk a ha hh h0
  generalize hv : valI g out a = v at hw
  cases hw with
  | nil => exact absurd rfl hne
  | @cons _ b d he hb hw =>
    obtain ⟨_, e2, _, _, hst, _⟩ := edge_has hf hg he
    obtain ⟨k1, k2⟩ := lab_least hf hg hL hc hw hb
    obtain ⟨m1, m2⟩ := hc b hb e2 k1 a ha he
    have hn : nearB a b = true := by simp only [stepB, Bool.and_eq_true] at hst; exact hst.1
    obtain ⟨k, hk, rfl⟩ := nb_of_near hn
    refine ⟨k, hk, ?_⟩
    simp only [bestB, hst, Bool.true_and, Bool.and_eq_true, iLe_true, iEq_true]
    omega
theorem spot_eq {a b : Vec 2 Int} : (iEq (Vec.getD 2 a 0 (0 : Int)) (Vec.getD 2 b 0 (0 : Int)) && (iEq (Vec.getD 2 a 1 (0 : Int)) (Vec.getD 2 b 1 (0 : Int)) && true)) = true ↔ a = b := by
  obtain ⟨x, y, ⟨⟩⟩ := a
  obtain ⟨x', y', ⟨⟩⟩ := b
  simp only [Vec.getD, Bool.and_true, Bool.and_eq_true, iEq_true]
  constructor
  · rintro ⟨rfl, rfl⟩; rfl
  · intro h; cases h; exact ⟨rfl, rfl⟩
theorem best_run {goal : Vec 2 Int} {out : List Int} (hL : Lab g goal out) (hc : ∀ u, Fit TySpot u → hasB g u = true → closedAt g out u) {a : Vec 2 Int} (ha : Fit TySpot a) (hh : hasB g a = true) (hw : wallB g a = false) (h0 : 0 ≤ valI g out a) (all : Int) :
    ∃ r : List (Vec 2 Int), Path g out a goal r ∧ run (impl_BestRoute_l11 goal all g ((out, ()), ())) ([a], a, ()) = some ((r, all, (0 : Int), ()), ()) ∧ run (spec_BestRoute_l11 goal g ((out, ()), ()) all ((waysL, ()), ())) ([a], a, ()) = some ((r, all, (0 : Int), ()), ()) := by
  have rt := run_two (f := impl_BestRoute_l11 goal all g ((out, ()), ())) (g := spec_BestRoute_l11 goal g ((out, ()), ()) all ((waysL, ()), ())) (fun s t => s = t ∧ Path g out a s.2.1 s.1) (fun s => (valI g out s.2.1).toNat) (fun x y => x = y ∧ ∃ r, x = ((r, all, (0 : Int), ()), ()) ∧ Path g out a goal r) (fun s t hR => by
    obtain ⟨rfl, hp⟩ := hR
    obtain ⟨r, b, ⟨⟩⟩ := s
    simp only at hp
    have hb : b ∈ r := by have := hp.last; rw [← this]; exact List.getElem_mem _
    obtain ⟨f1, f2, f3, f4⟩ := hp.fit b hb
    have hshort := hp.short hf hg
    by_cases he : b = goal
    · right
      have e := (spot_eq hf hg (a := b) (b := goal)).2 he
      refine ⟨_, _, ?_, ?_, rfl, r, rfl, he ▸ hp⟩
      · simp only [impl_BestRoute_l11, e, Bool.not_true, cond_false]; rfl
      · simp only [spec_BestRoute_l11, e, Bool.not_true, cond_false]; rfl
    · left
      have e : (iEq (Vec.getD 2 b 0 (0 : Int)) (Vec.getD 2 goal 0 (0 : Int)) && (iEq (Vec.getD 2 b 1 (0 : Int)) (Vec.getD 2 goal 1 (0 : Int)) && true)) = false := by
        cases h : (iEq (Vec.getD 2 b 0 (0 : Int)) (Vec.getD 2 goal 0 (0 : Int)) && (iEq (Vec.getD 2 b 1 (0 : Int)) (Vec.getD 2 goal 1 (0 : Int)) && true)) with
        | false => rfl
        | true => exact absurd ((spot_eq hf hg).1 h) he
      obtain ⟨k, hk, hkp, hkf⟩ := first_of (best_ex hf hg hL hc f1 f2 f4 he)
      have r1 := run_first (f := impl_BestRoute_l13 ((waysL, ()), ()) (r, b, ()) g ((out, ()), ())) (p := bestB g out b) (r := fun k => .inl (r ++ [nb b k], nb b k, ())) (n := 8) (fun j hj => impl_best_l13 hf hg hL f1 f2 hj (by omega)) hk hkp hkf
      have r2 := run_first (f := spec_BestRoute_l14 ((waysL, ()), ()) g (r, b, ()) ((out, ()), ()) (valI g out b)) (p := bestB g out b) (r := fun k => .inl (r ++ [nb b k], nb b k, ())) (n := 8) (fun j hj => spec_best_l14 hf hg hL f1 f2 hj (by omega)) hk hkp hkf
      obtain ⟨fa, _, _⟩ := nb_fit hf hg f1 f2 hk
      simp only [bestB, Bool.and_eq_true, iLe_true, iEq_true] at hkp
      obtain ⟨q1, q2, q3⟩ := hkp
      obtain ⟨c1, c2⟩ := stepC_bounds hf hg b (nb b k)
      have hsb := q1
      simp only [stepB, Bool.and_eq_true, Bool.not_eq_true'] at hsb
      have ew : impl_ways = some ((waysL, ()), ()) := rfl
      have i1 := out_inB hf hg f1 f2 hL.len
      have qv : List.getD out (atI g b).toNat (0 : Int) = valI g out b := rfl
      refine ⟨(r ++ [nb b k], nb b k, ()), (r ++ [nb b k], nb b k, ()), ?_, ?_, ⟨rfl, hp.snoc ⟨fa, hsb.2.1, hsb.2.2.1, q2⟩ ⟨q1, q3⟩⟩, ?_⟩
      · simp only [impl_BestRoute_l11, e, Bool.not_false, cond_true, ew, Option.bind_some]
        exact r1
      · simp only [spec_BestRoute_l11, e, Bool.not_false, cond_true, spec_l07Index_ok, i1, qv, Option.bind_some]
        exact r2
      · show (valI g out (nb b k)).toNat < (valI g out b).toNat
        omega) (s := ([a], a, ())) (t := ([a], a, ())) ⟨rfl, ⟨by simp, rfl, rfl, fun s hs => by rw [List.mem_singleton] at hs; rw [hs]; exact ⟨ha, hh, hw, h0⟩, fun i hi => by simp at hi⟩⟩
  obtain ⟨x, y, h1, h2, rfl, r, rfl, hp⟩ := rt
  exact ⟨r, hp, h1, h2⟩
end

/-- what the best route is -/
theorem bestRoute_ok (g : DGrid) (hf : Fit TyGrid g) (a b : Vec 2 Int) (ha : Fit TySpot a) (hb : Fit TySpot b) : ∃ w : List (Vec 2 Int) × Int × Int × Unit, spec_BestRoute g a b = some (w, ()) ∧ impl_BestRoute g a b = some (w, ()) ∧ w.1.length ≤ 576 ∧ (∀ s ∈ w.1, Fit TySpot s) ∧
    (gridB g = true → hasB g a = true → hasB g b = true → (w.2.2.1 = 4 ∧ (wallB g a = true ∨ wallB g b = true)) ∨ (wallB g a = false ∧ wallB g b = false ∧ ∃ out, impl_Grid_costsTo g b = some ((out, ()), ()) ∧ Lab g b out ∧ (∀ u, Fit TySpot u → hasB g u = true → closedAt g out u) ∧
      ((w.2.2.1 = 6 ∧ valI g out a < 0) ∨ (w.2.2.1 = 0 ∧ w.2.1 = valI g out a ∧ Path g out a b w.1)))) := by
  have ho := spec_l07Open_ok g [a, b] (by simp) (fun x hx => by
    rcases List.mem_cons.1 hx with rfl | hx
    · exact ha
    · rw [List.mem_singleton] at hx; rw [hx]; exact hb)
  simp only [spec_BestRoute, impl_BestRoute, ho, impl_checkSpots_ok g [a, b] (by simp), Option.bind_some]
  cases h0 : iEq (spotsCode g [a, b]) 0 with
  | false =>
    simp only [h0, Bool.not_false, cond_true, cond_false]
    refine ⟨_, rfl, rfl, Nat.zero_le _, fun s hs => absurd hs (List.not_mem_nil), fun hg h1 h2 => ?_⟩
    have : spotsCode g [a, b] = 0 := by simp [spotsCode, hg, h1, h2]
    rw [this, iEq_self] at h0
    exact absurd h0 (by decide)
  | true =>
    obtain ⟨e0, hg, hh⟩ := spotsCode_zero h0
    have hha := hh a (by simp)
    have hhb := hh b (by simp)
    have n4 : iEq 4 0 = false := by decide
    simp only [Bool.not_true, cond_false, cond_true, impl_Grid_isWall_ok ha hg hha, impl_Grid_isWall_ok hb hg hhb, Option.bind_some, List.any_cons, List.any_nil, Bool.or_false]
    cases hwa : wallB g a with
    | true =>
      simp only [Bool.true_or, cond_true, n4, Bool.not_false]
      exact ⟨_, rfl, rfl, Nat.zero_le _, fun s hs => absurd hs (List.not_mem_nil), fun _ _ _ => .inl ⟨rfl, .inl trivial⟩⟩
    | false =>
      cases hwb : wallB g b with
      | true =>
        simp only [Bool.or_true, cond_true, cond_false, n4, Bool.not_false]
        exact ⟨_, rfl, rfl, Nat.zero_le _, fun s hs => absurd hs (List.not_mem_nil), fun _ _ _ => .inl ⟨rfl, .inr trivial⟩⟩
      | false =>
        obtain ⟨out, h1, h2, L, hc⟩ := costs_same hf hg hb hhb
        have i1 := out_inB hf hg ha hha L.len
        have qv : List.getD out (atI g a).toNat (0 : Int) = valI g out a := rfl
        have ew : spec_l07Ways = some ((waysL, ()), ()) := rfl
        simp only [Bool.or_false, cond_false, iEq_self, Bool.not_true, h1, h2, impl_Grid_at_ok, spec_l07Index_ok, i1, qv, ew, cond_true, Option.bind_some]
        by_cases hv : valI g out a < 0
        · rw [iLt_pos hv]
          simp only [cond_true]
          exact ⟨_, rfl, rfl, Nat.zero_le _, fun s hs => absurd hs (List.not_mem_nil), fun _ _ _ => .inr ⟨trivial, trivial, out, rfl, L, hc, .inl ⟨rfl, hv⟩⟩⟩
        · rw [iLt_neg hv]
          simp only [cond_false]
          obtain ⟨r, hp, r1, r2⟩ := best_run hf hg L hc ha hha hwa (by omega) (valI g out a)
          exact ⟨_, r2, r1, hp.short hf hg, fun s hs => (hp.fit s hs).1, fun _ _ _ => .inr ⟨trivial, trivial, out, rfl, L, hc, .inr ⟨rfl, rfl, hp⟩⟩⟩
end Go.Proofs.YtnndahnmlmgenaaGreat
