/- Functions of the program and of the reference in plain terms. -/
import Derived.Test.YtnndahnmlmgenaaGreatP4
namespace Go.Proofs.YtnndahnmlmgenaaGreat
open Go Go.Tm
set_option linter.unusedVariables false
set_option linter.unusedSimpArgs false
set_option linter.unusedSectionVars false
/-! ### least costs -/
def valI (g : DGrid) (out : List Int) (s : Vec 2 Int) : Int := out.getD (atI g s).toNat 0
def edgeB (g : DGrid) (a b : Vec 2 Int) : Bool := (hasB g a && !wallB g a) && stepB g a b
inductive Walk (g : DGrid) (goal : Vec 2 Int) : Vec 2 Int → Int → Prop
  | nil : Walk g goal goal 0
  | cons {a b : Vec 2 Int} {d : Int} : edgeB g a b = true → Fit TySpot b → Walk g goal b d → Walk g goal a (stepC g a b + d)
/-- how many places have a cost -/
def asg (out : List Int) : Nat := out.countP fun x => decide (0 ≤ x)
/-- what may still come off the costs -/
def wgt (x : Int) : Nat := if x < 0 then 200000 else x.toNat
def pot : List Int → Nat
  | [] => 0
  | x :: r => wgt x + pot r
theorem pot_set : ∀ (l : List Int) (i : Nat) (v : Int) (h : i < l.length), pot (l.set i v) + wgt l[i] = pot l + wgt v
  | [], _, _, h => by simp at h
  | x :: r, 0, v, _ => by simp only [List.set_cons_zero, pot, List.getElem_cons_zero]; omega
  | x :: r, i + 1, v, h => by
    have := pot_set r i v (by simpa using h)
    simp only [List.set_cons_succ, pot, List.getElem_cons_succ]
    omega
theorem asg_set : ∀ (l : List Int) (i : Nat) (v : Int) (h : i < l.length), 0 ≤ v → asg (l.set i v) + (if 0 ≤ l[i] then 1 else 0) = asg l + 1
  | [], _, _, h, _ => by simp at h
  | x :: r, 0, v, _, hv => by
    simp only [List.set_cons_zero, asg, List.countP_cons, List.getElem_cons_zero, hv, decide_true, if_true]
    by_cases hx : 0 ≤ x <;> simp [hx]
  | x :: r, i + 1, v, h, hv => by
    have := asg_set r i v (by simpa using h) hv
    simp only [List.set_cons_succ, asg, List.countP_cons, List.getElem_cons_succ] at this ⊢
    omega
theorem asg_le (l : List Int) : asg l ≤ l.length := List.countP_le_length
structure Lab (g : DGrid) (goal : Vec 2 Int) (out : List Int) : Prop where
  len : out.length = g.2.2.1.length
  neg : ∀ x ∈ out, -1 ≤ x
  walk : ∀ s, Fit TySpot s → hasB g s = true → 0 ≤ valI g out s → Walk g goal s (valI g out s)
  goal : valI g out goal = 0
  cap : ∀ x ∈ out, x ≤ 300 * (asg out : Int)
def closedAt (g : DGrid) (out : List Int) (t : Vec 2 Int) : Prop := 0 ≤ valI g out t → ∀ s, Fit TySpot s → edgeB g s t = true → 0 ≤ valI g out s ∧ valI g out s ≤ stepC g s t + valI g out t
section
variable {g : DGrid} (hf : Fit TyGrid g) (hg : gridB g = true)
include hf hg
theorem cells_le : (g.2.2.1.length : Int) ≤ 576 := by
  obtain ⟨g1, g2, g3, g4, g5⟩ := gridB_true hg
  have h7 : g.1 * g.2.1 ≤ 24 * 24 := Int.mul_le_mul g2 g4 (by omega) (by omega)
  omega
theorem at_inj {s t : Vec 2 Int} (hs : Fit TySpot s) (ht : Fit TySpot t) (h1 : hasB g s = true) (h2 : hasB g t = true) (h : (atI g s).toNat = (atI g t).toNat) : s = t := by
  obtain ⟨g1, g2, g3, g4, g5⟩ := gridB_true hg
  obtain ⟨e1, a1, b1⟩ := atI_eq hs hg h1
  obtain ⟨e2, a2, b2⟩ := atI_eq ht hg h2
  obtain ⟨s1, s2, s3, s4⟩ := (hasB_iff hs hg).1 h1
  obtain ⟨t1, t2, t3, t4⟩ := (hasB_iff ht hg).1 h2
  rw [e1, e2] at h
  have he : s.2.1 * g.1 + s.1 = t.2.1 * g.1 + t.1 := by omega
  have d1 : (s.2.1 * g.1 + s.1) / g.1 = s.2.1 := by
    rw [Int.add_comm, Int.add_mul_ediv_right _ _ (by omega), Int.ediv_eq_zero_of_lt s1 s2]; omega
  have d2 : (t.2.1 * g.1 + t.1) / g.1 = t.2.1 := by
    rw [Int.add_comm, Int.add_mul_ediv_right _ _ (by omega), Int.ediv_eq_zero_of_lt t1 t2]; omega
  have ey : s.2.1 = t.2.1 := by rw [← d1, ← d2, he]
  have ex : s.1 = t.1 := by rw [ey] at he; omega
  obtain ⟨x, y, ⟨⟩⟩ := s
  obtain ⟨x', y', ⟨⟩⟩ := t
  simp only at ex ey
  subst ex ey
  rfl
theorem val_lt {s : Vec 2 Int} (hs : Fit TySpot s) (h1 : hasB g s = true) {out : List Int} (hl : out.length = g.2.2.1.length) : (atI g s).toNat < out.length := by
  obtain ⟨e1, a1, b1⟩ := atI_eq hs hg h1
  rw [e1]
  omega
theorem val_get {s : Vec 2 Int} (hs : Fit TySpot s) (h1 : hasB g s = true) {out : List Int} (hl : out.length = g.2.2.1.length) : valI g out s = out[(atI g s).toNat]'(val_lt hf hg hs h1 hl) := getD_of _
theorem val_set {a s : Vec 2 Int} (ha : Fit TySpot a) (h0 : hasB g a = true) (hs : Fit TySpot s) (h1 : hasB g s = true) {out : List Int} (hl : out.length = g.2.2.1.length) (v : Int) :
    (s = a → valI g (out.set (atI g a).toNat v) s = v) ∧ (s ≠ a → valI g (out.set (atI g a).toNat v) s = valI g out s) := by
  have hlt := val_lt hf hg ha h0 hl
  constructor
  · rintro rfl
    exact getD_set_self hlt
  · intro hne
    have : (atI g a).toNat ≠ (atI g s).toNat := fun e => hne (at_inj hf hg hs ha h1 h0 e.symm)
    unfold valI
    rw [List.getD_eq_getElem?_getD, List.getD_eq_getElem?_getD, List.getElem?_set_ne this]
theorem edge_has {a b : Vec 2 Int} (h : edgeB g a b = true) : hasB g a = true ∧ hasB g b = true ∧ wallB g a = false ∧ wallB g b = false ∧ stepB g a b = true ∧ a ≠ b := by
  have h' := h
  simp only [edgeB, stepB, Bool.and_eq_true, Bool.not_eq_true'] at h
  refine ⟨h.1.1, h.2.2.1, h.1.2, h.2.2.2.1, ?_, ?_⟩
  · simp only [edgeB, Bool.and_eq_true] at h'; exact h'.2
  · rintro rfl
    have := h.2.1
    simp [nearB, dxI, dyI, iEq] at this
theorem stepC_bounds (a b : Vec 2 Int) : 10 ≤ stepC g a b ∧ stepC g a b ≤ 269 := by
  obtain ⟨c1, c2⟩ := cell_bounds hf b
  unfold stepC
  cases diagB a b <;> simp only [cond_true, cond_false] <;> omega

/-- a cost that is found is taken -/
theorem lab_relax {goal : Vec 2 Int} {out : List Int} (hL : Lab g goal out) (hgo : Fit TySpot goal) (hgh : hasB g goal = true) {a t : Vec 2 Int} (ha : Fit TySpot a) (ht : Fit TySpot t) (he : edgeB g a t = true) (h0 : 0 ≤ valI g out t) (hc : valI g out a < 0 ∨ stepC g a t + valI g out t < valI g out a) :
    Lab g goal (out.set (atI g a).toNat (stepC g a t + valI g out t)) ∧ pot (out.set (atI g a).toNat (stepC g a t + valI g out t)) < pot out ∧ (∀ u, Fit TySpot u → hasB g u = true → u ≠ a → closedAt g out u → closedAt g (out.set (atI g a).toNat (stepC g a t + valI g out t)) u) := by
  obtain ⟨e1, e2, _, _, _, hne⟩ := edge_has hf hg he
  obtain ⟨c1, c2⟩ := stepC_bounds hf hg a t
  have hN := cells_le hf hg
  have hlt := val_lt hf hg ha e1 hL.len
  have htl := val_lt hf hg ht e2 hL.len
  have vt := val_get hf hg ht e2 hL.len
  have va := val_get hf hg ha e1 hL.len
  have capt := hL.cap _ (List.getElem_mem htl)
  rw [← vt] at capt
  have hset := asg_set out (atI g a).toNat (stepC g a t + valI g out t) hlt (by omega)
  rw [← va] at hset
  have hasg := asg_le out
  have hlen : (out.length : Int) ≤ 576 := by rw [hL.len]; exact hN
  have hcap : stepC g a t + valI g out t ≤ 300 * (asg (out.set (atI g a).toNat (stepC g a t + valI g out t)) : Int) ∧ asg out ≤ asg (out.set (atI g a).toNat (stepC g a t + valI g out t)) := by
    by_cases hv : 0 ≤ valI g out a
    · rw [if_pos hv] at hset
      have capa := hL.cap _ (List.getElem_mem hlt)
      rw [← va] at capa
      omega
    · rw [if_neg hv] at hset
      omega
  refine ⟨⟨by rw [List.length_set]; exact hL.len, ?_, ?_, ?_, ?_⟩, ?_, ?_⟩
  · intro x hx
    rcases List.mem_or_eq_of_mem_set hx with hx | rfl
    · exact hL.neg x hx
    · omega
  · intro s hs hh hv
    by_cases hsa : s = a
    · rw [(val_set hf hg ha e1 hs hh hL.len _).1 hsa, hsa]
      exact .cons he ht (hL.walk t ht e2 h0)
    · rw [(val_set hf hg ha e1 hs hh hL.len _).2 hsa] at hv ⊢
      exact hL.walk s hs hh hv
  · have hga : goal ≠ a := by
      rintro rfl
      rw [hL.goal] at hc
      omega
    rw [(val_set hf hg ha e1 hgo hgh hL.len _).2 hga]
    exact hL.goal
  · intro x hx
    rcases List.mem_or_eq_of_mem_set hx with hx | rfl
    · have := hL.cap x hx
      omega
    · exact hcap.1
  · have hp := pot_set out (atI g a).toNat (stepC g a t + valI g out t) hlt
    rw [← va] at hp
    have w1 : wgt (stepC g a t + valI g out t) < wgt (valI g out a) := by
      unfold wgt
      rw [if_neg (by omega)]
      split
      · omega
      · omega
    omega
  · intro u hu hh hua hcl h0u s hs hes
    obtain ⟨f1, _, _, _, _, _⟩ := edge_has hf hg hes
    have eu := (val_set hf hg ha e1 hu hh hL.len (stepC g a t + valI g out t)).2 hua
    rw [eu] at h0u ⊢
    obtain ⟨k1, k2⟩ := hcl h0u s hs hes
    by_cases hsa : s = a
    · rw [(val_set hf hg ha e1 hs f1 hL.len _).1 hsa]
      subst hsa
      omega
    · rw [(val_set hf hg ha e1 hs f1 hL.len _).2 hsa]
      exact ⟨k1, k2⟩
/-- costs that nothing betters are the least -/
theorem lab_least {goal : Vec 2 Int} {out : List Int} (hL : Lab g goal out) (hc : ∀ t, Fit TySpot t → hasB g t = true → closedAt g out t) {s : Vec 2 Int} {d : Int} (hw : Walk g goal s d) : Fit TySpot s → 0 ≤ valI g out s ∧ valI g out s ≤ d := by
  induction hw with
  | nil => intro _; rw [hL.goal]; omega
  | @cons a b d he hb _ ih =>
    intro ha
    obtain ⟨_, e2, _⟩ := edge_has hf hg he
    obtain ⟨k1, k2⟩ := ih hb
    obtain ⟨m1, m2⟩ := hc b hb e2 k1 a ha he
    omega
theorem lab_unique {goal : Vec 2 Int} {o1 o2 : List Int} (h1 : Lab g goal o1) (h2 : Lab g goal o2) (c1 : ∀ t, Fit TySpot t → hasB g t = true → closedAt g o1 t) (c2 : ∀ t, Fit TySpot t → hasB g t = true → closedAt g o2 t) : o1 = o2 := by
  obtain ⟨g1, g2, g3, g4, g5⟩ := gridB_true hg
  refine List.ext_getElem (h1.len.trans h2.len.symm) fun i hi hj => ?_
  have hi' : i < g.2.2.1.length := by rw [← h1.len]; exact hi
  -- the spot of the place
  have hm : 0 ≤ (i : Int) % g.1 ∧ (i : Int) % g.1 < g.1 := ⟨Int.emod_nonneg _ (by omega), Int.emod_lt_of_pos _ (by omega)⟩
  have hd : g.1 * ((i : Int) / g.1) + (i : Int) % g.1 = i := Int.mul_ediv_add_emod _ _
  have hd0 : 0 ≤ (i : Int) / g.1 := Int.ediv_nonneg (by omega) (by omega)
  have hd1 : (i : Int) / g.1 < g.2.1 := Int.ediv_lt_of_lt_mul (by omega) (by rw [Int.mul_comm]; omega)
  have hs : Fit TySpot (((i : Int) % g.1, (i : Int) / g.1, ()) : Vec 2 Int) := fit_spot (by omega) (by omega) (by omega) (by omega)
  have hh := (hasB_iff hs hg).2 ⟨hm.1, hm.2, hd0, hd1⟩
  obtain ⟨e, _, _⟩ := atI_eq hs hg hh
  have ei : (atI g (((i : Int) % g.1, (i : Int) / g.1, ()) : Vec 2 Int)).toNat = i := by
    rw [e]
    show ((i : Int) / g.1 * g.1 + (i : Int) % g.1).toNat = i
    rw [Int.mul_comm]
    omega
  have v1 := val_get hf hg hs hh h1.len
  have v2 := val_get hf hg hs hh h2.len
  simp only [ei] at v1 v2
  rw [← v1, ← v2]
  have n1 := h1.neg _ (List.getElem_mem hi)
  have n2 := h2.neg _ (List.getElem_mem hj)
  rw [← v1] at n1
  rw [← v2] at n2
  by_cases p1 : 0 ≤ valI g o1 ((i : Int) % g.1, (i : Int) / g.1, ())
  · have k := lab_least hf hg h2 c2 (h1.walk _ hs hh p1) hs
    have k' := lab_least hf hg h1 c1 (h2.walk _ hs hh k.1) hs
    omega
  · by_cases p2 : 0 ≤ valI g o2 ((i : Int) % g.1, (i : Int) / g.1, ())
    · have k' := lab_least hf hg h1 c1 (h2.walk _ hs hh p2) hs
      omega
    · omega
end

/-! ### neighbours -/
def waysL : List (Vec 2 Int) := [(1, 0, ()), (0, 1, ()), ((-1 : Int), 0, ()), (0, (-1 : Int), ()), (1, 1, ()), ((-1 : Int), 1, ()), ((-1 : Int), (-1 : Int), ()), (1, (-1 : Int), ())]
def wayK (k : Nat) : Vec 2 Int := waysL.getD k ((0, 0, ()) : (Vec 2 Int))
def nb (t : Vec 2 Int) (k : Nat) : Vec 2 Int := (t.1 + (wayK k).1, t.2.1 + (wayK k).2.1, ())
theorem wayK_small : ∀ k : Fin 8, (-1 ≤ (wayK k).1 ∧ (wayK k).1 ≤ 1) ∧ (-1 ≤ (wayK k).2.1 ∧ (wayK k).2.1 ≤ 1) ∧ ((wayK k).1 ≠ 0 ∨ (wayK k).2.1 ≠ 0) := by decide
theorem nb_near {t : Vec 2 Int} {k : Nat} (hk : k < 8) : nearB t (nb t k) = true ∧ dxI t (nb t k) = (wayK k).1 ∧ dyI t (nb t k) = (wayK k).2.1 := by
  obtain ⟨⟨a1, a2⟩, ⟨b1, b2⟩, c⟩ := wayK_small ⟨k, hk⟩
  simp only at a1 a2 b1 b2 c
  have e1 : dxI t (nb t k) = (wayK k).1 := by simp only [dxI, nb]; omega
  have e2 : dyI t (nb t k) = (wayK k).2.1 := by simp only [dyI, nb]; omega
  refine ⟨?_, e1, e2⟩
  unfold nearB
  rw [e1, e2]
  simp only [Bool.and_eq_true, iLe_true, Bool.not_eq_true', Bool.and_eq_false_iff, iEq_false]
  omega
theorem near_symm {a b : Vec 2 Int} (h : nearB a b = true) : nearB b a = true := by
  simp only [nearB, dxI, dyI, Bool.and_eq_true, iLe_true, Bool.not_eq_true', Bool.and_eq_false_iff, iEq_false] at h ⊢
  omega
theorem nb_of_near {a b : Vec 2 Int} (h : nearB a b = true) : ∃ k, k < 8 ∧ b = nb a k := by
  simp only [nearB, dxI, dyI, Bool.and_eq_true, iLe_true, Bool.not_eq_true', Bool.and_eq_false_iff, iEq_false] at h
  obtain ⟨x, y, ⟨⟩⟩ := a
  obtain ⟨x', y', ⟨⟩⟩ := b
  simp only at h
  have key : ∀ (k : Nat), k < 8 → x' = x + (wayK k).1 → y' = y + (wayK k).2.1 → ∃ k, k < 8 ∧ ((x', y', ()) : Vec 2 Int) = nb (x, y, ()) k := fun k hk h1 h2 => ⟨k, hk, by rw [h1, h2]; rfl⟩
  have hx : x' - x = -1 ∨ x' - x = 0 ∨ x' - x = 1 := by omega
  have hy : y' - y = -1 ∨ y' - y = 0 ∨ y' - y = 1 := by omega
  have w0 : (wayK 0).1 = 1 ∧ (wayK 0).2.1 = 0 := by decide
  have w1 : (wayK 1).1 = 0 ∧ (wayK 1).2.1 = 1 := by decide
  have w2 : (wayK 2).1 = -1 ∧ (wayK 2).2.1 = 0 := by decide
  have w3 : (wayK 3).1 = 0 ∧ (wayK 3).2.1 = -1 := by decide
  have w4 : (wayK 4).1 = 1 ∧ (wayK 4).2.1 = 1 := by decide
  have w5 : (wayK 5).1 = -1 ∧ (wayK 5).2.1 = 1 := by decide
  have w6 : (wayK 6).1 = -1 ∧ (wayK 6).2.1 = -1 := by decide
  have w7 : (wayK 7).1 = 1 ∧ (wayK 7).2.1 = -1 := by decide
  rcases hx with hx | hx | hx <;> rcases hy with hy | hy | hy
  · exact key 6 (by omega) (by omega) (by omega)
  · exact key 2 (by omega) (by omega) (by omega)
  · exact key 5 (by omega) (by omega) (by omega)
  · exact key 3 (by omega) (by omega) (by omega)
  · omega
  · exact key 1 (by omega) (by omega) (by omega)
  · exact key 7 (by omega) (by omega) (by omega)
  · exact key 0 (by omega) (by omega) (by omega)
  · exact key 4 (by omega) (by omega) (by omega)
theorem iAdd16_eq {a b : Int} (h : -32768 ≤ a + b) (h1 : a + b ≤ 32767) : iAdd .i16 a b = a + b := wrap_i16 h h1
theorem wayK_at {k : Nat} (hk : k < 8) : waysL.getD k ((0, 0, ()) : (Vec 2 Int)) = wayK k := rfl
/-- the first of some numbers with a property -/
theorem first_of {p : Nat → Bool} : ∀ {n : Nat}, (∃ k, k < n ∧ p k = true) → ∃ k, k < n ∧ p k = true ∧ ∀ j, j < k → p j = false
  | 0, ⟨_, h, _⟩ => absurd h (Nat.not_lt_zero _)
  | n + 1, ⟨k, hk, hp⟩ => by
    by_cases h : ∃ k, k < n ∧ p k = true
    · obtain ⟨k, h1, h2, h3⟩ := first_of h
      exact ⟨k, by omega, h2, h3⟩
    · refine ⟨k, hk, hp, fun j hj => ?_⟩
      cases hpj : p j with
      | false => rfl
      | true => exact absurd ⟨j, by omega, hpj⟩ h
theorem run_first {A : Type} {f : Int × Unit → Option ((Int × Unit) ⊕ A)} {p : Nat → Bool} {r : Nat → A} {n : Nat} (h1 : ∀ k : Nat, k < n → f ((k : Int), ()) = bif p k then some (.inr (r k)) else some (.inl (((k + 1 : Nat) : Int), ())))
    {k : Nat} (hk : k < n) (hp : p k = true) (hf : ∀ j, j < k → p j = false) : run f ((0 : Int), ()) = some (r k) := by
  have key : ∀ (d j : Nat), j + d = k → run f ((j : Int), ()) = some (r k) := by
    intro d
    induction d with
    | zero =>
      intro j hj
      have hj : j = k := by omega
      subst hj
      have := h1 j hk
      rw [hp] at this
      exact run_done this
    | succ d ih =>
      intro j hj
      have := h1 j (by omega)
      rw [hf j (by omega)] at this
      rw [run_step this]
      exact ih (j + 1) (by omega)
  exact key k 0 (by omega)

def okAt (g : DGrid) (out : List Int) (s t : Vec 2 Int) : Prop := edgeB g s t = true → 0 ≤ valI g out t → 0 ≤ valI g out s ∧ valI g out s ≤ stepC g s t + valI g out t

/-- is a place better reached by another one -/
def betB (g : DGrid) (out : List Int) (a t : Vec 2 Int) : Bool := edgeB g a t && (iLt (valI g out a) 0 || iLt (stepC g a t + valI g out t) (valI g out a))

section
variable {g : DGrid} (hf : Fit TyGrid g) (hg : gridB g = true)
include hf hg
theorem nb_fit {t : Vec 2 Int} (ht : Fit TySpot t) (hh : hasB g t = true) {k : Nat} (hk : k < 8) : Fit TySpot (nb t k) ∧ (-1 ≤ (nb t k).1 ∧ (nb t k).1 ≤ 24) ∧ (-1 ≤ (nb t k).2.1 ∧ (nb t k).2.1 ≤ 24) := by
  obtain ⟨⟨a1, a2⟩, ⟨b1, b2⟩, c⟩ := wayK_small ⟨k, hk⟩
  obtain ⟨g1, g2, g3, g4, g5⟩ := gridB_true hg
  obtain ⟨s1, s2, s3, s4⟩ := (hasB_iff ht hg).1 hh
  simp only at a1 a2 b1 b2
  simp only [nb]
  exact ⟨fit_spot (by omega) (by omega) (by omega) (by omega), ⟨by omega, by omega⟩, by omega, by omega⟩
theorem val_le {goal : Vec 2 Int} {out : List Int} (hL : Lab g goal out) {s : Vec 2 Int} (hs : Fit TySpot s) (h1 : hasB g s = true) : -1 ≤ valI g out s ∧ valI g out s ≤ 172800 := by
  have hlt := val_lt hf hg hs h1 hL.len
  have e := val_get hf hg hs h1 hL.len
  have n := hL.neg _ (List.getElem_mem hlt)
  have c := hL.cap _ (List.getElem_mem hlt)
  have hN := cells_le hf hg
  have ha := asg_le out
  have hl := hL.len
  rw [← e] at n c
  omega
theorem out_inB {s : Vec 2 Int} (hs : Fit TySpot s) (h1 : hasB g s = true) {out : List Int} (hl : out.length = g.2.2.1.length) : inB (atI g s) out.length = true := by
  have := at_inB hs hg h1
  rw [hl]; exact this
theorem edge_eq {a b : Vec 2 Int} (h1 : hasB g a = true) (h2 : wallB g a = false) : edgeB g a b = stepB g a b := by
  simp [edgeB, h1, h2]

theorem impl_costs_l8_step {goal : Vec 2 Int} {out : List Int} (hL : Lab g goal out) {t : Vec 2 Int} (ht : Fit TySpot t) (hh : hasB g t = true) {k : Nat} (hk : k < 8) {line : List (Vec 2 Int)} (hn : line.length ≤ 300000000) :
    impl_Grid_costsTo_l8 ((waysL, ()), ()) t g (line, (k : Int), out, ()) = bif betB g out (nb t k) t then some (.inl (line ++ [nb t k], ((k + 1 : Nat) : Int), out.set (atI g (nb t k)).toNat (stepC g (nb t k) t + valI g out t), ())) else some (.inl (line, ((k + 1 : Nat) : Int), out, ())) := by
  obtain ⟨fa, b1, b2⟩ := nb_fit hf hg ht hh hk
  have e1 : iLt (k : Int) (lenI waysL) = true := iLt_pos (by rw [lenI_eq]; show (k : Int) < 8; omega)
  have e2 : inB (k : Int) waysL.length = true := inB_pos hk
  have ew : waysL.getD k ((0, 0, ()) : (Vec 2 Int)) = wayK k := rfl
  have w0 : Vec.getD 2 (wayK k) 0 (0 : Int) = (wayK k).1 := rfl
  have w1 : Vec.getD 2 (wayK k) 1 (0 : Int) = (wayK k).2.1 := rfl
  have t0 : Vec.getD 2 t 0 (0 : Int) = t.1 := rfl
  have t1 : Vec.getD 2 t 1 (0 : Int) = t.2.1 := rfl
  simp only [nb] at b1 b2
  have x0 : iAdd .i16 t.1 (wayK k).1 = t.1 + (wayK k).1 := iAdd16_eq (by omega) (by omega)
  have x1 : iAdd .i16 t.2.1 (wayK k).2.1 = t.2.1 + (wayK k).2.1 := iAdd16_eq (by omega) (by omega)
  have en : ((t.1 + (wayK k).1, t.2.1 + (wayK k).2.1, ()) : Vec 2 Int) = nb t k := rfl
  have ek : iAdd .i64 (k : Int) 1 = ((k + 1 : Nat) : Int) := iAdd_one hk (by omega)
  have er : room (line.length + 1) 4 = true := room_pos (by omega)
  simp only [impl_Grid_costsTo_l8, e1, e2, ew, w0, w1, t0, t1, x0, x1, en, ek, er, Int.toNat_natCast, cond_true, impl_Grid_has_ok, impl_Grid_at_ok, Option.bind_some, betB, edgeB]
  cases ha : hasB g (nb t k) with
  | false => simp only [Bool.not_false, cond_true, Bool.false_and, cond_false]
  | true =>
    simp only [Bool.not_true, cond_false, impl_Grid_isWall_ok fa hg ha, Option.bind_some, Bool.true_and]
    cases hw : wallB g (nb t k) with
    | true => simp only [cond_true, Bool.not_true, Bool.false_and, cond_false]
    | false =>
      simp only [cond_false, Bool.not_false, Bool.true_and, impl_Grid_stepCost_ok hf hg fa ht ha, Option.bind_some]
      cases hs : stepB g (nb t k) t with
      | false => simp only [Bool.not_false, cond_true, Bool.false_and, cond_false]
      | true =>
        have i1 := out_inB hf hg ht hh hL.len
        have i2 := out_inB hf hg fa ha hL.len
        have v1 := val_le hf hg hL ht hh
        obtain ⟨c1, c2⟩ := stepC_bounds hf hg (nb t k) t
        have q1 : List.getD out (atI g t).toNat (0 : Int) = valI g out t := rfl
        have q2 : List.getD out (atI g (nb t k)).toNat (0 : Int) = valI g out (nb t k) := rfl
        have q3 : iAdd .i64 (valI g out t) (stepC g (nb t k) t) = stepC g (nb t k) t + valI g out t := by rw [iAdd_eq (by omega) (by omega)]; omega
        simp only [Bool.not_true, cond_false, cond_true, Bool.true_and, i1, i2, q1, q2, q3]
        cases iLt (valI g out (nb t k)) 0 with
        | true => rfl
        | false =>
          simp only [cond_false, Bool.false_or]
end

section
variable {g : DGrid} (hf : Fit TyGrid g) (hg : gridB g = true)
include hf hg
theorem bet_edge {out : List Int} {a t : Vec 2 Int} (h : betB g out a t = true) : edgeB g a t = true ∧ (valI g out a < 0 ∨ stepC g a t + valI g out t < valI g out a) := by
  simp only [betB, Bool.and_eq_true, Bool.or_eq_true, iLt_true] at h
  exact h
theorem bet_not {out : List Int} {a t : Vec 2 Int} (h : betB g out a t = false) : okAt g out a t := by
  intro he _
  simp only [betB, he, Bool.true_and, Bool.or_eq_false_iff] at h
  have h1 : ¬ valI g out a < 0 := fun h' => by rw [iLt_pos h'] at h; exact absurd h.1 (by decide)
  have h2 : ¬ stepC g a t + valI g out t < valI g out a := fun h' => by rw [iLt_pos h'] at h; exact absurd h.2 (by decide)
  omega
/-- behind a change the places that fit still fit -/
theorem ok_relax {goal : Vec 2 Int} {out : List Int} (hL : Lab g goal out) {a t s : Vec 2 Int} (ha : Fit TySpot a) (ht : Fit TySpot t) (he : edgeB g a t = true) (h0 : 0 ≤ valI g out t) (hs : Fit TySpot s) (ho : okAt g out s t) : okAt g (out.set (atI g a).toNat (stepC g a t + valI g out t)) s t := by
  intro hes h0t
  obtain ⟨e1, e2, _, _, _, hne⟩ := edge_has hf hg he
  obtain ⟨f1, _⟩ := edge_has hf hg hes
  obtain ⟨c1, c2⟩ := stepC_bounds hf hg a t
  have et := (val_set hf hg ha e1 ht e2 hL.len (stepC g a t + valI g out t)).2 (Ne.symm hne)
  rw [et] at h0t ⊢
  by_cases hsa : s = a
  · rw [(val_set hf hg ha e1 hs f1 hL.len _).1 hsa, hsa]
    omega
  · rw [(val_set hf hg ha e1 hs f1 hL.len _).2 hsa]
    exact ho hes h0t
theorem val_grow {goal : Vec 2 Int} {out : List Int} (hL : Lab g goal out) {a t u : Vec 2 Int} (ha : Fit TySpot a) (he : edgeB g a t = true) (h0 : 0 ≤ valI g out t) (hu : Fit TySpot u) (hh : hasB g u = true) (h : 0 ≤ valI g out u) : 0 ≤ valI g (out.set (atI g a).toNat (stepC g a t + valI g out t)) u := by
  obtain ⟨e1, e2, _, _, _, hne⟩ := edge_has hf hg he
  obtain ⟨c1, c2⟩ := stepC_bounds hf hg a t
  by_cases hua : u = a
  · rw [(val_set hf hg ha e1 hu hh hL.len _).1 hua]; omega
  · rw [(val_set hf hg ha e1 hu hh hL.len _).2 hua]; exact h
/-- all neighbours of a place are looked at -/
theorem closed_of_nb {out : List Int} {t : Vec 2 Int} (h : ∀ k, k < 8 → okAt g out (nb t k) t) : closedAt g out t := by
  intro h0 s hs hes
  have hst : stepB g s t = true := (edge_has hf hg hes).2.2.2.2.1
  have hn : nearB s t = true := by simp only [stepB, Bool.and_eq_true] at hst; exact hst.1
  obtain ⟨k, hk, rfl⟩ := nb_of_near (near_symm hn)
  exact h k hk hes h0

theorem impl_costs_l8_run {goal : Vec 2 Int} (hgo : Fit TySpot goal) (hgh : hasB g goal = true) {out : List Int} (hL : Lab g goal out) {t : Vec 2 Int} (ht : Fit TySpot t) (hh : hasB g t = true) (h0 : 0 ≤ valI g out t) {line : List (Vec 2 Int)} (h1 : 1 ≤ line.length) (hn : 2 * pot out + line.length ≤ 300000000) :
    ∃ (added : List (Vec 2 Int)) (out' : List Int), run (impl_Grid_costsTo_l8 ((waysL, ()), ()) t g) (line, (0 : Int), out, ()) = some (.inl ((line ++ added).drop 1, out', ())) ∧ Lab g goal out' ∧ (∀ u ∈ added, Fit TySpot u ∧ hasB g u = true ∧ 0 ≤ valI g out' u) ∧
      (∀ u, Fit TySpot u → hasB g u = true → u ≠ t → closedAt g out u → closedAt g out' u ∨ u ∈ added) ∧ (∀ u, Fit TySpot u → hasB g u = true → 0 ≤ valI g out u → 0 ≤ valI g out' u) ∧ closedAt g out' t ∧ 2 * pot out' + (line ++ added).length ≤ 2 * pot out + line.length := by
  have r := run_inv (f := impl_Grid_costsTo_l8 ((waysL, ()), ()) t g) (fun s => ∃ (k : Nat) (added : List (Vec 2 Int)), s.2.1 = (k : Int) ∧ k ≤ 8 ∧ s.1 = line ++ added ∧ Lab g goal s.2.2.1 ∧ valI g s.2.2.1 t = valI g out t ∧ (∀ u ∈ added, Fit TySpot u ∧ hasB g u = true ∧ 0 ≤ valI g s.2.2.1 u) ∧
      (∀ u, Fit TySpot u → hasB g u = true → u ≠ t → closedAt g out u → closedAt g s.2.2.1 u ∨ u ∈ added) ∧ (∀ u, Fit TySpot u → hasB g u = true → 0 ≤ valI g out u → 0 ≤ valI g s.2.2.1 u) ∧ (∀ j, j < k → okAt g s.2.2.1 (nb t j) t) ∧ 2 * pot s.2.2.1 + (line ++ added).length ≤ 2 * pot out + line.length)
    (fun s => (8 - s.2.1).toNat) (fun a => ∃ (added : List (Vec 2 Int)) (out' : List Int), a = .inl ((line ++ added).drop 1, out', ()) ∧ Lab g goal out' ∧ (∀ u ∈ added, Fit TySpot u ∧ hasB g u = true ∧ 0 ≤ valI g out' u) ∧
      (∀ u, Fit TySpot u → hasB g u = true → u ≠ t → closedAt g out u → closedAt g out' u ∨ u ∈ added) ∧ (∀ u, Fit TySpot u → hasB g u = true → 0 ≤ valI g out u → 0 ≤ valI g out' u) ∧ closedAt g out' t ∧ 2 * pot out' + (line ++ added).length ≤ 2 * pot out + line.length)
    (fun s hI => by
      obtain ⟨k, added, hk, hk8, hl, hLs, hvt, hadd, hcl, hgr, hok, hpot⟩ := hI
      obtain ⟨l, kk, o, ⟨⟩⟩ := s
      simp only at hk hl hLs hvt hadd hcl hgr hok hpot
      subst hk hl
      by_cases hk' : k < 8
      · left
        have st := impl_costs_l8_step hf hg hLs ht hh hk' (line := line ++ added) (by omega)
        rw [st]
        cases hb : betB g o (nb t k) t with
        | false =>
          refine ⟨_, rfl, ⟨k + 1, added, rfl, by omega, rfl, hLs, hvt, hadd, hcl, hgr, fun j hj => ?_, hpot⟩, by show ((8 : Int) - ((k + 1 : Nat) : Int)).toNat < ((8 : Int) - (k : Int)).toNat; omega⟩
          by_cases hjk : j = k
          · subst hjk; exact bet_not hf hg hb
          · exact hok j (by omega)
        | true =>
          obtain ⟨he, hc⟩ := bet_edge hf hg hb
          obtain ⟨e1, e2, _, _, _, hne⟩ := edge_has hf hg he
          obtain ⟨fa, _, _⟩ := nb_fit hf hg ht hh hk'
          have h0' : 0 ≤ valI g o t := by rw [hvt]; exact h0
          obtain ⟨L1, p1, c1⟩ := lab_relax hf hg hLs hgo hgh fa ht he h0' hc
          obtain ⟨s1, s2⟩ := stepC_bounds hf hg (nb t k) t
          refine ⟨_, rfl, ⟨k + 1, added ++ [nb t k], rfl, by omega, by simp, L1, ?_, ?_, ?_, ?_, ?_, ?_⟩, by show ((8 : Int) - ((k + 1 : Nat) : Int)).toNat < ((8 : Int) - (k : Int)).toNat; omega⟩
          · rw [(val_set hf hg fa e1 ht hh hLs.len _).2 (Ne.symm hne)]; exact hvt
          · intro u hu
            rcases List.mem_append.1 hu with hu | hu
            · obtain ⟨u1, u2, u3⟩ := hadd u hu
              exact ⟨u1, u2, val_grow hf hg hLs fa he h0' u1 u2 u3⟩
            · rw [List.mem_singleton] at hu
              subst hu
              refine ⟨fa, e1, ?_⟩
              rw [(val_set hf hg fa e1 fa e1 hLs.len _).1 rfl]; omega
          · intro u hu hhu hut hcu
            by_cases hua : u = nb t k
            · right; rw [hua]; exact List.mem_append_right _ (List.mem_singleton.2 rfl)
            · rcases hcl u hu hhu hut hcu with h | h
              · exact .inl (c1 u hu hhu hua h)
              · exact .inr (List.mem_append_left _ h)
          · intro u hu hhu h
            exact val_grow hf hg hLs fa he h0' hu hhu (hgr u hu hhu h)
          · intro j hj
            obtain ⟨fj, _, _⟩ := nb_fit hf hg ht hh (show j < 8 by omega)
            by_cases hjk : j = k
            · subst hjk
              intro _ _
              rw [(val_set hf hg fa e1 fa e1 hLs.len _).1 rfl, (val_set hf hg fa e1 ht hh hLs.len _).2 (Ne.symm hne)]
              omega
            · exact ok_relax hf hg hLs fa ht he h0' fj (hok j (by omega))
          · simp only [List.length_append, List.length_singleton] at hpot ⊢
            omega
      · right
        have hk8' : k = 8 := by omega
        subst hk8'
        have e1 : iLt ((8 : Nat) : Int) (lenI waysL) = false := by decide
        have hlen : 1 ≤ (line ++ added).length := by rw [List.length_append]; omega
        have e2 : inS 1 (((line ++ added).length : Nat) : Int) (line ++ added).length = true := by
          have h1 : (1 : Int) ≤ ((line ++ added).length : Int) := by omega
          unfold inS
          rw [decide_eq_true (by omega : (0 : Int) ≤ 1), decide_eq_true h1, decide_eq_true (Int.le_refl _)]
          rfl
        have e3 : List.take ((line ++ added).length - 1) (List.drop 1 (line ++ added)) = (line ++ added).drop 1 := List.take_of_length_le (by rw [List.length_drop]; exact Nat.le_refl _)
        refine ⟨_, ?_, added, o, rfl, hLs, hadd, hcl, hgr, closed_of_nb hf hg fun j hj => hok j hj, hpot⟩
        simp only [impl_Grid_costsTo_l8, e1, e2, e3, cond_false, cond_true]
        rfl) (s := (line, (0 : Int), out, ())) ⟨0, [], rfl, by omega, by simp, hL, rfl, by simp, fun u _ _ _ h => .inl h, fun u _ _ h => h, fun j hj => absurd hj (Nat.not_lt_zero _), by simp⟩
  obtain ⟨a, ha, added, out', rfl, h⟩ := r
  exact ⟨added, out', ha, h⟩

theorem impl_costs_l4_run {goal : Vec 2 Int} (hgo : Fit TySpot goal) (hgh : hasB g goal = true) {out : List Int} (hL : Lab g goal out) {line : List (Vec 2 Int)} (hl : ∀ u ∈ line, Fit TySpot u ∧ hasB g u = true ∧ 0 ≤ valI g out u) (hc : ∀ u, Fit TySpot u → hasB g u = true → closedAt g out u ∨ u ∈ line) (hn : 2 * pot out + line.length ≤ 300000000) :
    ∃ out', run (impl_Grid_costsTo_l4 g) (line, out, ()) = some ((out', ()), ()) ∧ Lab g goal out' ∧ ∀ u, Fit TySpot u → hasB g u = true → closedAt g out' u := by
  have r := run_inv (f := impl_Grid_costsTo_l4 g) (fun s => Lab g goal s.2.1 ∧ (∀ u ∈ s.1, Fit TySpot u ∧ hasB g u = true ∧ 0 ≤ valI g s.2.1 u) ∧ (∀ u, Fit TySpot u → hasB g u = true → closedAt g s.2.1 u ∨ u ∈ s.1) ∧ 2 * pot s.2.1 + s.1.length ≤ 300000000)
    (fun s => 2 * pot s.2.1 + s.1.length) (fun a => ∃ out', a = ((out', ()), ()) ∧ Lab g goal out' ∧ ∀ u, Fit TySpot u → hasB g u = true → closedAt g out' u)
    (fun s hI => by
      obtain ⟨h1, h2, h3, h4⟩ := hI
      obtain ⟨l, o, ⟨⟩⟩ := s
      simp only at h1 h2 h3 h4
      cases l with
      | nil =>
        right
        exact ⟨((o, ()), ()), rfl, o, rfl, h1, fun u hu hh => (h3 u hu hh).elim id fun h => absurd h (List.not_mem_nil)⟩
      | cons t rest =>
        left
        obtain ⟨ht, hh, h0⟩ := h2 t (List.mem_cons_self ..)
        obtain ⟨added, o', hr, L', ha, hcl, hgr, hct, hp⟩ := impl_costs_l8_run hf hg hgo hgh h1 ht hh h0 (line := t :: rest) (by simp) h4
        have e1 : iLt 0 (lenI (t :: rest)) = true := iLt_pos (by rw [lenI_eq, List.length_cons]; omega)
        have e2 : inB 0 (t :: rest).length = true := inB_pos (i := 0) (by simp)
        have e3 : List.getD (t :: rest) 0 ((0, 0, ()) : (Vec 2 Int)) = t := rfl
        have ew : impl_ways = some ((waysL, ()), ()) := rfl
        have ed : (t :: rest ++ added).drop 1 = rest ++ added := rfl
        rw [ed] at hr
        refine ⟨(rest ++ added, o', ()), ?_, ⟨L', ?_, ?_, ?_⟩, ?_⟩
        · simp only [impl_Grid_costsTo_l4, e1, e2, e3, ew, cond_true, Option.bind_some]
          exact hr
        · intro u hu
          rcases List.mem_append.1 hu with hu | hu
          · obtain ⟨u1, u2, u3⟩ := h2 u (List.mem_cons_of_mem _ hu)
            exact ⟨u1, u2, hgr u u1 u2 u3⟩
          · exact ha u hu
        · intro u hu hhu
          by_cases hut : u = t
          · subst hut; exact .inl hct
          · rcases h3 u hu hhu with h | h
            · exact (hcl u hu hhu hut h).imp id (List.mem_append_right _)
            · rcases List.mem_cons.1 h with h | h
              · exact absurd h hut
              · exact .inr (List.mem_append_left _ h)
        · simp only [List.length_append, List.length_cons] at hp h4 ⊢
          omega
        · show 2 * pot o' + (rest ++ added).length < 2 * pot o + (t :: rest).length
          simp only [List.length_append, List.length_cons] at hp ⊢
          omega) (s := (line, out, ())) ⟨hL, hl, hc, hn⟩
  obtain ⟨a, ha, out', rfl, h⟩ := r
  exact ⟨out', ha, h⟩

/-- before the first step -/
theorem lab_first {goal : Vec 2 Int} (hgo : Fit TySpot goal) (hgh : hasB g goal = true) : Lab g goal ((List.replicate g.2.2.1.length (-1 : Int)).set (atI g goal).toNat 0) ∧ (∀ u, Fit TySpot u → hasB g u = true → u ≠ goal → closedAt g ((List.replicate g.2.2.1.length (-1 : Int)).set (atI g goal).toNat 0) u) ∧ pot ((List.replicate g.2.2.1.length (-1 : Int)).set (atI g goal).toNat 0) ≤ 115200000 := by
  have hl : (List.replicate g.2.2.1.length (-1 : Int)).length = g.2.2.1.length := List.length_replicate
  have hN := cells_le hf hg
  have hv : ∀ u, Fit TySpot u → hasB g u = true → u ≠ goal → valI g ((List.replicate g.2.2.1.length (-1 : Int)).set (atI g goal).toNat 0) u = -1 := fun u hu hh hne => by
    rw [(val_set hf hg hgo hgh hu hh hl 0).2 hne, val_get hf hg hu hh hl, List.getElem_replicate]
  have hvg := (val_set hf hg hgo hgh hgo hgh hl 0).1 rfl
  refine ⟨⟨by rw [List.length_set]; exact hl, ?_, ?_, hvg, ?_⟩, ?_, ?_⟩
  · intro x hx
    rcases List.mem_or_eq_of_mem_set hx with hx | rfl
    · rw [List.eq_of_mem_replicate hx]; exact Int.le_refl _
    · omega
  · intro s hs hh h0
    by_cases hsg : s = goal
    · subst hsg; rw [hvg]; exact .nil
    · rw [hv s hs hh hsg] at h0; omega
  · intro x hx
    rcases List.mem_or_eq_of_mem_set hx with hx | rfl
    · rw [List.eq_of_mem_replicate hx]; omega
    · omega
  · intro u hu hh hne h0
    rw [hv u hu hh hne] at h0; omega
  · have hlt := val_lt hf hg hgo hgh hl
    have := pot_set (List.replicate g.2.2.1.length (-1 : Int)) (atI g goal).toNat 0 hlt
    have hp : ∀ n : Nat, pot (List.replicate n (-1 : Int)) = n * 200000 := by
      intro n
      induction n with
      | zero => rfl
      | succ n ih => rw [List.replicate_succ, pot, ih]; show wgt (-1) + _ = _; have : wgt (-1) = 200000 := by decide
                     rw [this]; omega
    have w0 : wgt 0 = 0 := by decide
    rw [hp, w0] at this
    omega
end

theorem and_low {n : Int} (h : 0 ≤ n) (h1 : n ≤ 4294967295) : iAnd .u64 n 4294967295 = n := by
  obtain ⟨m, rfl⟩ := Int.eq_ofNat_of_zero_le h
  have hm : m < 2 ^ 32 := by omega
  have e1 : (BitVec.ofInt 64 (m : Int)).toNat = m := by rw [BitVec.toNat_ofInt]; omega
  have e2 : (BitVec.ofInt 64 4294967295).toNat = 2 ^ 32 - 1 := by decide
  have e3 : ((BitVec.ofInt IntKind.u64.bits (m : Int) &&& BitVec.ofInt IntKind.u64.bits 4294967295).toNat : Int) = m := by
    show (((BitVec.ofInt 64 (m : Int) &&& BitVec.ofInt 64 4294967295).toNat : Nat) : Int) = m
    rw [BitVec.toNat_and, e1, e2, Nat.and_two_pow_sub_one_eq_mod, Nat.mod_eq_of_lt hm]
  unfold iAnd
  rw [e3]
  simp [IntKind.wrap, IntKind.signed, IntKind.bits]; omega
theorem u64_id {n : Int} (h : 0 ≤ n) (h1 : n ≤ 9223372036854775807) : IntKind.u64.wrap n = n := by
  simp [IntKind.wrap, IntKind.signed, IntKind.bits]; omega
theorem wrapU_id {n : Int} (h : 0 ≤ n) (h1 : n ≤ 9223372036854775807) : iWrap .u64 n = n := u64_id h h1

theorem bits_mul_one {n : Int} (h : 0 ≤ n) (h1 : n ≤ 4294967295) : math_bits_Mul 1 n = some (((0 : Int), n, ()), ()) := by
  have a1 : iAnd .u64 1 4294967295 = 1 := and_low (by omega) (by omega)
  have a2 := and_low h h1
  have s1 : iShr .u64 1 32 = 0 := by decide
  have s2 : iShr .u64 n 32 = 0 := by
    show n.fdiv (2 ^ (min (32 : Int).toNat 64)) = 0
    have : (2 : Int) ^ (min (32 : Int).toNat 64) = 4294967296 := by decide
    rw [this, Int.fdiv_eq_ediv_of_nonneg _ (by omega)]
    omega
  have m0 : iMul .u64 0 n = 0 := by show IntKind.u64.wrap (0 * n) = 0; rw [Int.zero_mul]; decide
  have m1 : iMul .u64 1 n = n := by show IntKind.u64.wrap (1 * n) = n; rw [Int.one_mul]; exact u64_id h (by omega)
  have m2 : iMul .u64 0 0 = 0 := by decide
  have m3 : iMul .u64 1 0 = 0 := by decide
  have p0 : iAdd .u64 0 0 = 0 := by decide
  have a0 : iAnd .u64 0 4294967295 = 0 := by decide
  have s0 : iShr .u64 0 32 = 0 := by decide
  simp only [math_bits_Mul, math_bits_Mul64, a1, a2, s1, s2, m0, m1, m2, m3, p0, a0, s0, Option.bind_some]

theorem repeat_ok (v : Int) {n : Nat} (h0 : 1 ≤ n) (h1 : n ≤ 1000000) : slices_Repeat_int64 [v] (n : Int) = some ((List.replicate n v, ()), ()) := by
  have e1 : iLt (n : Int) 0 = false := iLt_neg (by omega)
  have e2 : iWrap .u64 (lenI [v]) = 1 := by rw [lenI_eq]; show iWrap .u64 1 = 1; decide
  have e3 : iWrap .u64 (n : Int) = (n : Int) := wrapU_id (by omega) (by omega)
  have e4 := bits_mul_one (n := (n : Int)) (by omega) (by omega)
  have e5 : iLt 0 0 = false := by decide
  have e6 : iLt 9223372036854775807 (n : Int) = false := iLt_neg (by omega)
  have e7 : iWrap .i64 (n : Int) = (n : Int) := wrap_i64 (by omega) (by omega)
  have e8 : (iLe 0 (n : Int) && iLe (n : Int) (n : Int) && room n 8) = true := by
    rw [iLe_pos (by omega), iLe_pos (Int.le_refl _), room_pos (by omega)]; rfl
  have e9 : (Int.ofNat (min (List.length [v]) (List.length (List.replicate n (0 : Int))))) = ((1 : Nat) : Int) := by
    rw [List.length_replicate, List.length_singleton, Nat.min_eq_left h0]; rfl
  have e10 : spliceL (List.replicate n (0 : Int)) 0 (List.take (List.length (List.replicate n (0 : Int))) [v]) = List.replicate 1 v ++ List.replicate (n - 1) 0 := by
    have : List.take (List.length (List.replicate n (0 : Int))) [v] = [v] := List.take_of_length_le (by rw [List.length_replicate]; exact h0)
    rw [this]
    simp [spliceL]
  simp only [slices_Repeat_int64, e1, e2, e3, e4, e5, e6, e7, e8, cond_false, cond_true, Option.bind_some, Int.toNat_natCast, e9, e10]
  have r := run_inv (f := slices_Repeat_int64_l8) (fun s => ∃ k : Nat, 1 ≤ k ∧ k ≤ n ∧ s = ((k : Int), List.replicate k v ++ List.replicate (n - k) 0, ())) (fun s => (n - s.1).toNat) (fun a => a = ((List.replicate n v, ()), ())) (fun s hI => by
    obtain ⟨k, hk1, hk2, rfl⟩ := hI
    have hlen : (List.replicate k v ++ List.replicate (n - k) (0 : Int)).length = n := by simp; omega
    by_cases hk : k < n
    · left
      have c1 : iLt (k : Int) (lenI (List.replicate k v ++ List.replicate (n - k) (0 : Int))) = true := iLt_pos (by rw [lenI_eq, hlen]; omega)
      have c2 : inS (k : Int) ((n : Nat) : Int) n = true := by
        have a1 : (0 : Int) ≤ (k : Int) := by omega
        have a2 : (k : Int) ≤ (n : Int) := by omega
        simp [inS, a1, a2]
      have c3 : inS 0 (k : Int) n = true := by
        have a1 : (0 : Int) ≤ (k : Int) := by omega
        have a2 : (k : Int) ≤ (n : Int) := by omega
        simp [inS, a1, a2]
      have c4 : Nat.ble (k + (n - k)) n = true := by simp only [Nat.ble_eq]; omega
      have c5 : List.take k (List.drop 0 (List.replicate k v ++ List.replicate (n - k) (0 : Int))) = List.replicate k v := by
        rw [List.drop_zero, List.take_append_of_le_length (by simp), List.take_of_length_le (by simp)]
      have c6 : Int.ofNat (min k (n - k)) = ((min k (n - k) : Nat) : Int) := rfl
      have c7 : iAdd .i64 (k : Int) ((min k (n - k) : Nat) : Int) = ((k + min k (n - k) : Nat) : Int) := by rw [iAdd_eq (by omega) (by omega)]; omega
      have c8 : List.take (n - k) (List.replicate k v) = List.replicate (min k (n - k)) v := by rw [List.take_replicate, Nat.min_comm]
      have c9 : spliceL (List.replicate k v ++ List.replicate (n - k) (0 : Int)) k (List.replicate (min k (n - k)) v) = List.replicate (k + min k (n - k)) v ++ List.replicate (n - (k + min k (n - k))) 0 := by
        unfold spliceL
        rw [List.take_append_of_le_length (by simp), List.take_of_length_le (by simp), List.length_replicate, List.drop_append, List.length_replicate, List.drop_of_length_le (by simp), List.drop_replicate, List.nil_append, ← List.replicate_append_replicate]
        congr 2
        omega
      refine ⟨(((k + min k (n - k) : Nat) : Int), List.replicate (k + min k (n - k)) v ++ List.replicate (n - (k + min k (n - k))) 0, ()), ?_, ⟨k + min k (n - k), by omega, by omega, rfl⟩, ?_⟩
      · simp only [slices_Repeat_int64_l8, c1, hlen, c2, c3, c4, cond_true, Int.toNat_natCast, c5, List.length_replicate, c6, c7, c8, c9]
      · show ((n : Int) - ((k + min k (n - k) : Nat) : Int)).toNat < ((n : Int) - (k : Int)).toNat
        omega
    · right
      have hkn : k = n := by omega
      subst hkn
      have c1 : iLt (k : Int) (lenI (List.replicate k v ++ List.replicate (k - k) (0 : Int))) = false := iLt_neg (by rw [lenI_eq, hlen]; omega)
      refine ⟨_, by simp only [slices_Repeat_int64_l8, c1, cond_false]; rfl, ?_⟩
      simp) (s := (((1 : Nat) : Int), List.replicate 1 v ++ List.replicate (n - 1) 0, ())) ⟨1, by omega, h0, rfl⟩
  obtain ⟨a, ha, rfl⟩ := r
  exact ha

theorem impl_costsTo_ok {g : DGrid} (hf : Fit TyGrid g) (hg : gridB g = true) {goal : Vec 2 Int} (hgo : Fit TySpot goal) (hgh : hasB g goal = true) :
    ∃ out, impl_Grid_costsTo g goal = some ((out, ()), ()) ∧ Lab g goal out ∧ ∀ u, Fit TySpot u → hasB g u = true → closedAt g out u := by
  obtain ⟨g1, g2, g3, g4, g5⟩ := gridB_true hg
  have hN := cells_le hf hg
  obtain ⟨_, a1, b1⟩ := atI_eq hgo hg hgh
  have h1 := repeat_ok (-1) (n := g.2.2.1.length) (by omega) (by omega)
  have e1 : inB (atI g goal) (List.replicate g.2.2.1.length (-1 : Int)).length = true := out_inB hf hg hgo hgh List.length_replicate
  obtain ⟨L, hc, hp⟩ := lab_first hf hg hgo hgh
  obtain ⟨out, hr, h2, h3⟩ := impl_costs_l4_run hf hg hgo hgh L (line := [goal]) (fun u hu => by
    rw [List.mem_singleton] at hu
    subst hu
    exact ⟨hgo, hgh, by rw [L.goal]; omega⟩) (fun u hu hh => by
    by_cases hug : u = goal
    · right; rw [hug]; exact List.mem_singleton.2 rfl
    · exact .inl (hc u hu hh hug)) (by simp only [List.length_singleton]; omega)
  refine ⟨out, ?_, h2, h3⟩
  rw [← lenI_eq] at h1
  simp only [impl_Grid_costsTo, h1, impl_Grid_at_ok, Option.bind_some, e1, cond_true]
  exact hr

section
variable {g : DGrid} (hf : Fit TyGrid g) (hg : gridB g = true)
include hf hg
theorem spec_costs_l17_step {goal : Vec 2 Int} {out : List Int} (hL : Lab g goal out) {s : Vec 2 Int} (hs : Fit TySpot s) (hh : hasB g s = true) (hw : wallB g s = false) {k : Nat} (hk : k < 8) {c c0 : Bool} {i : Int} (hi : atI g s = i) {o0 : List Int} :
    spec_l07Costs_l17 ((waysL, ()), ()) g s.1 s.2.1 (c0, i, o0, ()) (c, (k : Int), out, ()) = bif betB g out s (nb s k) && iLe 0 (valI g out (nb s k)) then some (.inl (true, ((k + 1 : Nat) : Int), out.set (atI g s).toNat (stepC g s (nb s k) + valI g out (nb s k)), ())) else some (.inl (c, ((k + 1 : Nat) : Int), out, ())) := by
  obtain ⟨fa, b1, b2⟩ := nb_fit hf hg hs hh hk
  obtain ⟨hn, ex, ey⟩ := nb_near (t := s) hk
  have e1 : iLt (k : Int) 8 = true := iLt_pos (by omega)
  have e2 : inB (k : Int) waysL.length = true := inB_pos hk
  have ew : waysL.getD k ((0, 0, ()) : (Vec 2 Int)) = wayK k := rfl
  have w0 : Vec.getD 2 (wayK k) 0 (0 : Int) = dxI s (nb s k) := ex.symm
  have w1 : Vec.getD 2 (wayK k) 1 (0 : Int) = dyI s (nb s k) := ey.symm
  have es : ((s.1, s.2.1, ()) : Vec 2 Int) = s := rfl
  have ek : iAdd .i64 (k : Int) 1 = ((k + 1 : Nat) : Int) := iAdd_one hk (by omega)
  have m := spec_l07Move_ok hf hg hs fa hh hn
  have is := out_inB hf hg hs hh hL.len
  have q1 : List.getD out (atI g s).toNat (0 : Int) = valI g out s := rfl
  subst hi
  cases hst : stepB g s (nb s k) with
  | false =>
    obtain ⟨zz, m'⟩ : ∃ zz : Vec 2 Int, spec_l07Move g s (dxI s (nb s k)) (dyI s (nb s k)) = some ((zz, 0, false, ()), ()) := ⟨_, by rw [m, hst]; rfl⟩
    simp only [spec_l07Costs_l17, e1, e2, ew, w0, w1, es, ek, m', Int.toNat_natCast, cond_true, Option.bind_some, betB, edge_eq hf hg hh hw, hst, Bool.not_false, Bool.false_and, cond_false]
  | true =>
    have m' : spec_l07Move g s (dxI s (nb s k)) (dyI s (nb s k)) = some ((nb s k, stepC g s (nb s k), true, ()), ()) := by rw [m, hst]; rfl
    simp only [spec_l07Costs_l17, e1, e2, ew, w0, w1, es, ek, m', Int.toNat_natCast, cond_true, Option.bind_some, betB, edge_eq hf hg hh hw, hst]
    have hb : hasB g (nb s k) = true := by simp only [stepB, Bool.and_eq_true] at hst; exact hst.2.1
    have ib := out_inB hf hg fa hb hL.len
    have q2 : List.getD out (atI g (nb s k)).toNat (0 : Int) = valI g out (nb s k) := rfl
    have v1 := val_le hf hg hL fa hb
    obtain ⟨c1, c2⟩ := stepC_bounds hf hg s (nb s k)
    have q3 : iAdd .i64 (stepC g s (nb s k)) (valI g out (nb s k)) = stepC g s (nb s k) + valI g out (nb s k) := iAdd_eq (by omega) (by omega)
    simp only [Bool.not_true, cond_false, cond_true, Bool.true_and, spec_l07Index_ok, Option.bind_some, ib, is, q1, q2, q3]
    by_cases h0 : 0 ≤ valI g out (nb s k)
    · rw [iLt_neg (by omega), iLe_pos h0, cond_false, Bool.and_true]
      cases iLt (valI g out s) 0 with
      | true => rfl
      | false =>
        simp only [cond_false, Bool.false_or]
    · rw [iLt_pos (by omega), iLe_neg h0, cond_true, Bool.and_false, cond_false]

/-- what a sweep keeps -/
def Swept (g : DGrid) (goal : Vec 2 Int) (o0 : List Int) (c : Bool) (out : List Int) (D : Vec 2 Int → Nat → Prop) : Prop :=
  Lab g goal out ∧ ((c = true ∧ pot out < pot o0) ∨ (c = false ∧ out = o0 ∧ ∀ s k, Fit TySpot s → hasB g s = true → k < 8 → D s k → okAt g o0 s (nb s k)))

theorem spec_costs_l17_run {goal : Vec 2 Int} (hgo : Fit TySpot goal) (hgh : hasB g goal = true) {s : Vec 2 Int} (hs : Fit TySpot s) (hh : hasB g s = true) (hw : wallB g s = false) {n : Nat} (hi : atI g s = (n : Int)) (hn : n < 576) {o0 out : List Int} {c : Bool} {D : Vec 2 Int → Nat → Prop} (hS : Swept g goal o0 c out D) {x : Bool × Int × List Int × Unit} (hx : x.2.1 = (n : Int)) :
    ∃ c' out', run (spec_l07Costs_l17 ((waysL, ()), ()) g s.1 s.2.1 x) (c, (0 : Int), out, ()) = some (.inl (c', ((n + 1 : Nat) : Int), out', ())) ∧ Swept g goal o0 c' out' (fun u k => D u k ∨ u = s) := by
  obtain ⟨c0, i, oo, ⟨⟩⟩ := x
  simp only at hx
  subst hx
  have r := run_inv (f := spec_l07Costs_l17 ((waysL, ()), ()) g s.1 s.2.1 (c0, (n : Int), oo, ())) (fun x => ∃ k : Nat, x.2.1 = (k : Int) ∧ k ≤ 8 ∧ Swept g goal o0 x.1 x.2.2.1 (fun u j => D u j ∨ (u = s ∧ j < k))) (fun x => (8 - x.2.1).toNat) (fun a => ∃ c' out', a = .inl (c', ((n + 1 : Nat) : Int), out', ()) ∧ Swept g goal o0 c' out' (fun u k => D u k ∨ u = s)) (fun x hI => by
    obtain ⟨k, hk, hk8, hSx⟩ := hI
    obtain ⟨cx, kx, ox, ⟨⟩⟩ := x
    simp only at hk hSx
    subst hk
    by_cases hk' : k < 8
    · left
      have hm : ((8 : Int) - ((k + 1 : Nat) : Int)).toNat < ((8 : Int) - (k : Int)).toNat := by omega
      have st := spec_costs_l17_step hf hg hSx.1 hs hh hw hk' (c := cx) (c0 := c0) hi (o0 := oo)
      rw [st]
      obtain ⟨fa, _, _⟩ := nb_fit hf hg hs hh hk'
      cases hb : betB g ox s (nb s k) && iLe 0 (valI g ox (nb s k)) with
      | true =>
        rw [Bool.and_eq_true] at hb
        obtain ⟨he, hc⟩ := bet_edge hf hg hb.1
        obtain ⟨L1, p1, _⟩ := lab_relax hf hg hSx.1 hgo hgh hs fa he (iLe_true.1 hb.2) hc
        refine ⟨_, rfl, ⟨k + 1, rfl, by omega, L1, .inl ⟨rfl, ?_⟩⟩, hm⟩
        rcases hSx.2 with ⟨_, h⟩ | ⟨_, h, _⟩
        · exact Nat.lt_trans p1 h
        · rw [← h]; exact p1
      | false =>
        refine ⟨_, rfl, ⟨k + 1, rfl, by omega, hSx.1, ?_⟩, hm⟩
        rcases hSx.2 with h | ⟨h1, h2, h3⟩
        · exact .inl h
        · refine .inr ⟨h1, h2, fun u j hu hhu hj hD => ?_⟩
          rcases hD with hD | ⟨rfl, hjk⟩
          · exact h3 u j hu hhu hj (.inl hD)
          · by_cases hjk' : j = k
            · subst hjk'
              intro he h0
              rw [← h2] at h0 ⊢
              rw [iLe_pos h0, Bool.and_true] at hb
              exact bet_not hf hg hb he h0
            · exact h3 u j hu hhu hj (.inr ⟨rfl, by omega⟩)
    · right
      have hk8' : k = 8 := by omega
      subst hk8'
      have e1 : iLt ((8 : Nat) : Int) 8 = false := by decide
      have e2 : iAdd .i64 (n : Int) 1 = ((n + 1 : Nat) : Int) := iAdd_one (Nat.lt_succ_self n) (by omega)
      refine ⟨.inl (cx, ((n + 1 : Nat) : Int), ox, ()), ?_, cx, ox, rfl, hSx.1, ?_⟩
      · simp only [spec_l07Costs_l17, e1, e2, cond_false]
        rfl
      · rcases hSx.2 with h | ⟨h1, h2, h3⟩
        · exact .inl h
        · refine .inr ⟨h1, h2, fun u j hu hhu hj hD => ?_⟩
          rcases hD with hD | rfl
          · exact h3 u j hu hhu hj (.inl hD)
          · exact h3 u j hu hhu hj (.inr ⟨rfl, hj⟩)) (s := (c, (0 : Int), out, ())) ⟨0, rfl, by omega, hS.1, hS.2.imp id fun ⟨h1, h2, h3⟩ => ⟨h1, h2, fun u j hu hhu hj hD => h3 u j hu hhu hj (hD.elim id fun h => absurd h.2 (Nat.not_lt_zero _))⟩⟩
  obtain ⟨a, ha, c', out', rfl, h⟩ := r
  exact ⟨c', out', ha, h⟩

/-- the spot of an index -/
theorem spot_of {n : Nat} (hn : n < g.2.2.1.length) : ∃ s : Vec 2 Int, s = ((n : Int) % g.1, (n : Int) / g.1, ()) ∧ Fit TySpot s ∧ hasB g s = true ∧ atI g s = (n : Int) := by
  obtain ⟨g1, g2, g3, g4, g5⟩ := gridB_true hg
  have hm : 0 ≤ (n : Int) % g.1 ∧ (n : Int) % g.1 < g.1 := ⟨Int.emod_nonneg _ (by omega), Int.emod_lt_of_pos _ (by omega)⟩
  have hd : g.1 * ((n : Int) / g.1) + (n : Int) % g.1 = n := Int.mul_ediv_add_emod _ _
  have hd0 : 0 ≤ (n : Int) / g.1 := Int.ediv_nonneg (by omega) (by omega)
  have hd1 : (n : Int) / g.1 < g.2.1 := Int.ediv_lt_of_lt_mul (by omega) (by rw [Int.mul_comm]; omega)
  have hs : Fit TySpot (((n : Int) % g.1, (n : Int) / g.1, ()) : Vec 2 Int) := fit_spot (by omega) (by omega) (by omega) (by omega)
  have hh := (hasB_iff hs hg).2 ⟨hm.1, hm.2, hd0, hd1⟩
  obtain ⟨e, _, _⟩ := atI_eq hs hg hh
  refine ⟨_, rfl, hs, hh, e.trans ?_⟩
  show (n : Int) / g.1 * g.1 + (n : Int) % g.1 = n
  rw [Int.mul_comm]
  exact hd

theorem spec_costs_l12_run {goal : Vec 2 Int} (hgo : Fit TySpot goal) (hgh : hasB g goal = true) {o0 : List Int} (hL : Lab g goal o0) :
    ∃ c' out', run (spec_l07Costs_l12 g ((waysL, ()), ())) (false, (0 : Int), o0, ()) = some (.inl (c', out', ())) ∧ Swept g goal o0 c' out' (fun _ _ => True) := by
  have hN := cells_le hf hg
  obtain ⟨g1, g2, g3, g4, g5⟩ := gridB_true hg
  have r := run_inv (f := spec_l07Costs_l12 g ((waysL, ()), ())) (fun x => ∃ n : Nat, x.2.1 = (n : Int) ∧ n ≤ g.2.2.1.length ∧ Swept g goal o0 x.1 x.2.2.1 (fun u _ => (atI g u).toNat < n)) (fun x => (g.2.2.1.length - x.2.1).toNat) (fun a => ∃ c' out', a = .inl (c', out', ()) ∧ Swept g goal o0 c' out' (fun _ _ => True)) (fun x hI => by
    obtain ⟨n, hn, hnl, hS⟩ := hI
    obtain ⟨c, i, out, ⟨⟩⟩ := x
    simp only at hn hS
    subst hn
    have hlen := hS.1.len
    by_cases hlt : n < g.2.2.1.length
    · left
      have hm : ((g.2.2.1.length : Int) - ((n + 1 : Nat) : Int)).toNat < ((g.2.2.1.length : Int) - (n : Int)).toNat := by omega
      obtain ⟨s, es, hs, hh, hi⟩ := spot_of hf hg hlt
      have d0 : iEq g.1 0 = false := iEq_neg (by omega)
      have x0 : iWrap .i16 (iRem .i64 (n : Int) g.1) = s.1 := by
        have hm : 0 ≤ (n : Int) % g.1 ∧ (n : Int) % g.1 < g.1 := ⟨Int.emod_nonneg _ (by omega), Int.emod_lt_of_pos _ (by omega)⟩
        have : iRem .i64 (n : Int) g.1 = (n : Int) % g.1 := Int.tmod_eq_emod_of_nonneg (by omega)
        rw [this, wrap_i16 (by omega) (by omega), es]
      have x1 : iWrap .i16 (iQuo .i64 (n : Int) g.1) = s.2.1 := by
        have h0 : 0 ≤ (n : Int) / g.1 := Int.ediv_nonneg (by omega) (by omega)
        have h1 : (n : Int) / g.1 ≤ n := Int.ediv_le_self _ (by omega)
        have : iQuo .i64 (n : Int) g.1 = (n : Int) / g.1 := by
          show IntKind.i64.wrap ((n : Int).tdiv g.1) = _
          rw [Int.tdiv_eq_ediv_of_nonneg (by omega)]
          exact wrap64_id (by omega) (by omega)
        rw [this, wrap_i16 (by omega) (by omega), es]
      have e1 : iLt (n : Int) (lenI out) = true := iLt_pos (by rw [lenI_eq, hlen]; omega)
      have e2 : iAdd .i64 (n : Int) 1 = ((n + 1 : Nat) : Int) := iAdd_one (Nat.lt_succ_self n) (by omega)
      have ep : ((s.1, s.2.1, ()) : Vec 2 Int) = s := rfl
      have himp : ∀ u, Fit TySpot u → hasB g u = true → (atI g u).toNat < n + 1 → (atI g u).toNat < n ∨ u = s := fun u hu hhu h => by
        by_cases hun : (atI g u).toNat < n
        · exact .inl hun
        · right
          exact at_inj hf hg hu hs hhu hh (by rw [hi]; omega)
      cases hw : wallB g s with
      | true =>
        refine ⟨(c, ((n + 1 : Nat) : Int), out, ()), ?_, ⟨n + 1, rfl, by omega, hS.1, ?_⟩, hm⟩
        · simp only [spec_l07Costs_l12, e1, e2, d0, x0, x1, ep, spec_l07Wall_ok hs hg hh, hw, cond_true, cond_false, Option.bind_some]
        · rcases hS.2 with h | ⟨h1, h2, h3⟩
          · exact .inl h
          · refine .inr ⟨h1, h2, fun u j hu hhu hj hD => ?_⟩
            rcases himp u hu hhu hD with h | rfl
            · exact h3 u j hu hhu hj h
            · intro he
              simp [edgeB, hw] at he
      | false =>
        obtain ⟨c', out', hr, hS'⟩ := spec_costs_l17_run hf hg hgo hgh hs hh hw (n := n) hi (by omega) hS (x := (c, (n : Int), out, ())) rfl
        refine ⟨(c', ((n + 1 : Nat) : Int), out', ()), ?_, ⟨n + 1, rfl, by omega, hS'.1, ?_⟩, hm⟩
        · simp only [spec_l07Costs_l12, e1, d0, x0, x1, ep, spec_l07Wall_ok hs hg hh, hw, cond_true, cond_false, Option.bind_some]
          exact hr
        · rcases hS'.2 with h | ⟨h1, h2, h3⟩
          · exact .inl h
          · exact .inr ⟨h1, h2, fun u j hu hhu hj hD => h3 u j hu hhu hj (himp u hu hhu hD)⟩
    · right
      have hnn : n = g.2.2.1.length := by omega
      have e1 : iLt (n : Int) (lenI out) = false := iLt_neg (by rw [lenI_eq, hlen]; omega)
      refine ⟨.inl (c, out, ()), ?_, c, out, rfl, hS.1, ?_⟩
      · simp only [spec_l07Costs_l12, e1, cond_false]
        rfl
      · rcases hS.2 with h | ⟨h1, h2, h3⟩
        · exact .inl h
        · refine .inr ⟨h1, h2, fun u j hu hhu hj _ => h3 u j hu hhu hj ?_⟩
          obtain ⟨e, a1, b1⟩ := atI_eq hu hg hhu
          rw [e, hnn]
          omega) (s := (false, (0 : Int), o0, ())) ⟨0, rfl, by omega, hL, .inr ⟨rfl, rfl, fun u j _ _ _ h => absurd h (Nat.not_lt_zero _)⟩⟩
  obtain ⟨a, ha, c', out', rfl, h⟩ := r
  exact ⟨c', out', ha, h⟩

theorem closed_of_swept {out : List Int} (h : ∀ s k, Fit TySpot s → hasB g s = true → k < 8 → True → okAt g out s (nb s k)) : ∀ u, Fit TySpot u → hasB g u = true → closedAt g out u := by
  intro u hu hh h0 s hs hes
  obtain ⟨e1, e2, _, _, hst, _⟩ := edge_has hf hg hes
  have hn : nearB s u = true := by simp only [stepB, Bool.and_eq_true] at hst; exact hst.1
  obtain ⟨k, hk, rfl⟩ := nb_of_near hn
  exact h s k hs e1 hk trivial hes h0

theorem spec_costs_l9_run {goal : Vec 2 Int} (hgo : Fit TySpot goal) (hgh : hasB g goal = true) {o0 : List Int} (hL : Lab g goal o0) :
    ∃ out, run (spec_l07Costs_l9 g ((waysL, ()), ())) (true, o0, ()) = some ((out, ()), ()) ∧ Lab g goal out ∧ ∀ u, Fit TySpot u → hasB g u = true → closedAt g out u := by
  have r := run_inv (f := spec_l07Costs_l9 g ((waysL, ()), ())) (fun x => Lab g goal x.2.1 ∧ (x.1 = false → ∀ u, Fit TySpot u → hasB g u = true → closedAt g x.2.1 u)) (fun x => 2 * pot x.2.1 + (bif x.1 then 1 else 0)) (fun a => ∃ out, a = ((out, ()), ()) ∧ Lab g goal out ∧ ∀ u, Fit TySpot u → hasB g u = true → closedAt g out u) (fun x hI => by
    obtain ⟨c, out, ⟨⟩⟩ := x
    obtain ⟨h1, h2⟩ := hI
    simp only at h1 h2
    cases c with
    | true =>
      left
      obtain ⟨c', out', hr, hS⟩ := spec_costs_l12_run hf hg hgo hgh h1
      refine ⟨(c', out', ()), ?_, ⟨hS.1, fun hc => ?_⟩, ?_⟩
      · simp only [spec_l07Costs_l9, cond_true]
        exact hr
      · simp only at hc
        subst hc
        rcases hS.2 with ⟨h, _⟩ | ⟨_, h, h3⟩
        · exact absurd h (by decide)
        · exact closed_of_swept hf hg (by rw [h]; exact h3)
      · rcases hS.2 with ⟨h, hp⟩ | ⟨h, ho, _⟩
        · simp only [h, cond_true]; omega
        · simp only [h, ho, cond_true, cond_false]; omega
    | false =>
      right
      exact ⟨((out, ()), ()), by simp only [spec_l07Costs_l9, cond_false]; rfl, out, rfl, h1, h2 rfl⟩) (s := (true, o0, ())) ⟨hL, fun h => absurd (show true = false from h) (by decide)⟩
  obtain ⟨a, ha, out, rfl, h⟩ := r
  exact ⟨out, ha, h⟩

theorem spec_costs_ok {goal : Vec 2 Int} (hgo : Fit TySpot goal) (hgh : hasB g goal = true) :
    ∃ out, spec_l07Costs g goal = some ((out, ()), ()) ∧ Lab g goal out ∧ ∀ u, Fit TySpot u → hasB g u = true → closedAt g out u := by
  have hN := cells_le hf hg
  obtain ⟨L, _, _⟩ := lab_first hf hg hgo hgh
  obtain ⟨out, hr, h2, h3⟩ := spec_costs_l9_run hf hg hgo hgh L
  have e1 : (iLe 0 (lenI g.2.2.1) && iLe (lenI g.2.2.1) (lenI g.2.2.1) && room g.2.2.1.length 8) = true := to_room g.2.2.1 8 (by omega) (by omega)
  have e2 : (lenI g.2.2.1).toNat = g.2.2.1.length := rfl
  have ei := out_inB hf hg hgo hgh (out := List.replicate g.2.2.1.length (-1 : Int)) List.length_replicate
  have ew : spec_l07Ways = some ((waysL, ()), ()) := rfl
  have r := run_inv (f := spec_l07Costs_l3 g goal) (fun x => ∃ n : Nat, n ≤ g.2.2.1.length ∧ x = ((n : Int), List.replicate n (-1 : Int) ++ List.replicate (g.2.2.1.length - n) 0, ())) (fun x => (g.2.2.1.length - x.1).toNat) (fun a => a = ((out, ()), ())) (fun x hI => by
    obtain ⟨n, hn, rfl⟩ := hI
    have hlen : (List.replicate n (-1 : Int) ++ List.replicate (g.2.2.1.length - n) 0).length = g.2.2.1.length := by simp; omega
    by_cases hlt : n < g.2.2.1.length
    · left
      have c1 : iLt (n : Int) (lenI (List.replicate n (-1 : Int) ++ List.replicate (g.2.2.1.length - n) 0)) = true := iLt_pos (by rw [lenI_eq, hlen]; omega)
      have c2 : inB (n : Int) g.2.2.1.length = true := inB_pos hlt
      have c3 : iAdd .i64 (n : Int) 1 = ((n + 1 : Nat) : Int) := iAdd_one hlt (by omega)
      have c4 : (List.replicate n (-1 : Int) ++ List.replicate (g.2.2.1.length - n) 0).set n (-1) = List.replicate (n + 1) (-1 : Int) ++ List.replicate (g.2.2.1.length - (n + 1)) 0 := by
        rw [List.set_append_right _ _ (by simp), List.length_replicate, Nat.sub_self]
        obtain ⟨m, hm⟩ : ∃ m, g.2.2.1.length - n = m + 1 := ⟨g.2.2.1.length - n - 1, by omega⟩
        rw [hm, List.replicate_succ, List.set_cons_zero, ← List.replicate_append_replicate, List.append_assoc]
        congr 1
        rw [show g.2.2.1.length - (n + 1) = m by omega]
        rfl
      refine ⟨_, ?_, ⟨n + 1, by omega, rfl⟩, ?_⟩
      · simp only [spec_l07Costs_l3, c1, hlen, c2, c3, c4, cond_true, Int.toNat_natCast]
      · show ((g.2.2.1.length : Int) - ((n + 1 : Nat) : Int)).toNat < ((g.2.2.1.length : Int) - (n : Int)).toNat
        omega
    · right
      have hnn : n = g.2.2.1.length := by omega
      have c1 : iLt (n : Int) (lenI (List.replicate n (-1 : Int) ++ List.replicate (g.2.2.1.length - n) 0)) = false := iLt_neg (by rw [lenI_eq, hlen]; omega)
      have c2 : List.replicate n (-1 : Int) ++ List.replicate (g.2.2.1.length - n) 0 = List.replicate g.2.2.1.length (-1 : Int) := by rw [hnn]; simp
      rw [c2] at c1 ⊢
      refine ⟨((out, ()), ()), ?_, rfl⟩
      simp only [spec_l07Costs_l3, c1, spec_l07Index_ok, Option.bind_some, ei, ew, cond_true, cond_false, hr]
      rfl) (s := ((0 : Int), List.replicate g.2.2.1.length (0 : Int), ())) ⟨0, by omega, by simp⟩
  obtain ⟨a, ha, rfl⟩ := r
  refine ⟨out, ?_, h2, h3⟩
  simp only [spec_l07Costs, e1, e2, cond_true]
  exact ha
end

theorem costs_same {g : DGrid} (hf : Fit TyGrid g) (hg : gridB g = true) {goal : Vec 2 Int} (hgo : Fit TySpot goal) (hgh : hasB g goal = true) :
    ∃ out, impl_Grid_costsTo g goal = some ((out, ()), ()) ∧ spec_l07Costs g goal = some ((out, ()), ()) ∧ Lab g goal out ∧ ∀ u, Fit TySpot u → hasB g u = true → closedAt g out u := by
  obtain ⟨o1, h1, L1, c1⟩ := impl_costsTo_ok hf hg hgo hgh
  obtain ⟨o2, h2, L2, c2⟩ := spec_costs_ok hf hg hgo hgh
  have e := lab_unique hf hg L1 L2 c1 c2
  subst e
  exact ⟨o1, h1, h2, L1, c1⟩
end Go.Proofs.YtnndahnmlmgenaaGreat
