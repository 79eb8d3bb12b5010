/- Functions of the program and of the reference in plain terms. -/
import Derived.Test.YtdmaamakckochaaGreatDoorP12
namespace Go.Proofs.YtdmaamakckochaaGreatDoor
open Go Go.Tm
set_option linter.unusedVariables false
set_option linter.unusedSimpArgs false
set_option linter.unusedSectionVars false
/-! ### costs in tens, and their text -/
def tenC (c : Int) : Int := bif iEq c 255 then 255 else iMul .u8 (iQuo .u8 c 30) 10

def tenB (c : Int) : Bool := decide (0 ≤ c) && (decide (c ≤ 255) && (decide (costB (toByte (signI c)) = c) && (legalB (toByte (signI c)) && !decide (toByte (signI c) = 10))))
theorem tenC_all : (List.range 256).all (fun n => tenB (tenC (n : Int))) = true := by kernel_rfl

def Ten (c : Int) : Prop := (0 ≤ c ∧ c ≤ 255) ∧ costB (toByte (signI c)) = c ∧ legalB (toByte (signI c)) = true ∧ toByte (signI c) ≠ 10
theorem ten_tenC {c : Int} (h0 : 0 ≤ c) (h1 : c ≤ 255) : Ten (tenC c) := by
  obtain ⟨n, rfl⟩ := Int.eq_ofNat_of_zero_le h0
  have h := List.all_eq_true.1 tenC_all n (List.mem_range.2 (by omega))
  simp only [tenB, Bool.and_eq_true, decide_eq_true_eq, Bool.not_eq_true', decide_eq_false_iff_not] at h
  exact ⟨⟨h.1, h.2.1⟩, h.2.2.1, h.2.2.2.1, h.2.2.2.2⟩

theorem gridT_count {w : Nat} : ∀ (i : Nat) (r : List Int), (∀ c ∈ r, Ten c) → (ofBytes (gridT w i r)).count 10 + r.length = (gridT w i r).length
  | i, [], _ => rfl
  | i, c :: r, h => by
    have ih := gridT_count (w := w) (i + 1) r (fun x hx => h x (by simp [hx]))
    have hc := (h c (by simp)).2.2.2
    unfold ofBytes at ih ⊢
    rw [gridT]
    have k : ((toByte (signI c)) == (10 : UInt8)) = false := by simpa using hc
    split
    · rw [List.map_cons, List.map_cons, List.count_cons, List.count_cons, k]
      have e : (toByte 10 == (10 : UInt8)) = true := by decide
      rw [e]
      simp only [List.length_cons]
      simp
      omega
    · rw [List.map_cons, List.count_cons, k]
      simp only [List.length_cons]
      simp
      omega

theorem gridT_filter {w : Nat} : ∀ (i : Nat) (r : List Int), (∀ c ∈ r, Ten c) → costsB (ofBytes (gridT w i r)) = r
  | i, [], _ => rfl
  | i, c :: r, h => by
    have ih := gridT_filter (w := w) (i + 1) r (fun x hx => h x (by simp [hx]))
    have hc := (h c (by simp)).2
    unfold ofBytes costsB at ih ⊢
    have k : (!iEq (byteI (toByte (signI c))) 10) = true := by
      rw [byte10]; simp [hc.2.2]
    have e : (!iEq (byteI (toByte 10)) 10) = false := by decide
    rw [gridT]
    split
    · rw [List.map_cons, List.map_cons, List.filter_cons, k, List.filter_cons, e]
      simp only [if_true, List.map_cons, hc.1]
      rw [if_neg (by decide), ih]
    · rw [List.map_cons, List.filter_cons, k]
      simp only [if_true, List.map_cons, hc.1]
      rw [ih]

theorem gridT_first {w : Nat} (hw : 1 ≤ w) : ∀ (i : Nat) (r : List Int), (∀ c ∈ r, Ten c) → w - i % w ≤ r.length → ∃ P R, ofBytes (gridT w i r) = P ++ 10 :: R ∧ P.length = w - i % w ∧ (10 : UInt8) ∉ P
  | i, [], _, hl => by
    have := Nat.mod_lt i hw
    simp at hl
    omega
  | i, c :: r, h, hl => by
    have hm := Nat.mod_lt i hw
    have hc := (h c (by simp)).2.2.2
    by_cases h1 : (i + 1) % w = 0
    · refine ⟨[toByte (signI c)], ofBytes (gridT w (i + 1) r), ?_, ?_, ?_⟩
      · rw [gridT, if_pos h1]; rfl
      · have h2 : i % w = w - 1 := by
          have h3 := Nat.div_add_mod i w
          have h4 := Nat.div_add_mod (i + 1) w
          rw [h1] at h4
          have h5 : w * (i / w) < w * ((i + 1) / w) := by omega
          have h6 : i / w < (i + 1) / w := Nat.lt_of_mul_lt_mul_left h5
          have h7 : w * (i / w + 1) ≤ w * ((i + 1) / w) := Nat.mul_le_mul_left w h6
          rw [Nat.mul_add, Nat.mul_one] at h7
          omega
        show 1 = w - i % w
        omega
      · simpa using fun h => hc h.symm
    · have h2 : (i + 1) % w = i % w + 1 := by
        have h3 := Nat.div_add_mod i w
        have h4 := Nat.div_add_mod (i + 1) w
        have h5 := Nat.mod_lt (i + 1) hw
        by_cases h6 : i % w + 1 = w
        · exfalso
          apply h1
          have : i + 1 = w * (i / w + 1) := by rw [Nat.mul_add, Nat.mul_one]; omega
          rw [this]
          exact Nat.mul_mod_right _ _
        · rw [show i + 1 = w * (i / w) + (i % w + 1) by omega, Nat.mul_add_mod]
          exact Nat.mod_eq_of_lt (by omega)
      obtain ⟨P, R, e, hp, hn⟩ := gridT_first hw (i + 1) r (fun x hx => h x (by simp [hx])) (by rw [h2]; simp at hl; omega)
      refine ⟨toByte (signI c) :: P, R, ?_, ?_, ?_⟩
      · rw [gridT, if_neg h1]
        show toByte (signI c) :: ofBytes (gridT w (i + 1) r) = _
        rw [e]; rfl
      · simp only [List.length_cons, hp, h2]; omega
      · intro h'
        rcases List.mem_cons.1 h' with h' | h'
        · exact hc h'.symm
        · exact hn h'

/-- a grid whose costs are tens is read from its text -/
theorem read_text {g : DGrid} (hg : gridB g = true) (hw : g.1 ≤ 7) (hh : g.2.1 ≤ 7) (ht : ∀ c ∈ g.2.2.1, Ten c) : impl_ReadGrid (gridS g) = some ((g, 0, ()), ()) := by
  obtain ⟨g1, g2, g3, g4, g5⟩ := gridB_true hg
  obtain ⟨W, H, cs, ⟨⟩⟩ := g
  simp only at hw hh ht g1 g2 g3 g4 g5
  obtain ⟨w, rfl⟩ := Int.eq_ofNat_of_zero_le (show 0 ≤ W by omega)
  obtain ⟨h, rfl⟩ := Int.eq_ofNat_of_zero_le (show 0 ≤ H by omega)
  have hcs : cs.length = w * h := by
    have : (cs.length : Int) = ((w * h : Nat) : Int) := by rw [Int.natCast_mul]; exact g5
    exact Int.ofNat.inj this
  have hwh : w * h ≤ 7 * 7 := Nat.mul_le_mul (by omega) (by omega)
  have hS : gridS (((w : Int), (h : Int), cs, ()) : DGrid) = ofBytes (gridT w 0 cs) := rfl
  have hlen := gridT_length w (by omega) 0 cs
  have hdiv : (0 + cs.length) / w = h := by rw [Nat.zero_add, hcs]; exact Nat.mul_div_cancel_left _ (by omega)
  rw [hdiv, Nat.zero_div] at hlen
  have hsl : (ofBytes (gridT w 0 cs)).length = cs.length + h := by unfold ofBytes; rw [List.length_map]; omega
  have hcount : (ofBytes (gridT w 0 cs)).count 10 = h := by
    have := gridT_count (w := w) 0 cs ht
    omega
  obtain ⟨P, R, e1, e2, e3⟩ := gridT_first (w := w) (by omega) 0 cs ht (by
    rw [Nat.zero_mod, hcs]
    have := Nat.mul_le_mul_left w (show 1 ≤ h by omega)
    omega)
  rw [Nat.zero_mod] at e2
  have hG : gOf (ofBytes (gridT w 0 cs)) = ((w : Int), (h : Int), cs, ()) := by
    unfold gOf
    rw [hcount, gridT_filter 0 cs ht, e1, splitC_cut R e3]
    show (lenI P, _, _, _) = _
    rw [lenI_eq, e2, Nat.sub_zero]
  rw [impl_ReadGrid_ok (by rw [hS, hsl]; omega), readGrid_same, hS]
  have c1 : iLt 600 (lenI (ofBytes (gridT w 0 cs))) = false := iLt_neg (by rw [lenI_eq, hsl]; omega)
  have c2 : (ofBytes (gridT w 0 cs)).all (fun b => iEq (byteI b) 10 || legalB b) = true := by
    rw [List.all_eq_true]
    intro b hb
    unfold ofBytes at hb
    obtain ⟨x, hx, rfl⟩ := List.mem_map.1 hb
    rcases gridT_mem hx with rfl | ⟨c, hc, rfl⟩
    · decide
    · rw [(ht c hc).2.2.1, Bool.or_true]
  rw [c1, c2, hG]
  simp only [cond_true, cond_false]
  unfold endG
  rw [hg, hS, sEq_self]
  rfl

/-! ### grids that are the same -/
theorem spec_SameGrid_self (g : DGrid) : spec_SameGrid g g = some ((true, ()), ()) := by
  simp only [spec_SameGrid, iEq_self, sEq_self, cond_true]

theorem equal_self (l : List Int) (hl : l.length ≤ 1000000) : slices_Equal_uint8 l l = some ((true, ()), ()) := by
  simp only [slices_Equal_uint8, iEq_self, Bool.not_true, cond_false]
  refine all_loop (n := l.length) (fun i hi => ?_) ?_
  · have e1 : iLt (i : Int) (lenI l) = true := iLt_pos (by rw [lenI_eq]; omega)
    have e2 : inB (i : Int) l.length = true := inB_pos hi
    have e3 : iAdd .i64 (i : Int) 1 = ((i + 1 : Nat) : Int) := iAdd_one hi (by omega)
    simp only [slices_Equal_uint8_l4, e1, e2, e3, iEq_self, Bool.not_true, cond_true, cond_false]
  · have e1 : iLt (l.length : Int) (lenI l) = false := iLt_neg (by rw [lenI_eq]; omega)
    simp only [slices_Equal_uint8_l4, e1, cond_false]
    rfl

theorem impl_SameGrid_self (g : DGrid) (hl : g.2.2.1.length ≤ 1000000) : impl_SameGrid g g = some ((true, ()), ()) := by
  simp only [impl_SameGrid, iEq_self, equal_self g.2.2.1 hl, cond_true, Option.bind_some]

/-! ### walls out of marks -/
theorem count_set (v : Int) : ∀ (c : List Int) (i : Nat), (c.set i v).count v ≤ c.count v + 1
  | [], i => by simp
  | a :: c, 0 => by
    rw [List.set_cons_zero, List.count_cons, List.count_cons]
    simp
  | a :: c, i + 1 => by
    have := count_set v c i
    rw [List.set_cons_succ, List.count_cons, List.count_cons]
    omega

theorem gridMarks_few (m : DMap) (hl : m.2.1.length ≤ 200) (low : Vec 2 Nat) (side : Nat) {w h : Int} (hw : 1 ≤ w) (hw1 : w ≤ 24) (hh : 1 ≤ h) (hh1 : h ≤ 24) :
    ∃ c : List Int, run (spec_GridOfMarks_l7 m low side w h) ((0 : Int), (w, h, List.replicate (w * h).toNat (0 : Int), ()), ()) = some (((w, h, c, ()), 0, ()), ()) ∧ (c.length : Int) = w * h ∧ c.count 255 ≤ m.2.1.length := by
  have h6 : 0 ≤ w * h := Int.mul_nonneg (by omega) (by omega)
  have h7 : w * h ≤ 24 * 24 := Int.mul_le_mul hw1 hh1 (by omega) (by omega)
  have r := run_inv (f := spec_GridOfMarks_l7 m low side w h) (fun s => ∃ (i : Nat) (c : List Int), s = ((i : Int), (w, h, c, ()), ()) ∧ i ≤ m.2.1.length ∧ (c.length : Int) = w * h ∧ c.count 255 ≤ i) (fun s => (m.2.1.length - s.1).toNat) (fun a => ∃ c : List Int, a = (((w, h, c, ()), 0, ()), ()) ∧ (c.length : Int) = w * h ∧ c.count 255 ≤ m.2.1.length) (fun s hI => by
    obtain ⟨i, c, rfl, hi, hc, hn⟩ := hI
    by_cases hlt : i < m.2.1.length
    · left
      have e1 : iLt (i : Int) (lenI m.2.1) = true := iLt_pos (by rw [lenI_eq]; omega)
      have e2 : inB (i : Int) m.2.1.length = true := inB_pos hlt
      have e5 : iAdd .i64 (i : Int) 1 = ((i + 1 : Nat) : Int) := iAdd_one hlt (by omega)
      have hm : ((m.2.1.length : Int) - ((i + 1 : Nat) : Int)).toNat < ((m.2.1.length : Int) - (i : Int)).toNat := by omega
      simp only [spec_GridOfMarks_l7, e1, e2, e5, cond_true, fConv32_eq, math_Floor_ok, Option.bind_some]
      generalize fRound .down (conv64 (fDiv .f32 (fSub .f32 (Vec.getD 3 (List.getD m.2.1 (Int.toNat (i : Int)) zMark).2.1 0 (0 : Nat)) (Vec.getD 2 low 0 (0 : Nat))) side)) = x
      generalize fRound .down (conv64 (fDiv .f32 (fSub .f32 (Vec.getD 3 (List.getD m.2.1 (Int.toNat (i : Int)) zMark).2.1 1 (0 : Nat)) (Vec.getD 2 low 1 (0 : Nat))) side)) = y
      cases hx : fLe .f64 0 x with
      | false => exact ⟨_, rfl, ⟨i + 1, c, rfl, by omega, hc, by omega⟩, hm⟩
      | true =>
        cases hx2 : fLt .f64 x (fOfInt .f64 w) with
        | false => exact ⟨_, rfl, ⟨i + 1, c, rfl, by omega, hc, by omega⟩, hm⟩
        | true =>
          cases hy : fLe .f64 0 y with
          | false => exact ⟨_, rfl, ⟨i + 1, c, rfl, by omega, hc, by omega⟩, hm⟩
          | true =>
            cases hy2 : fLt .f64 y (fOfInt .f64 h) with
            | false => exact ⟨_, rfl, ⟨i + 1, c, rfl, by omega, hc, by omega⟩, hm⟩
            | true =>
              obtain ⟨a, ha, a0, a1⟩ := toInt_small (w := w.toNat) (by omega) (by omega) hx (by rw [Int.toNat_of_nonneg (by omega)]; exact hx2)
              obtain ⟨b, hb, b0, b1⟩ := toInt_small (w := h.toNat) (by omega) (by omega) hy (by rw [Int.toNat_of_nonneg (by omega)]; exact hy2)
              rw [Int.toNat_of_nonneg (by omega)] at a1 b1
              obtain ⟨k1, k2⟩ := at_lt (w := w) (h := h) a0 a1 b0 b1 hw1
              have hbw : 0 ≤ b * w := Int.mul_nonneg b0 (by omega)
              have m1 : iMul .i64 b w = b * w := iMul_eq (by omega) (by omega)
              have m2 : iAdd .i64 (b * w) a = b * w + a := iAdd_eq (by omega) (by omega)
              have m3 : inB (b * w + a) c.length = true := inB_int k1 (by omega)
              simp only [ha, hb, m1, m2, m3, Option.bind_some, cond_true]
              have hq := count_set 255 c (b * w + a).toNat
              exact ⟨_, rfl, ⟨i + 1, c.set (b * w + a).toNat 255, rfl, by omega, by rw [List.length_set]; exact hc, by omega⟩, hm⟩
    · right
      have e1 : iLt (i : Int) (lenI m.2.1) = false := iLt_neg (by rw [lenI_eq]; omega)
      exact ⟨_, by simp only [spec_GridOfMarks_l7, e1, cond_false]; rfl, c, rfl, hc, by omega⟩) (s := ((0 : Int), (w, h, List.replicate (w * h).toNat (0 : Int), ()), ())) ⟨0, _, rfl, Nat.zero_le _, by rw [List.length_replicate]; omega, by
        rw [List.count_eq_zero.2 (by intro hx; exact absurd (List.eq_of_mem_replicate hx) (by decide))]; exact Nat.le_refl 0⟩
  obtain ⟨a, ha, c, rfl, hc, hn⟩ := r
  exact ⟨c, ha, hc, hn⟩

theorem marks_grid {m : DMap} (hm : mapB m = true) : ∃ c : List Int, spec_GridOfMarks m 12 6 ((3229614080, 3212836864, ()) : Vec 2 Nat) 1061158912 = some ((((12, 6, c, ()) : DGrid), (0 : Int), ()), ()) ∧ impl_GridOfMarks m 12 6 ((3229614080, 3212836864, ()) : Vec 2 Nat) 1061158912 = some ((((12, 6, c, ()) : DGrid), (0 : Int), ()), ()) ∧ c.length = 72 ∧ c.count 255 ≤ m.2.1.length := by
  obtain ⟨hs, hl, hM⟩ := mapB_iff.1 hm
  have hsz : Sized TyMap m := by
    obtain ⟨s, l, ⟨⟩⟩ := m
    refine ⟨trivial, ⟨?_, fun x _ => ?_⟩, trivial⟩
    · simp only at hl; show l.length ≤ _; omega
    · obtain ⟨⟨a1, a2, a3, ⟨⟩⟩, ⟨b1, b2, b3, ⟨⟩⟩, c, d, e, ⟨⟩⟩ := x
      exact ⟨⟨trivial, trivial, trivial, trivial⟩, ⟨trivial, trivial, trivial, trivial⟩, trivial, trivial, trivial, trivial⟩
  obtain ⟨c, hr, hc, hn⟩ := gridMarks_few m hl ((3229614080, 3212836864, ()) : Vec 2 Nat) 1061158912 (w := 12) (h := 6) (by omega) (by omega) (by omega) (by omega)
  have eg := spec_EmptyGrid_ok (a := 12) (b := 6) (by omega) (by omega) (by omega) (by omega)
  have f1 : finB 3229614080 = true := by decide
  have f2 : finB 3212836864 = true := by decide
  have f3 : finB 1061158912 = true := by decide
  have f4 : fLt .f32 0 1061158912 = true := by decide
  have v0 : Vec.getD 2 ((3229614080, 3212836864, ()) : Vec 2 Nat) 0 (0 : Nat) = 3229614080 := rfl
  have v1 : Vec.getD 2 ((3229614080, 3212836864, ()) : Vec 2 Nat) 1 (0 : Nat) = 3212836864 := rfl
  have kf : impl_isFinite [3229614080, 3212836864] = some ((true, ()), ()) := by
    rw [impl_isFinite_ok _ (by simp)]
    simp only [List.all_cons, List.all_nil, f1, f2, Bool.and_true]
  refine ⟨c, ?_, ?_, by omega, hn⟩
  · simp only [spec_GridOfMarks, impl_ValidMap_ok m hsz, spec_l05Ok_ok m hsz, emptyGrid_eq, gridMarks_eq, Option.bind_some, hm, Bool.not_true, cond_false, eg, spec_l07Low, spec_l01Finite_ok, impl_isSide_ok, iEq_self, v0, v1, f1, f2, f3, f4, cond_true, hr]
  · simp only [impl_GridOfMarks, impl_ValidMap_ok m hsz, spec_l05Ok_ok m hsz, emptyGrid_eq, gridMarks_eq, Option.bind_some, hm, Bool.not_true, cond_false, eg, kf, spec_l07Low, spec_l01Finite_ok, impl_isSide_ok, sideB, iEq_self, v0, v1, f1, f2, f3, f4, cond_true, hr, Bool.and_self]

/-! ### the law -/
theorem run_endG {σ A : Type} {f : σ → Option (σ ⊕ A)} {s : σ} {X : Option A} (h : f s = Option.map Sum.inr X) : run f s = X := by
  rw [run_eq, h]; cases X <;> rfl

theorem walls_run {A : Type} {f : Int × Int × Unit → Option ((Int × Int × Unit) ⊕ A)} {c : List Int} {X : Int → Option A} (hl : c.length ≤ 1000)
    (h1 : ∀ (n i : Nat), i < c.length → n ≤ i → f ((n : Int), (i : Int), ()) = some (.inl (bif iEq (c.getD i 0) 255 then ((n + 1 : Nat) : Int) else (n : Int), ((i + 1 : Nat) : Int), ()))) (h2 : ∀ n : Nat, f ((n : Int), (c.length : Int), ()) = Option.map Sum.inr (X (n : Int))) : run f ((0 : Int), (0 : Int), ()) = X (c.count 255 : Nat) := by
  have key : ∀ (r q : List Int) (n : Nat), q ++ r = c → n ≤ q.length → run f ((n : Int), (q.length : Int), ()) = X ((n + r.count 255 : Nat) : Int) := by
    intro r
    induction r with
    | nil =>
      intro q n hq hn
      rw [List.append_nil] at hq
      subst hq
      exact run_endG (h2 n)
    | cons x r ih =>
      intro q n hq hn
      have hi : q.length < c.length := by rw [← hq]; simp
      have hx : c.getD q.length 0 = x := by rw [← hq]; simp [List.getD_eq_getElem?_getD]
      rw [run_step (h1 n q.length hi hn), hx]
      have hq' : (q ++ [x]) ++ r = c := by rw [← hq]; simp
      cases hw : iEq x 255 with
      | true =>
        have e : x = 255 := by simpa [iEq] using hw
        have := ih (q ++ [x]) (n + 1) hq' (by simp; omega)
        rw [show (q ++ [x]).length = q.length + 1 by simp] at this
        simp only [cond_true]
        rw [this, List.count_cons, e]
        simp
        congr 1
        omega
      | false =>
        have e : x ≠ 255 := by simpa [iEq] using hw
        have := ih (q ++ [x]) n hq' (by simp; omega)
        rw [show (q ++ [x]).length = q.length + 1 by simp] at this
        simp only [cond_false]
        rw [this, List.count_cons]
        simp [e]
  have := key c [] 0 (by simp) (by simp)
  rw [Nat.zero_add] at this
  exact this

theorem ten_run {A : Type} {f : Int × DGrid × Unit → Option ((Int × DGrid × Unit) ⊕ A)} {W H : Int} {cs : List Int} {Y : Option A}
    (h1 : ∀ (i : Nat) (l : List Int), l.length = cs.length → i < l.length → f ((i : Int), (W, H, l, ()), ()) = some (.inl (((i + 1 : Nat) : Int), (W, H, l.set i (tenC (l.getD i 0)), ()), ()))) (h2 : f ((cs.length : Int), (W, H, cs.map tenC, ()), ()) = Option.map Sum.inr Y) :
    run f ((0 : Int), (W, H, cs, ()), ()) = Y := by
  have key : ∀ (r q : List Int), q ++ r = cs → run f ((q.length : Int), (W, H, q.map tenC ++ r, ()), ()) = Y := by
    intro r
    induction r with
    | nil =>
      intro q hq
      rw [List.append_nil] at hq
      subst hq
      rw [List.append_nil]
      exact run_endG h2
    | cons x r ih =>
      intro q hq
      have hx : (q.map tenC ++ x :: r).getD q.length 0 = x := by simp [List.getD_eq_getElem?_getD]
      have hset : (q.map tenC ++ x :: r).set q.length (tenC x) = (q ++ [x]).map tenC ++ r := by simp
      rw [run_step (h1 q.length (q.map tenC ++ x :: r) (by rw [← hq]; simp) (by simp)), hx, hset]
      have := ih (q ++ [x]) (by rw [← hq]; simp)
      rw [show (q ++ [x]).length = q.length + 1 by simp] at this
      exact this
  exact key cs [] (by simp)

theorem laws_FnGrids_plain (x : List Int) (hx : Fit (.list (.int .u8)) x) (y : List Int) (hy : Fit (.list (.int .u8)) y) : ∃ o, laws_FnGrids x y = some ((true, ()), o) := by
  unfold laws_FnGrids
  rw [laws_f6big_ok, laws_f6big_ok]
  simp only [Option.bind_some]
  by_cases hl : 4096 < lenI x
  · rw [iLt_pos hl]; exact ⟨_, rfl⟩
  rw [iLt_neg hl]
  by_cases hl' : 4096 < lenI y
  · rw [iLt_pos hl']; exact ⟨_, rfl⟩
  rw [iLt_neg hl']
  rw [lenI_eq] at hl hl'
  obtain ⟨g0, hg0, hfit, hgb, hw7, hh7⟩ := p6Grid_ok hx (by omega)
  obtain ⟨W, H, cs, ⟨⟩⟩ := g0
  obtain ⟨p, hp, hpf, hph⟩ := p6Spot_ok hy (by omega) hgb
  obtain ⟨m, hmp, hmb⟩ := p6Map_ok hy (by omega) (side := 1065353216) (by decide)
  obtain ⟨c, hm1, hm2, hm3, hm4⟩ := marks_grid hmb
  have hb : ∀ c ∈ cs, 0 ≤ c ∧ c ≤ 255 := fun c hc => hfit.2.2.1.2 c hc
  obtain ⟨g1, g2, g3, g4, g5⟩ := gridB_true hgb
  simp only at hw7 hh7 g1 g2 g3 g4 g5
  have hWH : W * H ≤ 7 * 7 := Int.mul_le_mul hw7 hh7 (by omega) (by omega)
  simp only [hg0, hp, Option.bind_some, cond_false]
  -- the grid in tens
  have hgT : gridB ((W, H, cs.map tenC, ()) : DGrid) = true := by
    have e : lenI (cs.map tenC) = lenI cs := by rw [lenI_eq, lenI_eq, List.length_map]
    show ((iLe 1 W && iLe W 24) && ((iLe 1 H && iLe H 24) && iEq (lenI (cs.map tenC)) (iMul .i64 W H))) = true
    rw [e]
    exact hgb
  have hten : ∀ d ∈ cs.map tenC, Ten d := by
    intro d hd
    obtain ⟨e, he, rfl⟩ := List.mem_map.1 hd
    exact ten_tenC (hb e he).1 (hb e he).2
  have hTl : (cs.map tenC).length ≤ 49 := by rw [List.length_map]; omega
  obtain ⟨gT, hgTe⟩ : ∃ gT : DGrid, gT = (W, H, cs.map tenC, ()) := ⟨_, rfl⟩
  have r1 : impl_GridText gT = some ((gridS gT, ()), ()) := by
    rw [impl_GridText_ok, hgTe, hgT]; rfl
  have r2 : impl_ReadGrid (gridS gT) = some ((gT, 0, ()), ()) := by rw [hgTe]; exact read_text hgT hw7 hh7 hten
  have hpT : hasB gT p = true := by rw [hgTe]; exact hph
  have hgT' : gridB gT = true := by rw [hgTe]; exact hgT
  have hTl' : gT.2.2.1.length ≤ 49 := by rw [hgTe]; exact hTl
  -- a wall more
  obtain ⟨h, hhe⟩ : ∃ h : DGrid, h = (gT.1, gT.2.1, gT.2.2.1.set (atI gT p).toNat 255, ()) := ⟨_, rfl⟩
  have r3 : impl_WithCost gT p 255 = some ((h, 0, ()), ()) := by
    have e1 : room (0 + gT.2.2.1.length) 1 = true := room_pos (by omega)
    have h0 : spotsCode gT [p] = 0 := by simp [spotsCode, hgT', hpT]
    have e2 := at_inB hpf hgT' hpT
    simp only [impl_WithCost, impl_checkSpots_ok gT [p] (by simp), Option.bind_some, impl_Grid_at_ok, impl_ownGrid, slices_Clone_uint8_ok gT.2.2.1 (by omega), e1, cond_true, List.nil_append, h0, iEq_self, Bool.not_true, cond_false, e2, hhe]
  have hhl : h.2.2.1.length = gT.2.2.1.length := by rw [hhe]; exact List.length_set
  have hhb : gridB h = true := by
    have e : lenI h.2.2.1 = lenI gT.2.2.1 := by rw [lenI_eq, lenI_eq, hhl]
    have e1 : h.1 = gT.1 := by rw [hhe]
    have e2 : h.2.1 = gT.2.1 := by rw [hhe]
    unfold gridB at hgT' ⊢
    rw [e, e1, e2]
    exact hgT'
  -- growths
  obtain ⟨s1, s2, s3⟩ := growWalls_val (g := h) (by omega) hhb (n := 1) (by omega) (by omega)
  obtain ⟨-, t2, t3⟩ := growWalls_val (g := h) (by omega) hhb (n := 2) (by omega) (by omega)
  have tw := grow_twice hhb
  obtain ⟨a, hae⟩ : ∃ a : DGrid, a = withL h (growAll h 1 h.2.2.1) := ⟨_, rfl⟩
  have hal : a.2.2.1.length = h.2.2.1.length := by rw [hae]; exact s3
  have hab : gridB a = true := by
    have e : lenI a.2.2.1 = lenI h.2.2.1 := by rw [lenI_eq, lenI_eq, hal]
    have e1 : a.1 = h.1 := by rw [hae]; rfl
    have e2 : a.2.1 = h.2.1 := by rw [hae]; rfl
    unfold gridB at hhb ⊢
    rw [e, e1, e2]
    exact hhb
  obtain ⟨-, u2, u3⟩ := growWalls_val (g := a) (by omega) hab (n := 1) (by omega) (by omega)
  have u2 : impl_GrowWalls a 1 = some ((withL h (growAll h 2 h.2.2.1), 0, ()), ()) := by
    rw [u2]
    have e : withL a (growAll a 1 a.2.2.1) = withL h (growAll h 2 h.2.2.1) := by
      rw [← tw, hae]; rfl
    rw [e]
  rw [← hae] at s1 s2
  have hcell : ∀ j, j < h.2.2.1.length → (h.2.2.1.getD j 0 = 255 → a.2.2.1.getD j 0 = 255) ∧ (a.2.2.1.getD j 0 ≠ 255 → a.2.2.1.getD j 0 = h.2.2.1.getD j 0) := by
    intro j hj
    obtain ⟨x', y', q1, q2, q3, q4, q5⟩ := place_spot hhb hj
    obtain ⟨k1, k2⟩ := grow_at hhb (n := 1) (by omega) q1 q2 q3 q4
    rw [q5] at k1 k2
    have ea : a.2.2.1 = growAll h 1 h.2.2.1 := by rw [hae]; rfl
    rw [ea]
    refine ⟨fun hw => k1 ⟨x', y', q1, q2, q3, q4, by rw [q5]; exact hw, by omega, by omega, by omega, by omega⟩, fun hn => ?_⟩
    by_cases hh : HitG h 1 x' y'
    · exact absurd (k1 hh) hn
    · exact k2 hh
  obtain ⟨b, hbe⟩ : ∃ b : DGrid, b = withL h (growAll h 2 h.2.2.1) := ⟨_, rfl⟩
  rw [← hbe] at u2 t2
  have sgT := impl_SameGrid_self gT (by omega)
  -- the last part
  have last : run (laws_FnGrids_l30 (((12, 6, c, ()), 0, ()), ()) (((12, 6, c, ()), 0, ()), ()) (((m, ()), ()))) ((0 : Int), (0 : Int), ()) = some ((true, ()), ()) := by
    have := walls_run (c := c) (f := laws_FnGrids_l30 (((12, 6, c, ()), 0, ()), ()) (((12, 6, c, ()), 0, ()), ()) (((m, ()), ()))) (X := fun n => some ((iLe n (lenI m.2.1), ()), ())) (by omega) (fun n i hi hn => by
      have e1 : iLt (i : Int) (lenI c) = true := iLt_pos (by rw [lenI_eq]; omega)
      have e2 : inB (i : Int) c.length = true := inB_pos hi
      have e3 : iAdd .i64 (i : Int) 1 = ((i + 1 : Nat) : Int) := iAdd_one hi (by omega)
      have e4 : iAdd .i64 (n : Int) 1 = ((n + 1 : Nat) : Int) := (iAdd_eq (by omega) (by omega)).trans (by omega)
      simp only [laws_FnGrids_l30, e1, e2, e3, e4, Int.toNat_natCast, cond_true]
      cases iEq (c.getD i 0) 255 <;> rfl) (fun n => by
      have e1 : iLt (c.length : Int) (lenI c) = false := iLt_neg (by rw [lenI_eq]; omega)
      simp only [laws_FnGrids_l30, e1, cond_false, iEq_self, cond_true, spec_SameGrid_self, Option.bind_some])
    rw [this]
    have : iLe ((c.count 255 : Nat) : Int) (lenI m.2.1) = true := iLe_pos (by rw [lenI_eq]; omega)
    rw [this]
  have mid : run (laws_FnGrids_l21 ((h, 0, ()), ()) ((a, 0, ()), ()) y) ((0 : Int), ()) = some ((true, ()), ()) := by
    refine all_loop (n := h.2.2.1.length) (fun i hi => ?_) ?_
    · have e1 : iLt (i : Int) (lenI h.2.2.1) = true := iLt_pos (by rw [lenI_eq]; omega)
      have e2 : inB (i : Int) h.2.2.1.length = true := inB_pos hi
      have e2' : inB (i : Int) a.2.2.1.length = true := inB_pos (by omega)
      have e3 : iAdd .i64 (i : Int) 1 = ((i + 1 : Nat) : Int) := iAdd_one hi (by omega)
      obtain ⟨k1, k2⟩ := hcell i hi
      simp only [laws_FnGrids_l21, e1, e2, e2', e3, Int.toNat_natCast, cond_true]
      cases hw : iEq (h.2.2.1.getD i 0) 255 with
      | true =>
        have : iEq (a.2.2.1.getD i 0) 255 = true := iEq_pos (k1 (by simpa [iEq] using hw))
        rw [this]
        rfl
      | false =>
        cases ha : iEq (a.2.2.1.getD i 0) 255 with
        | true => rfl
        | false =>
          have hna : a.2.2.1.getD i 0 ≠ 255 := by simpa [iEq] using ha
          have : iEq (a.2.2.1.getD i 0) (h.2.2.1.getD i 0) = true := iEq_pos (k2 hna)
          simp only [Bool.not_false, cond_true, cond_false]
          rw [this]
          rfl
    · have e1 : iLt (h.2.2.1.length : Int) (lenI h.2.2.1) = false := iLt_neg (by rw [lenI_eq]; omega)
      simp only [laws_FnGrids_l21, e1, cond_false, hmp, hm1, hm2, Option.bind_some]
      rw [last]
      rfl
  have fin : run (laws_FnGrids_l6 ((p, ()), ()) y) ((0 : Int), (W, H, cs, ()), ()) = some ((true, ()), ()) := ten_run (W := W) (H := H) (cs := cs) (fun i l hl hi => by
    have e1 : iLt (i : Int) (lenI l) = true := iLt_pos (by rw [lenI_eq]; omega)
    have e2 : inB (i : Int) l.length = true := inB_pos hi
    have e3 : iAdd .i64 (i : Int) 1 = ((i + 1 : Nat) : Int) := iAdd_one hi (by omega)
    simp only [laws_FnGrids_l6, e1, e2, e3, Int.toNat_natCast, cond_true]
    cases hw : iEq (l.getD i 0) 255 with
    | true =>
      have e : l.set i (tenC (l.getD i 0)) = l := by
        have e4 : tenC (l.getD i 0) = l.getD i 0 := by
          have : l.getD i 0 = 255 := by simpa [iEq] using hw
          rw [this]; rfl
        rw [e4, getD_of hi]
        exact List.set_getElem_self hi
      rw [e]
      rfl
    | false =>
      have e4 : tenC (l.getD i 0) = iMul .u8 (iQuo .u8 (l.getD i 0) 30) 10 := by unfold tenC; rw [hw]; rfl
      rw [e4]
      rfl) (by
    have e1 : iLt (cs.length : Int) (lenI (cs.map tenC)) = false := iLt_neg (by rw [lenI_eq, List.length_map]; omega)
    simp only [laws_FnGrids_l6, e1, cond_false]
    refine congrArg (Option.map Sum.inr) ?_
    have heta : ((W, H, cs.map tenC, ()) : DGrid) = gT := hgTe.symm
    rw [heta, r1]
    simp only [Option.bind_some]
    rw [r2]
    simp only [Option.bind_some, iEq_self, Bool.not_true, cond_false]
    have k1 := spec_SameGrid_self gT
    have k2 := sgT
    have k3 := impl_ValidGrid_ok gT
    rw [hgT'] at k3
    obtain ⟨gw, gh, gc, ⟨⟩⟩ := gT
    simp only at k1 k2 k3 r3 ⊢
    rw [k1, k2, k3, r3]
    obtain ⟨hw', hh', hc', ⟨⟩⟩ := h
    obtain ⟨aw, ah, ac, ⟨⟩⟩ := a
    obtain ⟨bw, bh, bc, ⟨⟩⟩ := b
    have k4 := spec_SameGrid_self ((aw, ah, ac, ()) : DGrid)
    have k5 := spec_SameGrid_self ((bw, bh, bc, ()) : DGrid)
    simp only [Option.bind_some, Bool.not_true, cond_false, s1, s2, u2, t2, k4, k5, iEq_self]
    exact mid)
  exact ⟨(), fin⟩
end Go.Proofs.YtdmaamakckochaaGreatDoor
