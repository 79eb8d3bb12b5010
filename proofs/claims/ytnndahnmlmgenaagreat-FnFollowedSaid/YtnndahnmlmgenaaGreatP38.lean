/- Functions of the program and of the reference in plain terms. -/
import Derived.Test.YtnndahnmlmgenaaGreatP37
namespace Go.Proofs.YtnndahnmlmgenaaGreat
open Go Go.Tm
set_option linter.unusedVariables false
set_option linter.unusedSimpArgs false
set_option linter.unusedSectionVars false
/-! ### the way of a route -/
def ptN (a b : Nat) : Vec 2 Nat := pointF ((1065353216, 1073741824, ()) : Vec 2 Nat) 1056964608 (((a : Int), (b : Int), ()) : Vec 2 Int)
def pairN (a b c d : Nat) : Bool := (!(decide (a ≤ c + 1) && (decide (c ≤ a + 1) && (decide (b ≤ d + 1) && (decide (d ≤ b + 1) && !(a == c && b == d))))) || nearF (ptN a b) (ptN c d)) && !fLt .f32 (sqF (ptN a b) (ptN c d)) (sqF (ptN a b) (ptN a b))
def rowN (a : Nat) : Bool := (List.range 7).all fun b => ptB (ptN a b) && (List.range 7).all fun c => (List.range 7).all fun d => pairN a b c d
theorem row0 : rowN 0 = true := by decide +kernel
theorem row1 : rowN 1 = true := by decide +kernel
theorem row2 : rowN 2 = true := by decide +kernel
theorem row3 : rowN 3 = true := by decide +kernel
theorem row4 : rowN 4 = true := by decide +kernel
theorem row5 : rowN 5 = true := by decide +kernel
theorem row6 : rowN 6 = true := by decide +kernel
theorem row_ok {a : Nat} (h : a < 7) : rowN a = true := by
  have : a = 0 ∨ a = 1 ∨ a = 2 ∨ a = 3 ∨ a = 4 ∨ a = 5 ∨ a = 6 := by omega
  rcases this with rfl | rfl | rfl | rfl | rfl | rfl | rfl
  · exact row0
  · exact row1
  · exact row2
  · exact row3
  · exact row4
  · exact row5
  · exact row6
theorem pt_ok {a b : Nat} (ha : a < 7) (hb : b < 7) : ptB (ptN a b) = true := (Bool.and_eq_true_iff.1 (List.all_eq_true.1 (row_ok ha) b (List.mem_range.2 hb))).1
theorem pair_ok {a b c d : Nat} (ha : a < 7) (hb : b < 7) (hc : c < 7) (hd : d < 7) : pairN a b c d = true :=
  List.all_eq_true.1 (List.all_eq_true.1 (Bool.and_eq_true_iff.1 (List.all_eq_true.1 (row_ok ha) b (List.mem_range.2 hb))).2 c (List.mem_range.2 hc)) d (List.mem_range.2 hd)
def wayOf (r : List (Vec 2 Int)) : List (Vec 2 Nat) := r.map (pointF ((1065353216, 1073741824, ()) : Vec 2 Nat) 1056964608)
theorem good_route {g : DGrid} (hg : gridB g = true) (w1 : g.1 ≤ 7) (w2 : g.2.1 ≤ 7) {out : List Int} {a b : Vec 2 Int} {r : List (Vec 2 Int)} (h : Path g out a b r) (hn : r.length ≤ 576) : Good (wayOf r) := by
  have hlen : (wayOf r).length = r.length := List.length_map _
  have spot : ∀ i, (hi : i < r.length) → ∃ x y : Nat, x < 7 ∧ y < 7 ∧ r[i] = (((x : Int), (y : Int), ()) : Vec 2 Int) ∧ ptAt (wayOf r) i = ptN x y := fun i hi => by
    obtain ⟨f1, f2, -, -⟩ := h.fit r[i] (List.getElem_mem hi)
    obtain ⟨k1, k2, k3, k4⟩ := hasB_true f1 hg f2
    have hp : ptAt (wayOf r) i = pointF ((1065353216, 1073741824, ()) : Vec 2 Nat) 1056964608 r[i] := by
      have : i < (wayOf r).length := by rw [hlen]; exact hi
      rw [show ptAt (wayOf r) i = (wayOf r)[i] from getD_of this]
      exact List.getElem_map _
    generalize r[i] = s at *
    obtain ⟨x, y, ⟨⟩⟩ := s
    have k1 : 0 ≤ x := k1
    have k2 : x < g.1 := k2
    have k3 : 0 ≤ y := k3
    have k4 : y < g.2.1 := k4
    refine ⟨x.toNat, y.toNat, by omega, by omega, ?_, ?_⟩
    · rw [Int.toNat_of_nonneg k1, Int.toNat_of_nonneg k3]
    · rw [hp]
      unfold ptN
      rw [Int.toNat_of_nonneg k1, Int.toNat_of_nonneg k3]
  refine ⟨by rw [hlen]; exact h.pos, by rw [hlen]; exact hn, fun i hi => ?_, fun i hi => ?_, fun i hi => ?_⟩
  · obtain ⟨x, y, hx, hy, -, e⟩ := spot i (by rw [hlen] at hi; exact hi)
    rw [e]
    exact pt_ok hx hy
  · rw [hlen] at hi
    obtain ⟨x, y, hx, hy, e1, e⟩ := spot i (by omega)
    obtain ⟨x', y', hx', hy', e1', e'⟩ := spot (i + 1) hi
    have hs := (h.step i hi).1
    have hnear : nearB r[i] r[i + 1] = true := (Bool.and_eq_true_iff.1 hs).1
    rw [e1, e1'] at hnear
    rw [e, e']
    have hp := (Bool.and_eq_true_iff.1 (pair_ok hx hy hx' hy')).1
    have hc : (decide (x ≤ x' + 1) && (decide (x' ≤ x + 1) && (decide (y ≤ y' + 1) && (decide (y' ≤ y + 1) && !(x == x' && y == y'))))) = true := by
      simp only [nearB, dxI, dyI, Bool.and_eq_true, iLe_true, Bool.not_eq_true', Bool.and_eq_false_iff] at hnear
      obtain ⟨⟨n1, n2⟩, ⟨n3, n4⟩, n5⟩ := hnear
      rw [decide_eq_true (show x ≤ x' + 1 by omega), decide_eq_true (show x' ≤ x + 1 by omega), decide_eq_true (show y ≤ y' + 1 by omega), decide_eq_true (show y' ≤ y + 1 by omega)]
      simp only [Bool.true_and, Bool.not_eq_true', Bool.and_eq_false_iff, beq_eq_false_iff_ne]
      rcases n5 with n | n
      · exact .inl fun z => by subst z; rw [show (x : Int) - x = 0 by omega, iEq_self] at n; cases n
      · exact .inr fun z => by subst z; rw [show (y : Int) - y = 0 by omega, iEq_self] at n; cases n
    rw [hc] at hp
    simpa using hp
  · rw [hlen] at hi
    obtain ⟨x, y, hx, hy, e1, e⟩ := spot 0 (by omega)
    obtain ⟨x', y', hx', hy', e1', e'⟩ := spot i hi
    rw [e, e']
    have hp := (Bool.and_eq_true_iff.1 (pair_ok hx hy hx' hy')).2
    simpa using hp
end Go.Proofs.YtnndahnmlmgenaaGreat
