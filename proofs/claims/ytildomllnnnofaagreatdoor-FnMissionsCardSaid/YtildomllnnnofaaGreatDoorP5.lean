/- Functions of the program and of the reference in plain terms. -/
import Derived.Test.YtildomllnnnofaaGreatDoorP4
namespace Go.Proofs.YtildomllnnnofaaGreatDoor
open Go Go.Tm
set_option linter.unusedVariables false
set_option linter.unusedSimpArgs false
set_option linter.unusedSectionVars false
/-! ### a grid's text -/
def signI (c : Int) : Int := bif iEq c 0 then 46 else bif iEq c 255 then 35 else bif iEq (iRem .u8 c 10) 0 && iLe c 90 then iAdd .u8 48 (iQuo .u8 c 10) else 63

/-- the signs from the i-th cost on -/
def gridT (w : Nat) : Nat → List Int → List Int
  | _, [] => []
  | i, c :: r => signI c :: (if (i + 1) % w = 0 then 10 :: gridT w (i + 1) r else gridT w (i + 1) r)

/-- the text of a valid grid -/
def gridS (g : DGrid) : List UInt8 := ofBytes (gridT g.1.toNat 0 g.2.2.1)

theorem grid_bounds {g : DGrid} (h : gridB g = true) : 1 ≤ g.1 ∧ g.1 ≤ 24 ∧ 1 ≤ g.2.1 ∧ g.2.1 ≤ 24 ∧ (g.2.2.1.length : Int) = g.1 * g.2.1 := by
  simp only [gridB, Bool.and_eq_true, iLe_true, iEq_true] at h
  obtain ⟨⟨h1, h2⟩, ⟨h3, h4⟩, h5⟩ := h
  have hb : g.1 * g.2.1 ≤ 24 * 24 := Int.mul_le_mul h2 h4 (by omega) (by omega)
  have ha : 0 ≤ g.1 * g.2.1 := Int.mul_nonneg (by omega) (by omega)
  rw [lenI_eq, iMul_eq (by omega) (by omega)] at h5
  exact ⟨h1, h2, h3, h4, h5⟩

theorem gridT_length (w : Nat) (hw : 1 ≤ w) : ∀ (i : Nat) (r : List Int), (gridT w i r).length + i / w = r.length + (i + r.length) / w
  | i, [] => by simp [gridT]
  | i, c :: r => by
    have ih := gridT_length w hw (i + 1) r
    have hd : i + (c :: r).length = i + 1 + r.length := by simp; omega
    rw [hd]
    by_cases h : (i + 1) % w = 0
    · have : (i + 1) / w = i / w + 1 := by
        have h1 := Nat.div_add_mod (i + 1) w
        have h2 := Nat.div_add_mod i w
        have h3 := Nat.mod_lt i hw
        rw [h] at h1
        have : w * ((i + 1) / w) = w * (i / w) + i % w + 1 := by omega
        have h5 : w * (i / w) < w * ((i + 1) / w) := by omega
        have h6 : i / w < (i + 1) / w := Nat.lt_of_mul_lt_mul_left h5
        have h7 : w * ((i + 1) / w) ≤ w * (i / w + 1) := by rw [Nat.mul_add, Nat.mul_one]; omega
        have h8 : (i + 1) / w ≤ i / w + 1 := Nat.le_of_mul_le_mul_left h7 hw
        omega
      rw [gridT, if_pos h]
      simp only [List.length_cons]
      omega
    · have : (i + 1) / w = i / w := by
        have h1 := Nat.div_add_mod (i + 1) w
        have h2 := Nat.div_add_mod i w
        have h3 := Nat.mod_lt i hw
        have h3' := Nat.mod_lt (i + 1) hw
        have h5 : w * ((i + 1) / w) < w * (i / w + 1) := by rw [Nat.mul_add, Nat.mul_one]; omega
        have h6 : (i + 1) / w < i / w + 1 := Nat.lt_of_mul_lt_mul_left h5
        have h7 : i / w ≤ (i + 1) / w := Nat.div_le_div_right (Nat.le_succ i)
        omega
      rw [gridT, if_neg h]
      simp only [List.length_cons]
      omega

theorem gridT_mem {w : Nat} : ∀ {i : Nat} {r : List Int} {x : Int}, x ∈ gridT w i r → x = 10 ∨ ∃ c ∈ r, x = signI c
  | i, [], x, h => by simp [gridT] at h
  | i, c :: r, x, h => by
    rw [gridT] at h
    rcases List.mem_cons.1 h with rfl | h
    · exact .inr ⟨c, by simp, rfl⟩
    · have h' : x = 10 ∨ x ∈ gridT w (i + 1) r := by
        split at h
        · rcases List.mem_cons.1 h with rfl | h
          · exact .inl rfl
          · exact .inr h
        · exact .inr h
      rcases h' with h' | h'
      · exact .inl h'
      · rcases gridT_mem h' with h' | ⟨c', hc, e⟩
        · exact .inl h'
        · exact .inr ⟨c', List.mem_cons_of_mem _ hc, e⟩

theorem gridT_last {w : Nat} : ∀ {i : Nat} {r : List Int}, r ≠ [] → (i + r.length) % w = 0 → ∃ l, gridT w i r = l ++ [10]
  | i, [c], _, h => by
    have h : (i + 1) % w = 0 := h
    refine ⟨[signI c], ?_⟩
    rw [gridT, if_pos h]
    rfl
  | i, c :: d :: r, _, h => by
    obtain ⟨l, hl⟩ := gridT_last (w := w) (i := i + 1) (r := d :: r) (by simp) (by rw [← h]; simp; congr 1; omega)
    by_cases h1 : (i + 1) % w = 0
    · exact ⟨signI c :: 10 :: l, by rw [gridT, if_pos h1, hl]; rfl⟩
    · exact ⟨signI c :: l, by rw [gridT, if_neg h1, hl]; rfl⟩

/-! ### reading it -/
def legalB (b : UInt8) : Bool := iEq (byteI b) 46 || (iEq (byteI b) 35 || (iLe 49 (byteI b) && iLe (byteI b) 57))
def costB (b : UInt8) : Int := bif iEq (byteI b) 35 then 255 else bif iLe 49 (byteI b) && iLe (byteI b) 57 then iMul .u8 10 (iSub .u8 (byteI b) 48) else 0
def costsB (s : List UInt8) : List Int := (s.filter (fun b => !iEq (byteI b) 10)).map costB

theorem byteI_bounds (b : UInt8) : 0 ≤ byteI b ∧ byteI b ≤ 255 := by
  have := b.toNat_lt
  unfold byteI
  omega

theorem digit_cases {x : Int} (h : 49 ≤ x) (h1 : x ≤ 57) : x = 49 ∨ x = 50 ∨ x = 51 ∨ x = 52 ∨ x = 53 ∨ x = 54 ∨ x = 55 ∨ x = 56 ∨ x = 57 := by omega

theorem read_legal (b : UInt8) : legalB (toByte (signI (costB b))) = true := by
  unfold costB
  by_cases h : byteI b = 35
  · rw [iEq_pos h, cond_true]; decide
  · rw [iEq_neg h]
    simp only [cond_false]
    cases h1 : (iLe 49 (byteI b) && iLe (byteI b) 57) with
    | false => rw [cond_false]; decide
    | true =>
      simp only [Bool.and_eq_true, iLe_true] at h1
      simp only [cond_true]
      rcases digit_cases h1.1 h1.2 with e | e | e | e | e | e | e | e | e <;> rw [e] <;> decide

abbrev RdG := (DGrid × Int × Unit) × Unit
def badG : RdG := (((0, 0, [], ()), 5, ()), ())
/-- what reading ends with -/
def endG (s : List UInt8) (g : DGrid) : RdG := bif gridB g && sEq (gridS g) s then ((g, 0, ()), ()) else badG

theorem iMul_comm8 (a b : Int) : iMul .u8 a b = iMul .u8 b a := by unfold iMul; rw [Int.mul_comm]

theorem costB_dot {b : UInt8} (h : byteI b = 46) : costB b = 0 := by
  unfold costB; rw [h]; decide

theorem splitC_flatten (c : UInt8) : ∀ s : List UInt8, (splitC c s).flatten = s.filter (fun b => !decide (b = c))
  | [] => rfl
  | b :: s => by
    have ih := splitC_flatten c s
    unfold splitC
    by_cases h : b = c
    · rw [if_pos h, List.flatten_cons, ih, List.filter_cons_of_neg (by simp [h])]; rfl
    · rw [if_neg h, List.filter_cons_of_pos (by simp [h])]
      cases hs : splitC c s with
      | nil => exact absurd hs (splitC_ne c s)
      | cons l ls => rw [hs] at ih; rw [← ih]; rfl

theorem splitC_snoc (c : UInt8) : ∀ p : List UInt8, splitC c (p ++ [c]) = splitC c p ++ [[]]
  | [] => by simp [splitC]
  | b :: p => by
    have ih := splitC_snoc c p
    show splitC c (b :: (p ++ [c])) = _
    unfold splitC
    by_cases h : b = c
    · rw [if_pos h, if_pos h, ih]; rfl
    · rw [if_neg h, if_neg h, ih]
      cases hs : splitC c p with
      | nil => exact absurd hs (splitC_ne c p)
      | cons l ls => rfl

theorem byte10 (b : UInt8) : iEq (byteI b) 10 = decide (b = 10) := byteI_eq b 10

def okG (s : List UInt8) : Bool := iLt 0 (s.count 10 : Int) && sEq ((splitC 10 s).getD (s.count 10) []) []
def gOf (s : List UInt8) : DGrid := (lenI ((splitC 10 s).getD 0 []), (s.count 10 : Int), costsB s, ())

theorem join_nil (xs : List (List UInt8)) : Lib.join xs [] = xs.flatten := by
  cases xs with
  | nil => rfl
  | cons x r =>
    rw [Lib.join_cons, Lib.joinTail, List.flatten_cons]
    congr 2
    simp

theorem flatten_ok {s : List UInt8} (h : okG s = true) : ((splitC 10 s).take (s.count 10)).flatten = s.filter (fun b => !decide (b = 10)) := by
  simp only [okG, Bool.and_eq_true, iLt_true, sEq, beq_iff_eq] at h
  obtain ⟨h1, h2⟩ := h
  have hl := splitC_length 10 s
  rw [← splitC_flatten]
  have e : splitC 10 s = (splitC 10 s).take (s.count 10) ++ [(splitC 10 s).getD (s.count 10) []] := by
    rw [getD_of (by omega)]
    conv => lhs; rw [← List.take_append_drop (s.count 10) (splitC 10 s)]
    congr 1
    rw [List.drop_eq_getElem_cons (by omega), List.drop_eq_nil_of_le (by omega)]
  conv => rhs; rw [e, List.flatten_append, h2]
  simp

theorem readGrid_same {s : List UInt8} : (bif okG s then endG s (gOf s) else badG) = (bif iLt 600 (lenI s) then badG else bif s.all (fun b => iEq (byteI b) 10 || legalB b) then endG s (gOf s) else badG) := by
  cases h : (gridB (gOf s) && sEq (gridS (gOf s)) s) with
  | false =>
    have : endG s (gOf s) = badG := by unfold endG; rw [h]; rfl
    rw [this]
    cases okG s <;> cases iLt 600 (lenI s) <;> cases (s.all fun b => iEq (byteI b) 10 || legalB b) <;> rfl
  | true =>
    simp only [Bool.and_eq_true, sEq, beq_iff_eq] at h
    obtain ⟨hg, hs⟩ := h
    obtain ⟨h1, h2, h3, h4, h5⟩ := grid_bounds hg
    obtain ⟨w, hw⟩ : ∃ w : Nat, (gOf s).1 = (w : Int) := ⟨(gOf s).1.toNat, by omega⟩
    obtain ⟨H, hH⟩ : ∃ H : Nat, (gOf s).2.1 = (H : Int) := ⟨(gOf s).2.1.toNat, by omega⟩
    rw [hw] at h1 h2 h5
    rw [hH] at h3 h4 h5
    have hcs : (gOf s).2.2.1.length = w * H := by exact_mod_cast h5
    have hpos : 1 ≤ w * H := Nat.mul_le_mul (by omega : 1 ≤ w) (by omega : 1 ≤ H)
    have hne : (gOf s).2.2.1 ≠ [] := fun e => by rw [e] at hcs; simp at hcs; omega
    have hS : gridS (gOf s) = ofBytes (gridT w 0 (gOf s).2.2.1) := by unfold gridS; rw [hw]; rfl
    have hlen : s.length ≤ 600 := by
      have := gridT_length w (by omega) 0 (gOf s).2.2.1
      rw [Nat.zero_add, Nat.zero_div, Nat.add_zero, hcs, Nat.mul_div_cancel_left _ (by omega)] at this
      have hb : w * H ≤ 24 * 24 := Nat.mul_le_mul (by omega) (by omega)
      have : s.length = w * H + H := by rw [← hs, hS, ofBytes, List.length_map, this]
      omega
    have hall : (s.all fun b => iEq (byteI b) 10 || legalB b) = true := by
      rw [List.all_eq_true]
      intro b hb
      rw [← hs, hS, ofBytes, List.mem_map] at hb
      obtain ⟨x, hx, rfl⟩ := hb
      rcases gridT_mem hx with rfl | ⟨c, hc, rfl⟩
      · rfl
      · have hc : c ∈ costsB s := hc
        unfold costsB at hc
        obtain ⟨b', _, rfl⟩ := List.mem_map.1 hc
        rw [read_legal, Bool.or_true]
    have hok : okG s = true := by
      obtain ⟨l, hl⟩ := gridT_last (w := w) (i := 0) hne (by rw [Nat.zero_add, hcs, Nat.mul_mod_right])
      have e : s = ofBytes l ++ [10] := by rw [← hs, hS, hl]; simp [ofBytes]; rfl
      have hsp := splitC_snoc 10 (ofBytes l)
      have hle := splitC_length 10 (ofBytes l)
      unfold okG
      rw [e, hsp, List.count_append, List.count_singleton_self]
      have hgd : (splitC 10 (ofBytes l) ++ [[]]).getD (List.count 10 (ofBytes l) + 1) [] = ([] : List UInt8) := by
        rw [← hle]; simp [List.getD_eq_getElem?_getD]
      rw [hgd, iLt_pos (by omega)]; rfl
    rw [hok, hall, iLt_neg (by rw [lenI_eq]; omega)]
    rfl
end Go.Proofs.YtildomllnnnofaaGreatDoor
