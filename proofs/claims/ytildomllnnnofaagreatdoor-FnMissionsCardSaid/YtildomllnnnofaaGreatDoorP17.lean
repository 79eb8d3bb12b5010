/- Functions of the program and of the reference in plain terms. -/
import Derived.Test.YtildomllnnnofaaGreatDoorP16
namespace Go.Proofs.YtildomllnnnofaaGreatDoor
open Go Go.Tm
set_option linter.unusedVariables false
set_option linter.unusedSimpArgs false
set_option linter.unusedSectionVars false
/-! ## legs that are drawn: their texts, their lines -/
abbrev DComp := DMission × (Int × ((List (Int × (Int × Unit))) × (Int × Unit)))
abbrev DOut := (DMission × Int × Int × Unit) × Unit

def num9 : List (List UInt8 × Nat) := [([48], 0), ([49], 1065353216), ([45, 49], 3212836864), ([49, 47, 50], 1056964608), ([50], 1073741824), ([45, 51, 47, 52], 3208642560), ([48], 0), ([52], 1082130432), ([49, 47, 56], 1040187392)]
def nW (i : Nat) : List UInt8 := (num9.getD i ([], 0)).1
def nV (i : Nat) : Nat := (num9.getD i ([], 0)).2

theorem frac_0 : impl_ReadFraction [48] = some ((0, 0, ()), ()) := by kernel_rfl
theorem frac_1 : impl_ReadFraction [49] = some ((1065353216, 0, ()), ()) := by kernel_rfl
theorem frac_2 : impl_ReadFraction [45, 49] = some ((3212836864, 0, ()), ()) := by kernel_rfl
theorem frac_3 : impl_ReadFraction [49, 47, 50] = some ((1056964608, 0, ()), ()) := by kernel_rfl
theorem frac_4 : impl_ReadFraction [50] = some ((1073741824, 0, ()), ()) := by kernel_rfl
theorem frac_5 : impl_ReadFraction [45, 51, 47, 52] = some ((3208642560, 0, ()), ()) := by kernel_rfl
theorem frac_7 : impl_ReadFraction [52] = some ((1082130432, 0, ()), ()) := by kernel_rfl
theorem frac_8 : impl_ReadFraction [49, 47, 56] = some ((1040187392, 0, ()), ()) := by kernel_rfl
theorem frac9 (i : Fin 9) : impl_ReadFraction (nW i.val) = some ((nV i.val, 0, ()), ()) := by
  obtain ⟨i, h⟩ := i
  have : i = 0 ∨ i = 1 ∨ i = 2 ∨ i = 3 ∨ i = 4 ∨ i = 5 ∨ i = 6 ∨ i = 7 ∨ i = 8 := by omega
  rcases this with rfl | rfl | rfl | rfl | rfl | rfl | rfl | rfl | rfl
  · exact frac_0
  · exact frac_1
  · exact frac_2
  · exact frac_3
  · exact frac_4
  · exact frac_5
  · exact frac_0
  · exact frac_7
  · exact frac_8

def digW (t : Nat) : List UInt8 := [UInt8.ofNat (48 + t)]
theorem whole9 : ∀ t : Fin 9, impl_whole (digW t.val) = some (((t.val : Int), true, ()), ())
  | ⟨0, _⟩ => by kernel_rfl
  | ⟨1, _⟩ => by kernel_rfl
  | ⟨2, _⟩ => by kernel_rfl
  | ⟨3, _⟩ => by kernel_rfl
  | ⟨4, _⟩ => by kernel_rfl
  | ⟨5, _⟩ => by kernel_rfl
  | ⟨6, _⟩ => by kernel_rfl
  | ⟨7, _⟩ => by kernel_rfl
  | ⟨8, _⟩ => by kernel_rfl
theorem digits9 : ∀ t : Fin 9, Lib.decDigits t.val = digW t.val
  | ⟨0, _⟩ => by kernel_rfl
  | ⟨1, _⟩ => by kernel_rfl
  | ⟨2, _⟩ => by kernel_rfl
  | ⟨3, _⟩ => by kernel_rfl
  | ⟨4, _⟩ => by kernel_rfl
  | ⟨5, _⟩ => by kernel_rfl
  | ⟨6, _⟩ => by kernel_rfl
  | ⟨7, _⟩ => by kernel_rfl
  | ⟨8, _⟩ => by kernel_rfl
theorem nW_tab : ∀ i : Fin 9, (32 : UInt8) ∉ nW i.val ∧ (10 : UInt8) ∉ nW i.val ∧ (nW i.val).length ≤ 4 := by decide
theorem dig_tab : ∀ t : Fin 9, (32 : UInt8) ∉ digW t.val ∧ (10 : UInt8) ∉ digW t.val := by decide

/-! ### a leg, drawn -/
abbrev Leg5 := Nat × Nat × Nat × Nat × Bool
def goodI (x : Leg5) : Prop := x.1 < 9 ∧ x.2.1 < 9 ∧ x.2.2.1 < 9 ∧ 1 ≤ x.2.2.2.1 ∧ x.2.2.2.1 ≤ 8
def wMv : List UInt8 := [109, 111, 118, 101]
def moveL (x : Leg5) : List UInt8 := wMv ++ 32 :: (nW x.1 ++ 32 :: (nW x.2.1 ++ 32 :: (nW x.2.2.1 ++ 32 :: digW x.2.2.2.1)))
def rangeL : List UInt8 := [114, 97, 110, 103, 101, 32, 48]
def linesI (x : Leg5) : List (List UInt8) := moveL x :: bif x.2.2.2.2 then [rangeL] else []
def textI (l : List Leg5) : List UInt8 := linesT (l.flatMap linesI)
def vI (x : Leg5) : Vec 3 Nat := (nV x.1, nV x.2.1, nV x.2.2.1, ())
def legI (x : Leg5) : DLeg := ((x.2.2.2.1 : Int), vI x, 3, (bif x.2.2.2.2 then 0 else -1), ())

theorem moveL_split {x : Leg5} (h : goodI x) : splitC 32 (moveL x) = [wMv, nW x.1, nW x.2.1, nW x.2.2.1, digW x.2.2.2.1] := by
  obtain ⟨h1, h2, h3, h4, h5⟩ := h
  unfold moveL
  rw [splitC_cut _ (by decide), splitC_cut _ (nW_tab ⟨x.1, h1⟩).1, splitC_cut _ (nW_tab ⟨x.2.1, h2⟩).1, splitC_cut _ (nW_tab ⟨x.2.2.1, h3⟩).1, splitC_free (dig_tab ⟨x.2.2.2.1, by omega⟩).1]
theorem moveL_len {x : Leg5} (h : goodI x) : (moveL x).length ≤ 30 := by
  obtain ⟨h1, h2, h3, h4, h5⟩ := h
  have a := (nW_tab ⟨x.1, h1⟩).2.2
  have b := (nW_tab ⟨x.2.1, h2⟩).2.2
  have c := (nW_tab ⟨x.2.2.1, h3⟩).2.2
  simp only at a b c
  unfold moveL wMv digW
  simp
  omega
theorem moveL_free {x : Leg5} (h : goodI x) : (10 : UInt8) ∉ moveL x := by
  obtain ⟨h1, h2, h3, h4, h5⟩ := h
  have a := (nW_tab ⟨x.1, h1⟩).2.1
  have b := (nW_tab ⟨x.2.1, h2⟩).2.1
  have c := (nW_tab ⟨x.2.2.1, h3⟩).2.1
  have d := (dig_tab ⟨x.2.2.2.1, by omega⟩).2
  simp only at a b c d
  unfold moveL
  simp only [List.mem_append, List.mem_cons, not_or]
  exact ⟨by decide, by decide, a, by decide, b, by decide, c, by decide, d⟩
theorem linesI_free {x : Leg5} (h : goodI x) : ∀ f ∈ linesI x, (10 : UInt8) ∉ f ∧ f.length ≤ 30 := by
  intro f hf
  unfold linesI at hf
  rcases List.mem_cons.1 hf with rfl | hf
  · exact ⟨moveL_free h, moveL_len h⟩
  · cases hb : x.2.2.2.2 with
    | true => rw [hb] at hf; simp only [cond_true, List.mem_singleton] at hf; subst hf; exact ⟨by decide, by decide⟩
    | false => rw [hb] at hf; cases hf

/-! ### single lines -/
theorem move_comp (st : DComp) {x : Leg5} (h : goodI x) : impl_compiler_compile st (moveL x) = (impl_compiler_addLeg st (vI x) (x.2.2.2.1 : Int)).bind fun y => some ((y.1.1, ()), (y.2.1, ())) := by
  have hs := moveL_split h
  have hl := moveL_len h
  have hsp : strings_Split (moveL x) [32] = some (([wMv, nW x.1, nW x.2.1, nW x.2.2.1, digW x.2.2.2.1], ()), ()) := by
    rw [strings_Split_ok 32 (by omega), hs]
  have hne : sEq (moveL x) [101, 110, 100] = false := by
    unfold moveL wMv sEq; rfl
  obtain ⟨h1, h2, h3, h4, h5⟩ := h
  have f1 := frac9 ⟨x.1, h1⟩
  have f2 := frac9 ⟨x.2.1, h2⟩
  have f3 := frac9 ⟨x.2.2.1, h3⟩
  have f4 := whole9 ⟨x.2.2.2.1, by omega⟩
  simp only at f1 f2 f3 f4
  unfold impl_compiler_compile
  rw [hsp, hne]
  simp only [Option.bind_some, cond_false]
  unfold vI
  generalize nW x.1 = a at *
  generalize nW x.2.1 = b at *
  generalize nW x.2.2.1 = c at *
  generalize digW x.2.2.2.1 = d at *
  have c1 : iEq (lenI [wMv, a, b, c, d]) 2 = false := rfl
  have c2 : iLt (lenI [wMv, a, b, c, d]) 4 = false := rfl
  have b0 : inB 0 (List.length [wMv, a, b, c, d]) = true := rfl
  have b1 : inB 1 (List.length [wMv, a, b, c, d]) = true := rfl
  have b2 : inB 2 (List.length [wMv, a, b, c, d]) = true := rfl
  have b3 : inB 3 (List.length [wMv, a, b, c, d]) = true := rfl
  have b4 : inB 4 (List.length [wMv, a, b, c, d]) = true := rfl
  have g0 : List.getD [wMv, a, b, c, d] 0 [] = wMv := rfl
  have g1 : List.getD [wMv, a, b, c, d] 1 [] = a := rfl
  have g2 : List.getD [wMv, a, b, c, d] 2 [] = b := rfl
  have g3 : List.getD [wMv, a, b, c, d] 3 [] = c := rfl
  have g4 : List.getD [wMv, a, b, c, d] 4 [] = d := rfl
  have s1 : sEq wMv [115, 116, 97, 114, 116] = false := rfl
  have s2 : sEq wMv [98, 101, 97, 99, 111, 110] = false := rfl
  have s3 : sEq wMv [109, 111, 118, 101] = true := rfl
  have e5 : iEq (lenI [wMv, a, b, c, d]) 5 = true := rfl
  rw [c1, c2, b0, b1, b2, b3, b4, g0, g1, g2, g3, g4, s1, s2, s3, e5, f1, f2, f3, f4]
  rfl

theorem ticks_fold : ∀ (ls : List DLeg) (s : Int), 0 ≤ s → (∀ x ∈ ls, 0 ≤ x.1 ∧ x.1 ≤ 8) → s + 8 * ls.length ≤ 100000 → s ≤ ls.foldl (fun s x => iAdd .i64 s x.1) s ∧ ls.foldl (fun s x => iAdd .i64 s x.1) s ≤ s + 8 * ls.length
  | [], s, _, _, _ => ⟨Int.le_refl _, by simp⟩
  | x :: ls, s, h0, h, hl => by
    have hx := h x (by simp)
    have e : iAdd .i64 s x.1 = s + x.1 := iAdd_eq (by omega) (by simp at hl; omega)
    have := ticks_fold ls (s + x.1) (by omega) (fun y hy => h y (List.mem_cons_of_mem _ hy)) (by simp at hl; omega)
    rw [List.foldl_cons, e]
    simp only [List.length_cons]
    omega
theorem ticks_le {ls : List DLeg} (h : ∀ x ∈ ls, 0 ≤ x.1 ∧ x.1 ≤ 8) (hl : ls.length ≤ 40) : 0 ≤ ticksI ls ∧ ticksI ls ≤ 8 * ls.length := by
  have := ticks_fold ls 0 (Int.le_refl _) h (by omega)
  unfold ticksI
  omega

def bs1 : List (Vec 3 Nat) := [(1065353216, 1073741824, 1077936128, ())]
def miss (ls : List DLeg) : DMission := (8, (0, 0, 0, ()), bs1, ls, ())
def cst (ls : List DLeg) (O : List (Int × (Int × Unit))) (p : Nat) : DComp := (miss ls, 3, O, (p : Int), ())

theorem addLeg_ok {ls : List DLeg} (h : ∀ x ∈ ls, 0 ≤ x.1 ∧ x.1 ≤ 8) (hl : ls.length ≤ 40) (O : List (Int × (Int × Unit))) (p : Nat) (v : Vec 3 Nat) {t : Int} (h1 : 1 ≤ t) (h2 : t ≤ 8) :
    impl_compiler_addLeg (cst ls O p) v t = some ((0, ()), (cst (ls ++ [(t, v, 3, -1, ())]) O p, ())) := by
  have ht := impl_ticksOf_ok (miss ls) (by unfold miss; simp only; omega)
  obtain ⟨k0, k1⟩ := ticks_le h hl
  have ea : iAdd .i64 (ticksI ls) t = ticksI ls + t := iAdd_eq (by omega) (by omega)
  have er : room (ls.length + 1) 40 = true := room_pos (by omega)
  have e1 : (iLe 1 t && iLe t 400) = true := by rw [iLe_pos h1, iLe_pos (by omega)]; rfl
  have e2 : iEq (lenI ls) 64 = false := iEq_neg (by rw [lenI_eq]; omega)
  have e3 : iLt 400 (ticksI ls + t) = false := iLt_neg (by omega)
  unfold miss at ht
  simp only at ht
  unfold impl_compiler_addLeg cst miss
  simp only [within_eq, l00In_ok, Option.bind_some]
  rw [e1, e2, ht]
  simp only [Bool.not_true, cond_false, Option.bind_some]
  rw [ea, e3, er]
  rfl

theorem range_comp {ls : List DLeg} (hl : ls.length ≤ 40) (O : List (Int × (Int × Unit))) (p : Nat) (t : Int) (v : Vec 3 Nat) :
    impl_compiler_compile (cst (ls ++ [(t, v, 3, -1, ())]) O p) rangeL = some ((0, ()), (cst (ls ++ [(t, v, 3, 0, ())]) O p, ())) := by
  have hsp : strings_Split rangeL [32] = some (([[114, 97, 110, 103, 101], [48]], ()), ()) := by
    rw [strings_Split_ok 32 (by decide)]; rfl
  have hw : impl_whole [48] = some (((0 : Int), true, ()), ()) := whole9 ⟨0, by decide⟩
  have hne : sEq rangeL [101, 110, 100] = false := rfl
  have n1 : lenI (ls ++ [((t, v, 3, -1, ()) : DLeg)]) = ((ls.length + 1 : Nat) : Int) := by rw [lenI_eq]; simp
  have e1 : iEq ((ls.length + 1 : Nat) : Int) 0 = false := iEq_neg (by omega)
  have e2 : iSub .i64 ((ls.length + 1 : Nat) : Int) 1 = (ls.length : Int) := by rw [iSub_eq (by omega) (by omega)]; omega
  have e3 : inB (ls.length : Int) (List.length (ls ++ [((t, v, 3, -1, ()) : DLeg)])) = true := inB_pos (by simp)
  have e4 : List.getD (ls ++ [((t, v, 3, -1, ()) : DLeg)]) ls.length ((0, (0, 0, 0, ()), 0, 0, ()) : DLeg) = (t, v, 3, -1, ()) := by simp [List.getD_eq_getElem?_getD]
  have e5 : List.set (ls ++ [((t, v, 3, -1, ()) : DLeg)]) ls.length (t, v, 3, 0, ()) = ls ++ [(t, v, 3, 0, ())] := by simp
  have ha : impl_compiler_about (cst (ls ++ [(t, v, 3, -1, ())]) O p) [114, 97, 110, 103, 101] 0 = some ((0, ()), (cst (ls ++ [(t, v, 3, 0, ())]) O p, ())) := by
    unfold impl_compiler_about cst miss
    have s1 : sEq [114, 97, 110, 103, 101] [114, 97, 116, 101] = false := rfl
    have s2 : sEq [114, 97, 110, 103, 101] [102, 105, 120] = false := rfl
    have s3 : sEq [114, 97, 110, 103, 101] [104, 111, 108, 100] = false := rfl
    have s4 : sEq [114, 97, 110, 103, 101] [114, 97, 110, 103, 101] = true := rfl
    have s5 : iLe (lenI bs1) 0 = false := rfl
    have s6 : iLe 0 (-1) = false := rfl
    simp only
    rw [s1, s2, s3, s4, s5, n1, e1, e2, e3, Int.toNat_natCast, e4]
    simp only [cond_false, cond_true]
    rw [s6, e5]
    rfl
  unfold impl_compiler_compile
  rw [hsp, hne]
  simp only [Option.bind_some, cond_false]
  have c1 : iEq (lenI [([114, 97, 110, 103, 101] : List UInt8), [48]]) 2 = true := rfl
  have b0 : inB 0 (List.length [([114, 97, 110, 103, 101] : List UInt8), [48]]) = true := rfl
  have b1 : inB 1 (List.length [([114, 97, 110, 103, 101] : List UInt8), [48]]) = true := rfl
  have g0 : List.getD [([114, 97, 110, 103, 101] : List UInt8), [48]] 0 [] = [114, 97, 110, 103, 101] := rfl
  have g1 : List.getD [([114, 97, 110, 103, 101] : List UInt8), [48]] 1 [] = [48] := rfl
  rw [c1, b0, b1, g0, g1, hw]
  simp only [Option.bind_some, cond_false, cond_true, Bool.not_true]
  show (impl_compiler_about (cst (ls ++ [(t, v, 3, -1, ())]) O p) [114, 97, 110, 103, 101] 0).bind _ = _
  rw [ha]
  rfl

/-! ### the other lines -/
def wRep (n : Nat) : List UInt8 := [114, 101, 112, 101, 97, 116, 32, UInt8.ofNat (48 + n)]
def endL : List UInt8 := [101, 110, 100]
def beaconL : List UInt8 := [98, 101, 97, 99, 111, 110, 32, 49, 32, 50, 32, 51]
def fixL : List UInt8 := [102, 105, 120, 32, 51]
def whatL : List UInt8 := [119, 104, 97, 116, 32, 105, 115, 32, 116, 104, 105, 115]
theorem repeat_comp (m : DMission) (p : Int) : ∀ n : Fin 4, impl_compiler_compile ((m, 3, [], p, ()) : DComp) (wRep (n.val + 1)) = some ((0, ()), (((m, 3, [(p, (n.val : Int), ())], p, ()) : DComp), ()))
  | ⟨0, _⟩ => by kernel_rfl
  | ⟨1, _⟩ => by kernel_rfl
  | ⟨2, _⟩ => by kernel_rfl
  | ⟨3, _⟩ => by kernel_rfl
theorem end_last (m : DMission) (q p : Int) : impl_compiler_compile ((m, 3, [(q, 0, ())], p, ()) : DComp) endL = some ((0, ()), (((m, 3, [], p, ()) : DComp), ())) := by kernel_rfl
theorem end_more (m : DMission) (q p : Int) : ∀ n : Fin 3, impl_compiler_compile ((m, 3, [(q, ((n.val + 1 : Nat) : Int), ())], p, ()) : DComp) endL = some ((0, ()), (((m, 3, [(q, (n.val : Int), ())], q, ()) : DComp), ()))
  | ⟨0, _⟩ => by kernel_rfl
  | ⟨1, _⟩ => by kernel_rfl
  | ⟨2, _⟩ => by kernel_rfl
theorem what_comp (st : DComp) : impl_compiler_compile st whatL = some ((5, ()), (st, ())) := by kernel_rfl
def st0 : DComp := ((8, (0, 0, 0, ()), [], [], ()), 0, [], 0, ())
theorem beacon_comp : impl_compiler_compile (((8, (0, 0, 0, ()), [], [], ()), 0, [], 1, ()) : DComp) beaconL = some ((0, ()), (((8, (0, 0, 0, ()), bs1, [], ()), 0, [], 1, ()), ())) := by kernel_rfl
theorem fix_comp : impl_compiler_compile (((8, (0, 0, 0, ()), bs1, [], ()), 0, [], 2, ()) : DComp) fixL = some ((0, ()), (((8, (0, 0, 0, ()), bs1, [], ()), 3, [], 2, ()), ())) := by kernel_rfl
end Go.Proofs.YtildomllnnnofaaGreatDoor
