import Derived.Test.YtildomllnnnofaaGreatP28
/- Functions of the program and of the reference in plain terms. -/
namespace Go.Proofs.YtildomllnnnofaaGreat
open Go Go.Tm
set_option linter.unusedVariables false
set_option linter.unusedSimpArgs false
set_option linter.unusedSectionVars false
abbrev DComp := DMission × (Int × ((List (Int × (Int × Unit))) × (Int × Unit)))
abbrev DWork := DMission × (Int × (Int × ((List Int) × ((List Int) × Unit))))
def compS (m : DMission) (fix : Int) (O : List (Nat × Nat)) (p : Nat) : DComp := (m, fix, O.map (fun x : Nat × Nat => ((x.1 : Int), (x.2 : Int), ())), (p : Int), ())
def workS (m : DMission) (fix : Int) (O : List (Nat × Nat)) : DWork := (m, fix, ticksI m.2.2.2.1, O.map (fun x : Nat × Nat => (x.1 : Int)), O.map (fun x : Nat × Nat => (x.2 : Int)), ())
def wRate : List UInt8 := [114, 97, 116, 101]
def wFix : List UInt8 := [102, 105, 120]
def wHold : List UInt8 := [104, 111, 108, 100]
def wRange : List UInt8 := [114, 97, 110, 103, 101]
def wRepeat : List UInt8 := [114, 101, 112, 101, 97, 116]
def wStart : List UInt8 := [115, 116, 97, 114, 116]
def wBeacon : List UInt8 := [98, 101, 97, 99, 111, 110]
def wMove : List UInt8 := [109, 111, 118, 101]
def wEnd : List UInt8 := [101, 110, 100]
section
variable {w : DWork} {line : List UInt8} {p : Int} {l : List (List UInt8)} {w0 : List UInt8} {r : List (List UInt8)} (hsp : spec_l01Split line 32 = some ((l, ()), ())) (hl : l = w0 :: r)
include hsp hl
theorem quy (f1 : sEq w0 [114, 97, 116, 101] = false) (f2 : sEq w0 [102, 105, 120] = false) (f3 : sEq w0 [104, 111, 108, 100] = false) (f4 : sEq w0 [114, 97, 110, 103, 101] = false) (f5 : sEq w0 [114, 101, 112, 101, 97, 116] = false)
    (h : (sEq w0 [115, 116, 97, 114, 116] = true) ∨ (sEq w0 [115, 116, 97, 114, 116] = false ∧ sEq w0 [98, 101, 97, 99, 111, 110] = true) ∨ (sEq w0 [115, 116, 97, 114, 116] = false ∧ sEq w0 [98, 101, 97, 99, 111, 110] = false ∧ sEq w0 [109, 111, 118, 101] = true)) :
    spec_l08Work_line w line p = (spec_l08Work_three w l).bind fun y => some ((iAdd .i64 p 1, y.1.1, ()), (y.2.1, ())) := by
  have i0 : inB 0 l.length = true := qaf (i := 0) (by rw [hl]; simp)
  have g0 : l.getD 0 [] = w0 := by rw [hl]; rfl
  unfold spec_l08Work_line
  rw [hsp]
  simp only [Option.bind_some]
  rw [i0, g0, f1, f2, f3, f4, f5]
  rcases h with h | ⟨h, h'⟩ | ⟨h, h', h''⟩
  · rw [h]; rfl
  · rw [h, h']; rfl
  · rw [h, h', h'']; rfl
theorem qxf (h : sEq w0 [114, 97, 116, 101] = true ∨ (sEq w0 [114, 97, 116, 101] = false ∧ (sEq w0 [102, 105, 120] = true ∨ (sEq w0 [102, 105, 120] = false ∧ (sEq w0 [104, 111, 108, 100] = true ∨ (sEq w0 [104, 111, 108, 100] = false ∧ (sEq w0 [114, 97, 110, 103, 101] = true ∨ (sEq w0 [114, 97, 110, 103, 101] = false ∧ sEq w0 [114, 101, 112, 101, 97, 116] = true)))))))) :
    spec_l08Work_line w line p = bif !(iEq (lenI l) 2) then some ((p, 5, ()), (w, ())) else bif inB 1 l.length then (spec_l08Whole (l.getD 1 [])).bind fun y => bif !y.1.2.1 then some ((p, 5, ()), (w, ())) else (spec_l08Work_one w w0 y.1.1 p).bind fun z => some ((iAdd .i64 p 1, z.1.1, ()), (z.2.1, ())) else none := by
  have i0 : inB 0 l.length = true := qaf (i := 0) (by rw [hl]; simp)
  have g0 : l.getD 0 [] = w0 := by rw [hl]; rfl
  unfold spec_l08Work_line
  rw [hsp]
  simp only [Option.bind_some]
  rw [i0, g0]
  rcases h with h | ⟨h, h | ⟨h2, h | ⟨h3, h | ⟨h4, h⟩⟩⟩⟩
  · rw [h]; rfl
  · rename_i h1; rw [h1, h]; rfl
  · rename_i h1; rw [h1, h2, h]; rfl
  · rename_i h1; rw [h1, h2, h3, h]; rfl
  · rename_i h1; rw [h1, h2, h3, h4, h]; rfl
theorem qvk (f1 : sEq w0 [114, 97, 116, 101] = false) (f2 : sEq w0 [102, 105, 120] = false) (f3 : sEq w0 [104, 111, 108, 100] = false) (f4 : sEq w0 [114, 97, 110, 103, 101] = false) (f5 : sEq w0 [114, 101, 112, 101, 97, 116] = false)
    (f6 : sEq w0 [115, 116, 97, 114, 116] = false) (f7 : sEq w0 [98, 101, 97, 99, 111, 110] = false) (f8 : sEq w0 [109, 111, 118, 101] = false) (f9 : sEq w0 [101, 110, 100] = false) :
    spec_l08Work_line w line p = some ((p, 5, ()), (w, ())) := by
  have i0 : inB 0 l.length = true := qaf (i := 0) (by rw [hl]; simp)
  have g0 : l.getD 0 [] = w0 := by rw [hl]; rfl
  unfold spec_l08Work_line
  rw [hsp]
  simp only [Option.bind_some]
  rw [i0, g0, f1, f2, f3, f4, f5, f6, f7, f8, f9]
  rfl
def endOf (w : DWork) (p : Int) : Option ((Int × Int × Unit) × (DWork × Unit)) :=
  let x := iSub .i64 (lenI w.2.2.2.1) 1
  bif iLt x 0 then some ((p, 4, ()), (w, ())) else
  bif inB x w.2.2.2.2.1.length then
    bif iLt 0 (w.2.2.2.2.1.getD x.toNat (0 : Int)) then
      bif inB x w.2.2.2.2.1.length then
        bif inB x w.2.2.2.2.1.length then
          bif inB x w.2.2.2.1.length then
            some ((w.2.2.2.1.getD x.toNat (0 : Int), 0, ()), ((w.1, w.2.1, w.2.2.1, w.2.2.2.1, List.set w.2.2.2.2.1 x.toNat (iSub .i64 (w.2.2.2.2.1.getD x.toNat (0 : Int)) 1), w.2.2.2.2.2), ()))
          else none
        else none
      else none
    else
    bif inS 0 x w.2.2.2.1.length then
      bif inS 0 x w.2.2.2.2.1.length then
        some ((iAdd .i64 p 1, 0, ()), ((w.1, w.2.1, w.2.2.1, List.take x.toNat (List.drop 0 w.2.2.2.1), List.take x.toNat (List.drop 0 w.2.2.2.2.1), w.2.2.2.2.2), ()))
      else none
    else none
  else none
theorem qyw (f : w0 = [101, 110, 100]) :
    spec_l08Work_line w line p = bif !(iEq (lenI l) 1) then some ((p, 5, ()), (w, ())) else endOf w p := by
  have i0 : inB 0 l.length = true := qaf (i := 0) (by rw [hl]; simp)
  have g0 : l.getD 0 [] = w0 := by rw [hl]; rfl
  have f1 : sEq w0 [114, 97, 116, 101] = false := by rw [f]; rfl
  have f2 : sEq w0 [102, 105, 120] = false := by rw [f]; rfl
  have f3 : sEq w0 [104, 111, 108, 100] = false := by rw [f]; rfl
  have f4 : sEq w0 [114, 97, 110, 103, 101] = false := by rw [f]; rfl
  have f5 : sEq w0 [114, 101, 112, 101, 97, 116] = false := by rw [f]; rfl
  have f6 : sEq w0 [115, 116, 97, 114, 116] = false := by rw [f]; rfl
  have f7 : sEq w0 [98, 101, 97, 99, 111, 110] = false := by rw [f]; rfl
  have f8 : sEq w0 [109, 111, 118, 101] = false := by rw [f]; rfl
  have f9 : sEq w0 [101, 110, 100] = true := by rw [f]; rfl
  unfold spec_l08Work_line
  rw [hsp]
  simp only [Option.bind_some]
  rw [i0, g0, f1, f2, f3, f4, f5, f6, f7, f8, f9]
  rfl
end
def LegG (n : Nat) (x : DLeg) : Prop := (1 ≤ x.1 ∧ x.1 ≤ 400) ∧ pv 20 x.2.1 ∧ (0 ≤ x.2.2.1 ∧ x.2.2.1 ≤ 400) ∧ (-1 ≤ x.2.2.2.1 ∧ x.2.2.2.1 < n)
structure More (m : DMission) (fix : Int) : Prop where
  rate : 1 ≤ m.1 ∧ m.1 ≤ 64
  fixed : 0 ≤ fix ∧ fix ≤ 400
  start : pv 20 m.2.1
  marks : ∀ v ∈ m.2.2.1, pv 20 v
  legsG : ∀ x ∈ m.2.2.2.1, LegG m.2.2.1.length x
theorem qtv : pv 20 ((0, 0, 0, ()) : Vec 3 Nat) := ⟨qgx 20, qgx 20, qgx 20⟩
structure Good (m : DMission) (fix : Int) : Prop where
  legs : m.2.2.2.1.length ≤ 64
  beacons : m.2.2.1.length ≤ 6
  lo : 0 ≤ ticksI m.2.2.2.1
  hi : ticksI m.2.2.2.1 ≤ 400
  more : More m fix
theorem qh2 (l : List DLeg) (x : DLeg) : ticksI (l ++ [x]) = iAdd .i64 (ticksI l) x.1 := by
  unfold ticksI; rw [List.foldl_append]; rfl
theorem qr9 {m : DMission} {fix : Int} (hg : Good m fix) (O : List (Nat × Nat)) (q : Nat) (v : Vec 3 Nat) (hv : pv 20 v) {n : Int} (h0 : 0 ≤ n) (h1 : n ≤ 999999) :
    ∃ code m', impl_compiler_addLeg (compS m fix O q) v n = some ((code, ()), (compS m' fix O q, ())) ∧ spec_l08Work_leg (workS m fix O) v n = some ((code, ()), (workS m' fix O, ())) ∧ (code = 0 → Good m' fix) := by
  obtain ⟨g1, g2, g3, g4, g5⟩ := hg
  have ht := qew m (by omega)
  obtain ⟨rt, st, bs, ls, ⟨⟩⟩ := m
  simp only at g1 g2 g3 g4 ht
  have ea : iAdd .i64 (ticksI ls) n = ticksI ls + n := qa8 (by omega) (by omega)
  have er : room (ls.length + 1) 40 = true := qbk (by omega)
  simp only [impl_compiler_addLeg, spec_l08Work_leg, compS, workS, qbt, qbl, ht, ea, er, Option.bind_some]
  cases hw : (iLe 1 n && iLe n 400) with
  | false => exact ⟨2, (rt, st, bs, ls, ()), rfl, rfl, fun h => by cases h⟩
  | true =>
    cases h64 : iEq (lenI ls) 64 with
    | true => exact ⟨3, (rt, st, bs, ls, ()), rfl, rfl, fun h => by cases h⟩
    | false =>
      cases h4 : iLt 400 (ticksI ls + n) with
      | true => exact ⟨3, (rt, st, bs, ls, ()), rfl, rfl, fun h => by cases h⟩
      | false =>
        refine ⟨0, (rt, st, bs, ls ++ [(n, v, fix, -1, ())], ()), rfl, ?_, fun _ => ⟨?_, g2, ?_, ?_, g5.rate, g5.fixed, g5.start, g5.marks, fun y hy => ?_⟩⟩
        · simp only [Bool.not_true, cond_false, cond_true, qh2, ea]
        · have : (ls.length : Int) ≠ 64 := by simpa [iEq, lenI] using h64
          simp
          omega
        · simp only [Bool.and_eq_true, qbo] at hw
          show 0 ≤ ticksI (ls ++ [(n, v, fix, -1, ())])
          rw [qh2, ea]; omega
        · have : ¬ 400 < ticksI ls + n := by simpa [iLt] using h4
          show ticksI (ls ++ [(n, v, fix, -1, ())]) ≤ 400
          rw [qh2, ea]; omega
        · simp only [Bool.and_eq_true, qbo] at hw
          rcases List.mem_append.1 hy with hy | hy
          · exact g5.legsG y hy
          · rw [List.mem_singleton.1 hy]
            exact ⟨hw, hv, g5.fixed, by show (-1 : Int) ≤ -1; omega, by show (-1 : Int) < (bs.length : Int); omega⟩
theorem qu0 (l : List DLeg) (i : Nat) (x : DLeg) (h : ∀ (hi : i < l.length), x.1 = l[i].1) : ticksI (l.set i x) = ticksI l := by
  have key : ∀ (l : List DLeg) (i : Nat) (s : Int), (∀ (hi : i < l.length), x.1 = l[i].1) → (l.set i x).foldl (fun s x => iAdd .i64 s x.1) s = l.foldl (fun s x => iAdd .i64 s x.1) s := by
    intro l
    induction l with
    | nil => intro i s _; rfl
    | cons a l ih =>
      intro i s h
      cases i with
      | zero =>
        have : x.1 = a.1 := h (by simp)
        show l.foldl _ (iAdd .i64 s x.1) = l.foldl _ (iAdd .i64 s a.1)
        rw [this]
      | succ i => exact ih i _ (fun hi => h (by simp; omega))
  exact key l i 0 h
theorem qnh {α β : Type} (f : α → β) (l : List α) : lenI (l.map f) = lenI l := by unfold lenI; rw [List.length_map]
theorem qxw {m : DMission} {fix : Int} (hg : Good m fix) (O : List (Nat × Nat)) (hO : O.length ≤ 3) {p : Nat} (hp : p ≤ 200) {n : Int} (h0 : 0 ≤ n) (h1 : n ≤ 999999) {w0 : List UInt8}
    (hw : w0 = wRate ∨ w0 = wFix ∨ w0 = wHold ∨ w0 = wRange ∨ w0 = wRepeat) :
    ∃ code m' fix' O', impl_compiler_about (compS m fix O (p + 1)) w0 n = some ((code, ()), (compS m' fix' O' (p + 1), ())) ∧ spec_l08Work_one (workS m fix O) w0 n (p : Int) = some ((code, ()), (workS m' fix' O', ())) ∧
      (code = 0 → Good m' fix' ∧ (O' = O ∨ (O.length < 3 ∧ ∃ k, k ≤ 15 ∧ O' = O ++ [(p + 1, k)]))) := by
  obtain ⟨cl, ml, l1, l2, l3⟩ := qr9 hg O (p + 1) ((0, 0, 0, ()) : Vec 3 Nat) qtv h0 h1
  obtain ⟨g1, g2, g3, g4, g5⟩ := id hg
  obtain ⟨rt, st, bs, ls, ⟨⟩⟩ := m
  simp only at g1 g2 g3 g4
  rcases hw with rfl | rfl | rfl | rfl | rfl
  · have a1 : sEq wRate [114, 97, 116, 101] = true := rfl
    simp only [impl_compiler_about, spec_l08Work_one, a1, cond_true, qbt, qbl, Option.bind_some, compS, workS]
    cases hw : (iLe 1 n && iLe n 64) with
    | false => exact ⟨2, (rt, st, bs, ls, ()), fix, O, rfl, rfl, fun h => by cases h⟩
    | true =>
      cases hz : iLt 0 (lenI ls) with
      | true => exact ⟨4, (rt, st, bs, ls, ()), fix, O, rfl, rfl, fun h => by cases h⟩
      | false =>
        simp only [Bool.and_eq_true, qbo] at hw
        exact ⟨0, (n, st, bs, ls, ()), fix, O, rfl, rfl, fun _ => ⟨⟨g1, g2, g3, g4, hw, g5.fixed, g5.start, g5.marks, g5.legsG⟩, .inl rfl⟩⟩
  · have a1 : sEq wFix [114, 97, 116, 101] = false := rfl
    have a2 : sEq wFix [102, 105, 120] = true := rfl
    simp only [impl_compiler_about, spec_l08Work_one, a1, a2, cond_true, cond_false, compS, workS]
    cases hw : iLt 400 n with
    | true => exact ⟨2, (rt, st, bs, ls, ()), fix, O, rfl, rfl, fun h => by cases h⟩
    | false =>
      have hw' : ¬ 400 < n := by simpa [iLt] using hw
      exact ⟨0, (rt, st, bs, ls, ()), n, O, rfl, rfl, fun _ => ⟨⟨g1, g2, g3, g4, g5.rate, ⟨h0, by omega⟩, g5.start, g5.marks, g5.legsG⟩, .inl rfl⟩⟩
  · have a1 : sEq wHold [114, 97, 116, 101] = false := rfl
    have a2 : sEq wHold [102, 105, 120] = false := rfl
    have a3 : sEq wHold [104, 111, 108, 100] = true := rfl
    refine ⟨cl, ml, fix, O, ?_, ?_, fun h => ⟨l3 h, .inl rfl⟩⟩
    · simp only [impl_compiler_about, a1, a2, a3, cond_true, cond_false]
      show (impl_compiler_addLeg (compS (rt, st, bs, ls, ()) fix O (p + 1)) _ n).bind _ = _
      rw [l1]; rfl
    · simp only [spec_l08Work_one, a1, a2, a3, cond_true, cond_false]
      show (spec_l08Work_leg (workS (rt, st, bs, ls, ()) fix O) _ n).bind _ = _
      rw [l2]; rfl
  · have a1 : sEq wRange [114, 97, 116, 101] = false := rfl
    have a2 : sEq wRange [102, 105, 120] = false := rfl
    have a3 : sEq wRange [104, 111, 108, 100] = false := rfl
    have a4 : sEq wRange [114, 97, 110, 103, 101] = true := rfl
    have hsub : iSub .i64 (lenI ls) 1 = (ls.length : Int) - 1 := by
      rw [qaa]; exact qbv (by omega) (by omega)
    simp only [impl_compiler_about, spec_l08Work_one, spec_l08Work_seen, a1, a2, a3, a4, hsub, cond_true, cond_false, compS, workS]
    cases hb : iLe (lenI bs) n with
    | true => exact ⟨2, (rt, st, bs, ls, ()), fix, O, rfl, rfl, fun h => by cases h⟩
    | false =>
      rcases Nat.eq_zero_or_pos ls.length with hz | hz
      · have e1 : iEq (lenI ls) 0 = true := qlm (by rw [qaa]; omega)
        have e2 : iLt ((ls.length : Int) - 1) 0 = true := qah (by omega)
        simp only [e1, e2, cond_true, cond_false]
        exact ⟨4, (rt, st, bs, ls, ()), fix, O, rfl, rfl, fun h => by cases h⟩
      · have e1 : iEq (lenI ls) 0 = false := qbm (by rw [qaa]; omega)
        have e2 : iLt ((ls.length : Int) - 1) 0 = false := qag (by omega)
        obtain ⟨i, hi⟩ : ∃ i : Nat, ls.length = i + 1 := ⟨ls.length - 1, by omega⟩
        have e3 : (ls.length : Int) - 1 = (i : Int) := by omega
        have e4 : inB (i : Int) ls.length = true := qaf (by omega)
        simp only [e1, e2, e3, e4, Int.toNat_natCast, cond_true, cond_false]
        have hgd : ls.getD i ((0, (0, 0, 0, ()), 0, 0, ()) : DLeg) = ls[i] := qau (by omega)
        cases hk : iLe 0 (ls.getD i ((0, (0, 0, 0, ()), 0, 0, ()) : DLeg)).2.2.2.1 with
        | true => exact ⟨4, (rt, st, bs, ls, ()), fix, O, rfl, rfl, fun h => by cases h⟩
        | false =>
          have hts := qu0 ls i ((ls.getD i ((0, (0, 0, 0, ()), 0, 0, ()) : DLeg)).1, (ls.getD i ((0, (0, 0, 0, ()), 0, 0, ()) : DLeg)).2.1, (ls.getD i ((0, (0, 0, 0, ()), 0, 0, ()) : DLeg)).2.2.1, n, (ls.getD i ((0, (0, 0, 0, ()), 0, 0, ()) : DLeg)).2.2.2.2) (fun hi => by rw [hgd])
          refine ⟨0, (rt, st, bs, ls.set i ((ls.getD i ((0, (0, 0, 0, ()), 0, 0, ()) : DLeg)).1, (ls.getD i ((0, (0, 0, 0, ()), 0, 0, ()) : DLeg)).2.1, (ls.getD i ((0, (0, 0, 0, ()), 0, 0, ()) : DLeg)).2.2.1, n, (ls.getD i ((0, (0, 0, 0, ()), 0, 0, ()) : DLeg)).2.2.2.2), ()), fix, O, rfl, ?_, fun _ => ⟨⟨?_, g2, ?_, ?_, g5.rate, g5.fixed, g5.start, g5.marks, fun y hy => ?_⟩, .inl rfl⟩⟩
          · rw [hts]; rfl
          · show (ls.set i _).length ≤ 64
            rw [List.length_set]; exact g1
          · show 0 ≤ ticksI (ls.set i _)
            rw [hts]; exact g3
          · show ticksI (ls.set i _) ≤ 400
            rw [hts]; exact g4
          · have hbn : ¬ (bs.length : Int) ≤ n := fun q => by rw [qaa, qaq q] at hb; cases hb
            rcases List.mem_or_eq_of_mem_set hy with hy | hy
            · exact g5.legsG y hy
            · rw [hy, hgd]
              obtain ⟨k1, k2, k3, -⟩ := g5.legsG _ (List.getElem_mem (by omega : i < ls.length))
              exact ⟨k1, k2, k3, by show (-1 : Int) ≤ n; omega, by show n < (bs.length : Int); omega⟩
  · have a1 : sEq wRepeat [114, 97, 116, 101] = false := rfl
    have a2 : sEq wRepeat [102, 105, 120] = false := rfl
    have a3 : sEq wRepeat [104, 111, 108, 100] = false := rfl
    have a4 : sEq wRepeat [114, 97, 110, 103, 101] = false := rfl
    have a5 : sEq wRepeat [114, 101, 112, 101, 97, 116] = true := rfl
    have r1 : room (O.length + 1) 16 = true := qbk (by omega)
    have r2 : room (O.length + 1) 8 = true := qbk (by omega)
    have ep : iAdd .i64 (p : Int) 1 = ((p + 1 : Nat) : Int) := (qa8 (by omega) (by omega)).trans (by omega)
    simp only [impl_compiler_about, spec_l08Work_one, a1, a2, a3, a4, a5, qbt, qbl, Option.bind_some, cond_true, cond_false, compS, workS, qnh, List.length_map, r1, r2, ep]
    cases hw : (iLe 1 n && iLe n 16) with
    | false => exact ⟨2, (rt, st, bs, ls, ()), fix, O, rfl, rfl, fun h => by cases h⟩
    | true =>
      simp only [Bool.and_eq_true, qbo] at hw
      cases h3 : iEq (lenI O) 3 with
      | true => exact ⟨3, (rt, st, bs, ls, ()), fix, O, rfl, rfl, fun h => by cases h⟩
      | false =>
        have hne : (O.length : Int) ≠ 3 := by simpa [iEq, lenI] using h3
        have en : iSub .i64 n 1 = (((n - 1).toNat : Nat) : Int) := (qbv (by omega) (by omega)).trans (by omega)
        refine ⟨0, (rt, st, bs, ls, ()), fix, O ++ [(p + 1, (n - 1).toNat)], ?_, ?_, fun _ => ⟨⟨g1, g2, g3, g4, g5⟩, .inr ⟨by omega, (n - 1).toNat, by omega, rfl⟩⟩⟩
        · simp only [Bool.not_true, cond_false, cond_true, en, List.map_append, List.map_cons, List.map_nil]
        · simp only [Bool.not_true, cond_false, cond_true, en, List.map_append, List.map_cons, List.map_nil]
def sizD : Nat → Nat
  | 0 => 201
  | d + 1 => 201 * (16 * sizD d)
def muD : Nat → List (Nat × Nat) → Nat → Nat
  | 0, _, p => 200 - p
  | d + 1, [], p => (200 - p) * (16 * sizD d)
  | d + 1, x :: O, p => (200 - x.1) * (16 * sizD d) + (x.2 * sizD d + muD d O p)
theorem qfl : ∀ d, 1 ≤ sizD d
  | 0 => by decide
  | d + 1 => by have := qfl d; show 1 ≤ 201 * (16 * sizD d); omega
theorem qri : ∀ (d : Nat) (O : List (Nat × Nat)) (p : Nat), O.length ≤ d → (∀ x ∈ O, x.2 ≤ 15) → muD d O p < sizD d
  | 0, _, p, _, _ => by show 200 - p < 201; omega
  | d + 1, [], p, _, _ => by
    have h0 := qfl d
    have h1 : (200 - p) * (16 * sizD d) ≤ 200 * (16 * sizD d) := Nat.mul_le_mul_right _ (by omega)
    show (200 - p) * (16 * sizD d) < 201 * (16 * sizD d)
    omega
  | d + 1, x :: O, p, hl, hk => by
    have h0 := qfl d
    have h1 : (200 - x.1) * (16 * sizD d) ≤ 200 * (16 * sizD d) := Nat.mul_le_mul_right _ (by omega)
    have h2 : x.2 * sizD d ≤ 15 * sizD d := Nat.mul_le_mul_right _ (hk x (by simp))
    have h3 := qri d O p (by simp at hl; omega) (fun y hy => hk y (by simp [hy]))
    show (200 - x.1) * (16 * sizD d) + (x.2 * sizD d + muD d O p) < 201 * (16 * sizD d)
    omega
theorem qm6 {a b X : Nat} (h : a < b) : a * X + X ≤ b * X := by
  have := Nat.mul_le_mul_right X (show a + 1 ≤ b from h)
  rw [Nat.add_mul, Nat.one_mul] at this
  exact this
theorem qrn : ∀ (d : Nat) (O : List (Nat × Nat)) (p : Nat), O.length ≤ d → p < 200 → muD d O (p + 1) < muD d O p
  | 0, _, p, _, hp => by show 200 - (p + 1) < 200 - p; omega
  | d + 1, [], p, _, hp => by
    have h0 := qfl d
    have h1 := qm6 (X := 16 * sizD d) (show 200 - (p + 1) < 200 - p by omega)
    show (200 - (p + 1)) * (16 * sizD d) < (200 - p) * (16 * sizD d)
    omega
  | d + 1, x :: O, p, hl, hp => by
    have h3 := qrn d O p (by simp at hl; omega) hp
    show (200 - x.1) * (16 * sizD d) + (x.2 * sizD d + muD d O (p + 1)) < (200 - x.1) * (16 * sizD d) + (x.2 * sizD d + muD d O p)
    omega
theorem qrv (k : Nat) (hk : k ≤ 15) : ∀ (d : Nat) (O : List (Nat × Nat)) (p : Nat), O.length < d → p < 200 → muD d (O ++ [(p + 1, k)]) (p + 1) < muD d O p
  | 0, _, p, h, hp => by omega
  | d + 1, [], p, _, hp => by
    have h0 := qfl d
    have h1 := qm6 (X := 16 * sizD d) (show 200 - (p + 1) < 200 - p by omega)
    have h2 : k * sizD d ≤ 15 * sizD d := Nat.mul_le_mul_right _ hk
    have h3 := qri d [] (p + 1) (by simp) (by simp)
    show (200 - (p + 1)) * (16 * sizD d) + (k * sizD d + muD d [] (p + 1)) < (200 - p) * (16 * sizD d)
    omega
  | d + 1, x :: O, p, hl, hp => by
    have h3 := qrv k hk d O p (by simp at hl; omega) hp
    show (200 - x.1) * (16 * sizD d) + (x.2 * sizD d + muD d (O ++ [(p + 1, k)]) (p + 1)) < (200 - x.1) * (16 * sizD d) + (x.2 * sizD d + muD d O p)
    omega
theorem qqp (l k p : Nat) : ∀ (d : Nat) (O : List (Nat × Nat)), O.length < d → muD d (O ++ [(l, k)]) l < muD d (O ++ [(l, k + 1)]) p
  | 0, _, h => by omega
  | d + 1, [], _ => by
    have h3 := qri d [] l (by simp) (by simp)
    have h4 : (k + 1) * sizD d = k * sizD d + sizD d := by rw [Nat.add_mul, Nat.one_mul]
    show (200 - l) * (16 * sizD d) + (k * sizD d + muD d [] l) < (200 - l) * (16 * sizD d) + ((k + 1) * sizD d + muD d [] p)
    omega
  | d + 1, x :: O, hl => by
    have h3 := qqp l k p d O (by simp at hl; omega)
    show (200 - x.1) * (16 * sizD d) + (x.2 * sizD d + muD d (O ++ [(l, k)]) l) < (200 - x.1) * (16 * sizD d) + (x.2 * sizD d + muD d (O ++ [(l, k + 1)]) p)
    omega
theorem qtp (l p : Nat) (hlp : l ≤ p) (hp : p < 200) : ∀ (d : Nat) (O : List (Nat × Nat)), O.length < d → muD d O (p + 1) < muD d (O ++ [(l, 0)]) p
  | 0, _, h => by omega
  | d + 1, [], _ => by
    have h0 := qfl d
    have h1 := qm6 (X := 16 * sizD d) (show 200 - (p + 1) < 200 - l by omega)
    show (200 - (p + 1)) * (16 * sizD d) < (200 - l) * (16 * sizD d) + (0 * sizD d + muD d [] p)
    omega
  | d + 1, x :: O, hl => by
    have h3 := qtp l p hlp hp d O (by simp at hl; omega)
    show (200 - x.1) * (16 * sizD d) + (x.2 * sizD d + muD d O (p + 1)) < (200 - x.1) * (16 * sizD d) + (x.2 * sizD d + muD d (O ++ [(l, 0)]) p)
    omega
structure OInv (O : List (Nat × Nat)) (p : Nat) : Prop where
  len : O.length ≤ 3
  low : ∀ x ∈ O, x.1 ≤ p
  few : ∀ x ∈ O, x.2 ≤ 15
  up : O.Pairwise (fun a b => a.1 ≤ b.1)
  pos : p ≤ 200
def Stepped (m : DMission) (fix : Int) (O : List (Nat × Nat)) (p : Nat) (I : Option ((Int × Unit) × (DComp × Unit))) (S : Option ((Int × Int × Unit) × (DWork × Unit))) : Prop :=
  (∃ code st q w, code ≠ 0 ∧ I = some ((code, ()), (st, ())) ∧ S = some ((q, code, ()), (w, ()))) ∨
  (∃ m' fix' O' p', I = some ((0, ()), (compS m' fix' O' p', ())) ∧ S = some (((p' : Int), 0, ()), (workS m' fix' O', ())) ∧ Good m' fix' ∧ OInv O' p' ∧ muD 3 O' p' < muD 3 O p)
theorem qx3 {m : DMission} {fix : Int} (hg : Good m fix) {O : List (Nat × Nat)} {p : Nat} (hO : OInv O p) (hp : p < 200) :
    Stepped m fix O p (impl_compiler_end (compS m fix O (p + 1))) (endOf (workS m fix O) (p : Int)) := by
  obtain ⟨o1, o2, o3, o4, o5⟩ := hO
  rcases List.eq_nil_or_concat O with rfl | ⟨O', x, rfl⟩
  · left
    have e : iLt (iSub .i64 (lenI ([] : List (Int × Int × Unit))) 1) 0 = true := rfl
    have e' : iLt (iSub .i64 (lenI ([] : List Int)) 1) 0 = true := rfl
    refine ⟨4, compS m fix [] (p + 1), (p : Int), workS m fix [], by decide, ?_, ?_⟩
    · unfold impl_compiler_end compS
      simp only [List.map_nil, e, cond_true]
    · unfold endOf workS
      simp only [List.map_nil, e', cond_true]
  · right
    obtain ⟨l, k⟩ := x
    simp only [List.concat_eq_append] at *
    simp only [List.length_append, List.length_cons, List.length_nil] at o1
    have hl : l ≤ p := o2 (l, k) (by simp)
    have hk : k ≤ 15 := o3 (l, k) (by simp)
    rw [List.pairwise_append] at o4
    obtain ⟨o4, -, o6⟩ := o4
    have n1 : ((O' ++ [(l, k)]).map (fun x : Nat × Nat => ((x.1 : Int), (x.2 : Int), ()))).length = O'.length + 1 := by simp
    have n2 : ((O' ++ [(l, k)]).map (fun x : Nat × Nat => (x.1 : Int))).length = O'.length + 1 := by simp
    have n3 : ((O' ++ [(l, k)]).map (fun x : Nat × Nat => (x.2 : Int))).length = O'.length + 1 := by simp
    have e : iSub .i64 ((O'.length + 1 : Nat) : Int) 1 = (O'.length : Int) := (qbv (by omega) (by omega)).trans (by omega)
    have e1 : iLt (O'.length : Int) 0 = false := qag (by omega)
    have e2 : inB (O'.length : Int) (O'.length + 1) = true := qaf (by omega)
    have g1 : ((O' ++ [(l, k)]).map (fun x : Nat × Nat => ((x.1 : Int), (x.2 : Int), ()))).getD O'.length ((0, 0, ()) : Int × Int × Unit) = ((l : Int), (k : Int), ()) := by
      simp [List.getD_eq_getElem?_getD]
    have g2 : ((O' ++ [(l, k)]).map (fun x : Nat × Nat => (x.1 : Int))).getD O'.length (0 : Int) = (l : Int) := by
      simp [List.getD_eq_getElem?_getD]
    have g3 : ((O' ++ [(l, k)]).map (fun x : Nat × Nat => (x.2 : Int))).getD O'.length (0 : Int) = (k : Int) := by
      simp [List.getD_eq_getElem?_getD]
    unfold impl_compiler_end endOf compS workS
    simp only [qaa, n1, n2, n3, e, e1, e2, Int.toNat_natCast, g1, g2, g3, cond_true, cond_false]
    cases k with
    | zero =>
      have e3 : iLt 0 ((0 : Nat) : Int) = false := qag (by omega)
      have e4 : inS 0 (O'.length : Int) (O'.length + 1) = true := by simp [inS]; omega
      have t1 : List.take O'.length ((O' ++ [(l, 0)]).map (fun x : Nat × Nat => ((x.1 : Int), (x.2 : Int), ()))) = O'.map (fun x : Nat × Nat => ((x.1 : Int), (x.2 : Int), ())) := by simp
      have t2 : List.take O'.length ((O' ++ [(l, 0)]).map (fun x : Nat × Nat => (x.1 : Int))) = O'.map (fun x : Nat × Nat => (x.1 : Int)) := by simp
      have t3 : List.take O'.length ((O' ++ [(l, 0)]).map (fun x : Nat × Nat => (x.2 : Int))) = O'.map (fun x : Nat × Nat => (x.2 : Int)) := by simp
      have e5 : iAdd .i64 (p : Int) 1 = ((p + 1 : Nat) : Int) := (qa8 (by omega) (by omega)).trans (by omega)
      refine ⟨m, fix, O', p + 1, ?_, ?_, hg, ⟨by omega, fun x hx => ?_, fun x hx => o3 x (by simp [hx]), o4, by omega⟩, qtp l p hl hp 3 O' (by omega)⟩
      · simp only [e3, e4, cond_true, cond_false, List.drop_zero, t1]
      · simp only [e3, e4, cond_true, cond_false, List.drop_zero, t2, t3, e5]
      · have := o2 x (by simp [hx]); omega
    | succ k =>
      have e3 : iLt 0 ((k + 1 : Nat) : Int) = true := qah (by omega)
      have e4 : iSub .i64 ((k + 1 : Nat) : Int) 1 = (k : Int) := (qbv (by omega) (by omega)).trans (by omega)
      have t1 : List.set ((O' ++ [(l, k + 1)]).map (fun x : Nat × Nat => ((x.1 : Int), (x.2 : Int), ()))) O'.length ((l : Int), (k : Int), ()) = (O' ++ [(l, k)]).map (fun x : Nat × Nat => ((x.1 : Int), (x.2 : Int), ())) := by simp
      have t3 : List.set ((O' ++ [(l, k + 1)]).map (fun x : Nat × Nat => (x.2 : Int))) O'.length (k : Int) = (O' ++ [(l, k)]).map (fun x : Nat × Nat => (x.2 : Int)) := by simp
      have t2 : (O' ++ [(l, k + 1)]).map (fun x : Nat × Nat => (x.1 : Int)) = (O' ++ [(l, k)]).map (fun x : Nat × Nat => (x.1 : Int)) := by simp
      have g1' : ((O' ++ [(l, k)]).map (fun x : Nat × Nat => ((x.1 : Int), (x.2 : Int), ()))).getD O'.length ((0, 0, ()) : Int × Int × Unit) = ((l : Int), (k : Int), ()) := by
        simp [List.getD_eq_getElem?_getD]
      refine ⟨m, fix, O' ++ [(l, k)], l, ?_, ?_, hg, ⟨by simp; omega, fun x hx => ?_, fun x hx => ?_, ?_, by omega⟩, qqp l k p 3 O' (by omega)⟩
      · simp only [e3, e4, cond_true, t1, g1']
      · simp only [e3, e4, cond_true, t2, t3]
      · rcases List.mem_append.mp hx with h | h
        · exact o6 x h (l, k + 1) (by simp)
        · simp at h; subst h; exact Nat.le_refl _
      · rcases List.mem_append.mp hx with h | h
        · exact o3 x (by simp [h])
        · simp at h; subst h; show k ≤ 15; omega
      · rw [List.pairwise_append]
        refine ⟨o4, List.pairwise_singleton _ _, fun a ha b hb => ?_⟩
        simp at hb; subst hb
        exact o6 a ha (l, k + 1) (by simp)
theorem qa6 {a b : List UInt8} (h : a ≠ b) : sEq a b = false := by
  cases e : sEq a b with
  | false => rfl
  | true => exact absurd (by simpa [sEq] using e) h
theorem qkq {f : List UInt8} (hs : f.length ≤ 1048576) :
    (∃ x, impl_ReadFraction f = some ((x, 0, ()), ()) ∧ spec_l08Fraction f = some ((x, true, ()), ()) ∧ pw .f32 x 20) ∨ ∃ x y, impl_ReadFraction f = some ((x, 5, ()), ()) ∧ spec_l08Fraction f = some ((y, false, ()), ()) := by
  obtain ⟨w, h1, h2⟩ := qlx hs
  unfold spec_ReadFraction at h1
  cases hq : spec_l08Fraction f with
  | none => rw [hq] at h1; cases h1
  | some y =>
    obtain ⟨⟨x, ok, ⟨⟩⟩, ⟨⟩⟩ := y
    rw [hq] at h1
    cases ok with
    | true => exact .inl ⟨x, h2.trans h1.symm, rfl, qnk hs (h2.trans h1.symm)⟩
    | false => exact .inr ⟨0, x, h2.trans h1.symm, rfl⟩
theorem qs9 {c : DComp} {w0 : List UInt8} (n : Int) (f1 : w0 ≠ wRate) (f2 : w0 ≠ wFix) (f3 : w0 ≠ wHold) (f4 : w0 ≠ wRange) (f5 : w0 ≠ wRepeat) :
    impl_compiler_about c w0 n = some ((5, ()), (c, ())) := by
  unfold impl_compiler_about
  rw [show sEq w0 [114, 97, 116, 101] = false from qa6 f1, show sEq w0 [102, 105, 120] = false from qa6 f2, show sEq w0 [104, 111, 108, 100] = false from qa6 f3, show sEq w0 [114, 97, 110, 103, 101] = false from qa6 f4, show sEq w0 [114, 101, 112, 101, 97, 116] = false from qa6 f5]
  rfl
theorem qrp {c : DComp} {s w0 a b d : List UInt8} {r : List (List UInt8)} (ha : a.length ≤ 1048576) (hb : b.length ≤ 1048576) (hd : d.length ≤ 1048576)
    (hsp : strings_Split s [32] = some ((w0 :: a :: b :: d :: r, ()), ())) (hne : s ≠ wEnd) :
    (∃ x y z, pv 20 ((x, y, z, ()) : Vec 3 Nat) ∧ spec_l08Vec (a :: b :: d :: r) = some (((x, y, z, ()), true, ()), ()) ∧
      impl_compiler_compile c s = bif sEq w0 wStart then (bif iEq (lenI (w0 :: a :: b :: d :: r)) 4 then (bif iLt 0 (lenI c.1.2.2.2.1) then some ((4, ()), (c, ())) else some ((0, ()), (((c.1.1, (x, y, z, ()), c.1.2.2), c.2), ()))) else some ((5, ()), (c, ()))) else
        bif sEq w0 wBeacon then (bif iEq (lenI (w0 :: a :: b :: d :: r)) 4 then (bif iEq (lenI c.1.2.2.1) 6 then some ((3, ()), (c, ())) else bif room (List.length c.1.2.2.1 + 1) 12 then some ((0, ()), (((c.1.1, c.1.2.1, c.1.2.2.1 ++ ([(x, y, z, ())] : List (Vec 3 Nat)), c.1.2.2.2), c.2), ())) else none) else some ((5, ()), (c, ()))) else
        bif sEq w0 wMove then (bif iEq (lenI (w0 :: a :: b :: d :: r)) 5 then (bif inB 4 (List.length (w0 :: a :: b :: d :: r)) then (impl_whole (List.getD (w0 :: a :: b :: d :: r) 4 [])).bind fun u => bif !u.1.2.1 then some ((5, ()), (c, ())) else impl_compiler_addLeg c (x, y, z, ()) u.1.1 else none) else some ((5, ()), (c, ()))) else some ((5, ()), (c, ()))) ∨
    (∃ v, spec_l08Vec (a :: b :: d :: r) = some ((v, false, ()), ()) ∧ impl_compiler_compile c s = some ((5, ()), (c, ()))) := by
  have i0 : inB 0 (w0 :: a :: b :: d :: r).length = true := qaf (i := 0) (by simp)
  have i1 : inB 1 (w0 :: a :: b :: d :: r).length = true := qaf (i := 1) (by simp)
  have i2 : inB 2 (w0 :: a :: b :: d :: r).length = true := qaf (i := 2) (by simp)
  have i3 : inB 3 (w0 :: a :: b :: d :: r).length = true := qaf (i := 3) (by simp)
  have j0 : inB 0 (a :: b :: d :: r).length = true := qaf (i := 0) (by simp)
  have j1 : inB 1 (a :: b :: d :: r).length = true := qaf (i := 1) (by simp)
  have j2 : inB 2 (a :: b :: d :: r).length = true := qaf (i := 2) (by simp)
  have k1 : iEq (lenI (w0 :: a :: b :: d :: r)) 2 = false := qbm (by simp [lenI]; omega)
  have k2 : iLt (lenI (w0 :: a :: b :: d :: r)) 4 = false := qag (by simp [lenI]; omega)
  have he : sEq s [101, 110, 100] = false := qa6 hne
  have g0 : List.getD (w0 :: a :: b :: d :: r) 0 [] = w0 := rfl
  have g1 : List.getD (w0 :: a :: b :: d :: r) 1 [] = a := rfl
  have g2 : List.getD (w0 :: a :: b :: d :: r) 2 [] = b := rfl
  have g3 : List.getD (w0 :: a :: b :: d :: r) 3 [] = d := rfl
  have h0 : List.getD (a :: b :: d :: r) 0 [] = a := rfl
  have h1 : List.getD (a :: b :: d :: r) 1 [] = b := rfl
  have h2 : List.getD (a :: b :: d :: r) 2 [] = d := rfl
  have n0 : iEq 5 0 = false := rfl
  have n1 : iEq 0 0 = true := rfl
  unfold impl_compiler_compile spec_l08Vec
  rw [hsp]
  simp only [Option.bind_some]
  rw [he, k1, k2, i1, i2, i3, j0, j1, j2, g1, g2, g3, h0, h1, h2]
  simp only [cond_true, cond_false]
  rcases qkq ha with ⟨x, e1, e2, e7⟩ | ⟨x, y, e1, e2⟩
  · rw [e1, e2]
    simp only [Option.bind_some, n1, Bool.not_true, cond_false]
    rcases qkq hb with ⟨y, e3, e4, e8⟩ | ⟨y, y', e3, e4⟩
    · rw [e3, e4]
      simp only [Option.bind_some, n1, Bool.not_true, cond_false]
      rcases qkq hd with ⟨z, e5, e6, e9⟩ | ⟨z, z', e5, e6⟩
      · rw [e5, e6]
        simp only [Option.bind_some, n1, Bool.not_true, cond_false]
        left
        refine ⟨x, y, z, ⟨e7, e8, e9⟩, rfl, ?_⟩
        rw [i0, g0]
        simp only [cond_true]
        cases c1 : sEq w0 wStart with
        | true =>
          have c1' : sEq w0 [115, 116, 97, 114, 116] = true := c1
          rw [c1']
          simp only [cond_true]
          cases iEq (lenI (w0 :: a :: b :: d :: r)) 4 with
          | true => rfl
          | false =>
            have := of_decide_eq_true (show decide (w0 = wStart) = true by simpa [sEq] using c1)
            subst this
            rfl
        | false =>
          have c1' : sEq w0 [115, 116, 97, 114, 116] = false := c1
          rw [c1']
          simp only [cond_false]
          cases c2 : sEq w0 wBeacon with
          | true =>
            have c2' : sEq w0 [98, 101, 97, 99, 111, 110] = true := c2
            rw [c2']
            simp only [cond_true]
            cases iEq (lenI (w0 :: a :: b :: d :: r)) 4 with
            | true => rfl
            | false =>
              have := of_decide_eq_true (show decide (w0 = wBeacon) = true by simpa [sEq] using c2)
              subst this
              rfl
          | false =>
            have c2' : sEq w0 [98, 101, 97, 99, 111, 110] = false := c2
            rw [c2']
            simp only [cond_false]
            cases c3 : sEq w0 wMove with
            | true =>
              have c3' : sEq w0 [109, 111, 118, 101] = true := c3
              rw [c3']
              simp only [cond_true]
              cases iEq (lenI (w0 :: a :: b :: d :: r)) 5 with
              | false => rfl
              | true =>
                simp only [cond_true]
                cases inB 4 (w0 :: a :: b :: d :: r).length with
                | false => rfl
                | true =>
                  simp only [cond_true]
                  cases impl_whole (List.getD (w0 :: a :: b :: d :: r) 4 []) with
                  | none => rfl
                  | some u =>
                    simp only [Option.bind_some]
                    cases (!u.1.2.1) with
                    | true => rfl
                    | false =>
                      simp only [cond_false]
                      show (impl_compiler_addLeg c (x, y, z, ()) u.1.1).bind _ = _
                      cases impl_compiler_addLeg c (x, y, z, ()) u.1.1 with
                      | none => rfl
                      | some v => rfl
            | false =>
              have c3' : sEq w0 [109, 111, 118, 101] = false := c3
              rw [c3']
              rfl
      · rw [e5, e6]
        right
        exact ⟨_, rfl, rfl⟩
    · rw [e3, e4]
      right
      exact ⟨_, rfl, rfl⟩
  · rw [e1, e2]
    right
    exact ⟨_, rfl, rfl⟩
theorem OInv.next {O : List (Nat × Nat)} {p : Nat} (h : OInv O p) (hp : p < 200) : OInv O (p + 1) :=
  ⟨h.len, fun x hx => Nat.le_succ_of_le (h.low x hx), h.few, h.up, hp⟩
theorem OInv.push {O : List (Nat × Nat)} {p : Nat} (h : OInv O p) (hp : p < 200) (hl : O.length < 3) {k : Nat} (hk : k ≤ 15) : OInv (O ++ [(p + 1, k)]) (p + 1) := by
  refine ⟨by simp; omega, fun x hx => ?_, fun x hx => ?_, ?_, hp⟩
  · rcases List.mem_append.mp hx with g | g
    · have := h.low x g; omega
    · simp at g; subst g; exact Nat.le_refl _
  · rcases List.mem_append.mp hx with g | g
    · exact h.few x g
    · simp at g; subst g; exact hk
  · rw [List.pairwise_append]
    refine ⟨h.up, List.pairwise_singleton _ _, fun a ha b hb => ?_⟩
    simp at hb; subst hb
    have := h.low a ha
    show a.1 ≤ p + 1
    omega
theorem qe4 {m m' : DMission} {fix fix' : Int} {O O' : List (Nat × Nat)} {p : Nat} (hO : OInv O p) (hp : p < 200) {I : Option ((Int × Unit) × (DComp × Unit))} {S : Option ((Int × Unit) × (DWork × Unit))} {code : Int}
    (hI : I = some ((code, ()), (compS m' fix' O' (p + 1), ()))) (hS : S = some ((code, ()), (workS m' fix' O', ())))
    (h : code = 0 → Good m' fix' ∧ (O' = O ∨ (O.length < 3 ∧ ∃ k, k ≤ 15 ∧ O' = O ++ [(p + 1, k)]))) :
    Stepped m fix O p I (S.bind fun y => some ((iAdd .i64 (p : Int) 1, y.1.1, ()), (y.2.1, ()))) := by
  have ep : iAdd .i64 (p : Int) 1 = ((p + 1 : Nat) : Int) := (qa8 (by omega) (by omega)).trans (by omega)
  rw [hS, ep]
  by_cases hc : code = 0
  · subst hc
    obtain ⟨h1, h2⟩ := h rfl
    right
    refine ⟨m', fix', O', p + 1, hI, rfl, h1, ?_, ?_⟩
    · rcases h2 with rfl | ⟨h3, k, hk, rfl⟩
      · exact hO.next hp
      · exact hO.push hp h3 hk
    · rcases h2 with rfl | ⟨h3, k, hk, rfl⟩
      · exact qrn 3 O' p hO.len hp
      · exact qrv k hk 3 O p h3 hp
  · left
    exact ⟨code, _, _, _, hc, hI, rfl⟩
theorem qbe {m : DMission} {fix : Int} {O : List (Nat × Nat)} {p : Nat} {I : Option ((Int × Unit) × (DComp × Unit))} {S : Option ((Int × Int × Unit) × (DWork × Unit))} {st : DComp} {q : Int} {w : DWork}
    (hI : I = some ((5, ()), (st, ()))) (hS : S = some ((q, 5, ()), (w, ()))) : Stepped m fix O p I S := .inl ⟨5, st, q, w, by decide, hI, hS⟩
theorem qt4 {m : DMission} {fix : Int} (hg : Good m fix) {O : List (Nat × Nat)} {p : Nat} (hO : OInv O p) (hp : p < 200) {s w0 a b d : List UInt8} {r : List (List UInt8)} (hs : s.length ≤ 1048576) (hall : ∀ f ∈ w0 :: a :: b :: d :: r, f.length ≤ 1048576)
    (hsp : strings_Split s [32] = some ((w0 :: a :: b :: d :: r, ()), ())) (hne : s ≠ wEnd) (hw : w0 = wStart ∨ w0 = wBeacon ∨ w0 = wMove) :
    Stepped m fix O p (impl_compiler_compile (compS m fix O (p + 1)) s) ((spec_l08Work_three (workS m fix O) (w0 :: a :: b :: d :: r)).bind fun y => some ((iAdd .i64 (p : Int) 1, y.1.1, ()), (y.2.1, ()))) := by
  have i0 : inB 0 (w0 :: a :: b :: d :: r).length = true := qaf (i := 0) (by simp)
  have s1 : inS 1 (lenI (w0 :: a :: b :: d :: r)) (w0 :: a :: b :: d :: r).length = true := by unfold inS; rw [qaa]; simp only [List.length_cons]; simp; omega
  have d1 : dropL (w0 :: a :: b :: d :: r) 1 = a :: b :: d :: r := rfl
  have g0 : List.getD (w0 :: a :: b :: d :: r) 0 [] = w0 := rfl
  obtain ⟨q1, q2, q3, q4, q5⟩ := id hg
  rcases qrp (c := compS m fix O (p + 1)) (hall a (by simp)) (hall b (by simp)) (hall d (by simp)) hsp hne with ⟨x, y, z, e0, e1, e2⟩ | ⟨v, e1, e2⟩
  · rw [e2]
    unfold spec_l08Work_three
    rw [i0, g0, s1, d1, e1]
    simp only [Option.bind_some, cond_true, cond_false, Bool.not_true]
    rcases hw with rfl | rfl | rfl
    · have f1 : sEq wStart wStart = true := rfl
      have f2 : sEq wStart [109, 111, 118, 101] = false := rfl
      have f3 : sEq wStart [115, 116, 97, 114, 116] = true := rfl
      rw [f1, f2, f3]
      simp only [cond_true, cond_false]
      cases iEq (lenI (wStart :: a :: b :: d :: r)) 4 with
      | false => exact qbe rfl rfl
      | true =>
        simp only [cond_true, cond_false, Bool.not_true]
        have hc : (compS m fix O (p + 1)).1.2.2.2.1 = m.2.2.2.1 := rfl
        have hc' : (workS m fix O).1.2.2.2.1 = m.2.2.2.1 := rfl
        rw [hc, hc']
        cases iLt 0 (lenI m.2.2.2.1) with
        | true => exact .inl ⟨4, _, _, _, by decide, rfl, rfl⟩
        | false => exact qe4 hO hp (m' := (m.1, (x, y, z, ()), m.2.2)) (fix' := fix) (O' := O) (code := 0) rfl rfl (fun _ => ⟨⟨q1, q2, q3, q4, q5.rate, q5.fixed, e0, q5.marks, q5.legsG⟩, .inl rfl⟩)
    · have f1 : sEq wBeacon wBeacon = true := rfl
      have f0 : sEq wBeacon wStart = false := rfl
      have f2 : sEq wBeacon [109, 111, 118, 101] = false := rfl
      have f3 : sEq wBeacon [115, 116, 97, 114, 116] = false := rfl
      have f4 : sEq wBeacon [98, 101, 97, 99, 111, 110] = true := rfl
      rw [f0, f1, f2, f3, f4]
      simp only [cond_true, cond_false]
      cases iEq (lenI (wBeacon :: a :: b :: d :: r)) 4 with
      | false => exact qbe rfl rfl
      | true =>
        simp only [cond_true, cond_false, Bool.not_true]
        have hc : (compS m fix O (p + 1)).1.2.2.1 = m.2.2.1 := rfl
        have hc' : (workS m fix O).1.2.2.1 = m.2.2.1 := rfl
        have hr : room (m.2.2.1.length + 1) 12 = true := qbk (by omega)
        rw [hc, hc', hr]
        cases h6 : iEq (lenI m.2.2.1) 6 with
        | true => exact .inl ⟨3, _, _, _, by decide, rfl, rfl⟩
        | false =>
          have h6' : (m.2.2.1.length : Int) ≠ 6 := by simpa [iEq, lenI] using h6
          refine qe4 hO hp (m' := (m.1, m.2.1, m.2.2.1 ++ ([(x, y, z, ())] : List (Vec 3 Nat)), m.2.2.2)) (fix' := fix) (O' := O) (code := 0) rfl rfl (fun _ => ⟨⟨q1, ?_, q3, q4, q5.rate, q5.fixed, q5.start, fun v hv => ?_, fun u hu => ?_⟩, .inl rfl⟩)
          · show (m.2.2.1 ++ _).length ≤ 6
            rw [List.length_append]
            show m.2.2.1.length + 1 ≤ 6
            omega
          · rcases List.mem_append.1 hv with hv | hv
            · exact q5.marks v hv
            · rw [List.mem_singleton.1 hv]; exact e0
          · obtain ⟨k1, k2, k3, k4, k5⟩ := q5.legsG u hu
            refine ⟨k1, k2, k3, k4, ?_⟩
            show u.2.2.2.1 < ((m.2.2.1 ++ ([(x, y, z, ())] : List (Vec 3 Nat))).length : Int)
            rw [List.length_append]
            show u.2.2.2.1 < ((m.2.2.1.length + 1 : Nat) : Int)
            omega
    · have f1 : sEq wMove wMove = true := rfl
      have f0 : sEq wMove wStart = false := rfl
      have f0' : sEq wMove wBeacon = false := rfl
      have f2 : sEq wMove [109, 111, 118, 101] = true := rfl
      have f3 : sEq wMove [115, 116, 97, 114, 116] = false := rfl
      have f4 : sEq wMove [98, 101, 97, 99, 111, 110] = false := rfl
      rw [f0, f0', f1, f2, f3, f4]
      simp only [cond_true, cond_false]
      cases h5 : iEq (lenI (wMove :: a :: b :: d :: r)) 5 with
      | false => exact qbe rfl rfl
      | true =>
        simp only [cond_true, cond_false, Bool.not_true]
        cases r with
        | nil => cases h5
        | cons e r =>
          have i4 : inB 4 (wMove :: a :: b :: d :: e :: r).length = true := qaf (i := 4) (by simp)
          have g4 : List.getD (wMove :: a :: b :: d :: e :: r) 4 [] = e := rfl
          rw [i4, g4]
          obtain ⟨n, w1, w2⟩ := qb8 (hall e (by simp))
          obtain ⟨n', w3, w4⟩ := qcv e
          rw [w1, w3]
          simp only [cond_true, Option.bind_some]
          cases hn : numOK 999999 e with
          | false => exact qbe rfl rfl
          | true =>
            obtain ⟨k, hk, -⟩ := numOK_iff.mp hn
            have hv : valD 0 e ≤ 999999 := by
              have := hn
              unfold numOK at this
              simp at this
              exact this.2
            rw [w2 hn, w4 hn]
            simp only [Bool.not_true, cond_false]
            obtain ⟨code, m', l1, l2, l3⟩ := qr9 hg O (p + 1) ((x, y, z, ()) : Vec 3 Nat) e0 (n := (valD 0 e : Int)) (by omega) (by omega)
            refine qe4 hO hp (m' := m') (fix' := fix) (O' := O) (code := code) l1 ?_ (fun h => ⟨l3 h, .inl rfl⟩)
            show (spec_l08Work_leg (workS m fix O) (x, y, z, ()) (valD 0 e : Int)).bind _ = _
            rw [l2]
            rfl
  · rw [e2]
    unfold spec_l08Work_three
    rw [i0, g0, s1, d1, e1]
    simp only [Option.bind_some, cond_true, cond_false, Bool.not_false]
    cases sEq w0 [109, 111, 118, 101] <;> cases iEq (lenI (w0 :: a :: b :: d :: r)) 4 <;> cases iEq (lenI (w0 :: a :: b :: d :: r)) 5 <;> exact qbe rfl rfl
theorem qny {c : UInt8} {s f : List UInt8} (h : f ∈ splitC c s) : f.length ≤ s.length := by
  have h1 := (List.sublist_flatten_of_mem h).length_le
  rw [qii] at h1
  exact Nat.le_trans h1 (List.length_filter_le _ _)
theorem quh {c : UInt8} {s f : List UInt8} (h : splitC c s = [f]) : f = s := by
  have h1 := qd2 c s
  rw [h] at h1
  have h2 : c ∉ s := by
    rw [← List.count_eq_zero]
    simp at h1
    omega
  rw [qcg h2] at h
  exact ((List.cons.injEq _ _ _ _).mp h).1.symm
theorem qjr {c : DComp} {s : List UInt8} {l : List (List UInt8)} (hsp : strings_Split s [32] = some ((l, ()), ())) (hne : s ≠ wEnd) (h2 : l.length ≠ 2) (h4 : l.length < 4) :
    impl_compiler_compile c s = some ((5, ()), (c, ())) := by
  unfold impl_compiler_compile
  rw [hsp]
  simp only [Option.bind_some]
  rw [show sEq s [101, 110, 100] = false from qa6 hne, qbm (a := lenI l) (b := 2) (by rw [qaa]; omega), qah (a := lenI l) (b := 4) (by rw [qaa]; omega)]
  rfl
theorem qmj {c : DComp} {s w0 b : List UInt8} (hsp : strings_Split s [32] = some (([w0, b], ()), ())) (hne : s ≠ wEnd) :
    impl_compiler_compile c s = (impl_whole b).bind fun u => bif !u.1.2.1 then some ((5, ()), (c, ())) else impl_compiler_about c w0 u.1.1 := by
  have i0 : inB 0 [w0, b].length = true := rfl
  have i1 : inB 1 [w0, b].length = true := rfl
  have g0 : List.getD [w0, b] 0 [] = w0 := rfl
  have g1 : List.getD [w0, b] 1 [] = b := rfl
  have k1 : iEq (lenI [w0, b]) 2 = true := rfl
  unfold impl_compiler_compile
  rw [hsp]
  simp only [Option.bind_some]
  rw [show sEq s [101, 110, 100] = false from qa6 hne, k1, i0, i1, g0, g1]
  simp only [cond_true, cond_false]
  cases impl_whole b with
  | none => rfl
  | some u =>
    simp only [Option.bind_some]
    cases (!u.1.2.1) with
    | true => rfl
    | false =>
      simp only [cond_false]
      show (impl_compiler_about c w0 u.1.1).bind _ = _
      cases impl_compiler_about c w0 u.1.1 with
      | none => rfl
      | some v => rfl
theorem qfr {c : DComp} {s w0 : List UInt8} {l : List (List UInt8)} (hsp : strings_Split s [32] = some ((w0 :: l, ()), ())) (hall : ∀ f ∈ w0 :: l, f.length ≤ 1048576) (hne : s ≠ wEnd)
    (h2 : l.length = 1 → w0 ≠ wRate ∧ w0 ≠ wFix ∧ w0 ≠ wHold ∧ w0 ≠ wRange ∧ w0 ≠ wRepeat) (h4 : 3 ≤ l.length → w0 ≠ wStart ∧ w0 ≠ wBeacon ∧ w0 ≠ wMove) :
    impl_compiler_compile c s = some ((5, ()), (c, ())) := by
  match l, hsp, hall, h2, h4 with
  | [], hsp, _, _, _ => exact qjr hsp hne (by simp) (by simp)
  | [b], hsp, hall, h2, _ =>
    rw [qmj hsp hne]
    obtain ⟨n, e1, -⟩ := qb8 (hall b (by simp))
    rw [e1]
    obtain ⟨f1, f2, f3, f4, f5⟩ := h2 rfl
    simp only [Option.bind_some]
    rw [qs9 n f1 f2 f3 f4 f5]
    cases numOK 999999 b <;> rfl
  | [b, d], hsp, _, _, _ => exact qjr hsp hne (by simp) (by simp)
  | a :: b :: d :: r, hsp, hall, _, h4 =>
    obtain ⟨f1, f2, f3⟩ := h4 (by simp)
    rcases qrp (c := c) (hall a (by simp)) (hall b (by simp)) (hall d (by simp)) hsp hne with ⟨x, y, z, -, -, e2⟩ | ⟨v, -, e2⟩
    · rw [e2, qa6 f1, qa6 f2, qa6 f3]; rfl
    · exact e2
theorem qs2 {f : List UInt8} (h : numOK 999999 f = true) : valD 0 f ≤ 999999 := by
  unfold numOK at h
  simp at h
  exact h.2
theorem qww {m : DMission} {fix : Int} (hg : Good m fix) {O : List (Nat × Nat)} {p : Nat} (hO : OInv O p) (hp : p < 200) {s : List UInt8} (hs : s.length ≤ 1048576) :
    Stepped m fix O p (impl_compiler_compile (compS m fix O (p + 1)) s) (spec_l08Work_line (workS m fix O) s (p : Int)) := by
  have hi : strings_Split s [32] = some ((splitC 32 s, ()), ()) := qg6 32 (by omega)
  have hsp : spec_l01Split s 32 = some ((splitC 32 s, ()), ()) := qcr 32 hs
  have hall : ∀ f ∈ splitC 32 s, f.length ≤ 1048576 := fun f hf => Nat.le_trans (qny hf) hs
  have hone : ∀ f, splitC 32 s = [f] → f = s := fun f h => quh h
  have hend : s = wEnd → splitC 32 s = [wEnd] := fun h => by rw [h]; rfl
  generalize splitC 32 s = L at hi hsp hall hone hend
  cases L with
  | nil =>
    exfalso
    have h0 := qcr 32 hs
    have h1 : spec_l01Split s (byteI 32) = _ := hsp
    rw [h0] at h1
    simp only [Option.some.injEq, Prod.mk.injEq, and_true] at h1
    exact qhn 32 s h1
  | cons w0 l =>
    by_cases hA : w0 = wRate ∨ w0 = wFix ∨ w0 = wHold ∨ w0 = wRange ∨ w0 = wRepeat
    · have hne : s ≠ wEnd := fun h => by
        have := hend h
        simp only [List.cons.injEq] at this
        rw [this.1] at hA
        revert hA; decide
      have hW : sEq w0 [114, 97, 116, 101] = true ∨ (sEq w0 [114, 97, 116, 101] = false ∧ (sEq w0 [102, 105, 120] = true ∨ (sEq w0 [102, 105, 120] = false ∧ (sEq w0 [104, 111, 108, 100] = true ∨ (sEq w0 [104, 111, 108, 100] = false ∧ (sEq w0 [114, 97, 110, 103, 101] = true ∨ (sEq w0 [114, 97, 110, 103, 101] = false ∧ sEq w0 [114, 101, 112, 101, 97, 116] = true))))))) := by
        rcases hA with rfl | rfl | rfl | rfl | rfl <;> decide
      rw [qxf hsp rfl hW]
      by_cases h1 : l.length = 1
      · obtain ⟨b, rfl⟩ := List.length_eq_one_iff.mp h1
        have k1 : iEq (lenI [w0, b]) 2 = true := rfl
        have i1 : inB 1 [w0, b].length = true := rfl
        have g1 : List.getD [w0, b] 1 [] = b := rfl
        rw [qmj hi hne, k1, i1, g1]
        obtain ⟨n, w1, w2⟩ := qb8 (hall b (by simp))
        obtain ⟨n', w3, w4⟩ := qcv b
        rw [w1, w3]
        simp only [cond_true, cond_false, Option.bind_some, Bool.not_true]
        cases hn : numOK 999999 b with
        | false => exact qbe rfl rfl
        | true =>
          have hv := qs2 hn
          rw [w2 hn, w4 hn]
          simp only [Bool.not_true, cond_false]
          obtain ⟨code, m', fix', O', e1, e2, e3⟩ := qxw hg O hO.len (p := p) (by omega) (n := (valD 0 b : Int)) (by omega) (by omega) hA
          exact qe4 hO hp e1 e2 e3
      · have k1 : iEq (lenI (w0 :: l)) 2 = false := qbm (by rw [qaa, List.length_cons]; omega)
        rw [k1]
        refine qbe (qfr hi hall hne (fun h => absurd h h1) (fun _ => ?_)) rfl
        rcases hA with rfl | rfl | rfl | rfl | rfl <;> decide
    · have a1 : w0 ≠ wRate := fun h => hA (.inl h)
      have a2 : w0 ≠ wFix := fun h => hA (.inr (.inl h))
      have a3 : w0 ≠ wHold := fun h => hA (.inr (.inr (.inl h)))
      have a4 : w0 ≠ wRange := fun h => hA (.inr (.inr (.inr (.inl h))))
      have a5 : w0 ≠ wRepeat := fun h => hA (.inr (.inr (.inr (.inr h))))
      by_cases hB : w0 = wStart ∨ w0 = wBeacon ∨ w0 = wMove
      · have hne : s ≠ wEnd := fun h => by
          have := hend h
          simp only [List.cons.injEq] at this
          rw [this.1] at hB
          revert hB; decide
        have hW : (sEq w0 [115, 116, 97, 114, 116] = true) ∨ (sEq w0 [115, 116, 97, 114, 116] = false ∧ sEq w0 [98, 101, 97, 99, 111, 110] = true) ∨ (sEq w0 [115, 116, 97, 114, 116] = false ∧ sEq w0 [98, 101, 97, 99, 111, 110] = false ∧ sEq w0 [109, 111, 118, 101] = true) := by
          rcases hB with rfl | rfl | rfl <;> decide
        rw [quy hsp rfl (qa6 a1) (qa6 a2) (qa6 a3) (qa6 a4) (qa6 a5) hW]
        match l, hi, hsp, hall with
        | [], hi, hsp, hall =>
          refine qbe (q := iAdd .i64 (p : Int) 1) (w := workS m fix O) (qfr hi hall hne (fun h => by cases h) (fun h => by simp at h)) ?_
          rcases hB with rfl | rfl | rfl <;> rfl
        | [b], hi, hsp, hall =>
          refine qbe (q := iAdd .i64 (p : Int) 1) (w := workS m fix O) (qfr hi hall hne (fun h => ⟨a1, a2, a3, a4, a5⟩) (fun h => by simp at h)) ?_
          rcases hB with rfl | rfl | rfl <;> rfl
        | [b, d], hi, hsp, hall =>
          refine qbe (q := iAdd .i64 (p : Int) 1) (w := workS m fix O) (qfr hi hall hne (fun h => by cases h) (fun h => by simp at h)) ?_
          rcases hB with rfl | rfl | rfl <;> rfl
        | a :: b :: d :: r, hi, hsp, hall => exact qt4 hg hO hp hs hall hi hne hB
      · have b1 : w0 ≠ wStart := fun h => hB (.inl h)
        have b2 : w0 ≠ wBeacon := fun h => hB (.inr (.inl h))
        have b3 : w0 ≠ wMove := fun h => hB (.inr (.inr h))
        by_cases hE : w0 = wEnd
        · rw [qyw hsp rfl hE]
          cases l with
          | nil =>
            have he : s = wEnd := (hone w0 rfl).symm.trans hE
            have k1 : iEq (lenI [w0]) 1 = true := rfl
            rw [k1]
            have hc : impl_compiler_compile (compS m fix O (p + 1)) s = impl_compiler_end (compS m fix O (p + 1)) := by
              unfold impl_compiler_compile
              rw [hi, he]
              have : sEq wEnd [101, 110, 100] = true := rfl
              simp only [Option.bind_some, this, cond_true]
              show (impl_compiler_end (compS m fix O (p + 1))).bind _ = _
              cases impl_compiler_end (compS m fix O (p + 1)) with
              | none => rfl
              | some v => rfl
            rw [hc]
            exact qx3 hg hO hp
          | cons b r =>
            have hne : s ≠ wEnd := fun h => by
              have := hend h
              simp at this
            have k1 : iEq (lenI (w0 :: b :: r)) 1 = false := qbm (by rw [qaa]; simp; omega)
            rw [k1]
            exact qbe (qfr hi hall hne (fun _ => ⟨a1, a2, a3, a4, a5⟩) (fun _ => ⟨b1, b2, b3⟩)) rfl
        · have hne : s ≠ wEnd := fun h => by
            have := hend h
            simp only [List.cons.injEq] at this
            exact hE this.1
          rw [qvk hsp rfl (qa6 a1) (qa6 a2) (qa6 a3) (qa6 a4) (qa6 a5) (qa6 b1) (qa6 b2) (qa6 b3) (qa6 hE)]
          exact qbe (qfr hi hall hne (fun _ => ⟨a1, a2, a3, a4, a5⟩) (fun _ => ⟨b1, b2, b3⟩)) rfl
abbrev DOut := (DMission × Int × Int × Unit) × Unit
def zeroM : DMission := (0, (0, 0, 0, ()), [], [], ())
theorem qp0 (m : DMission) (fix : Int) (O : List (Nat × Nat)) (p : Nat) : muD 3 ((compS m fix O p).2.2.1.map (fun x => (x.1.toNat, x.2.1.toNat))) ((compS m fix O p).2.2.2.1).toNat = muD 3 O p := by
  have : (compS m fix O p).2.2.1.map (fun x => (x.1.toNat, x.2.1.toNat)) = O := by
    show (O.map (fun x : Nat × Nat => ((x.1 : Int), (x.2 : Int), ()))).map (fun x => (x.1.toNat, x.2.1.toNat)) = O
    rw [List.map_map]
    have : ((fun x : Int × Int × Unit => (x.1.toNat, x.2.1.toNat)) ∘ fun x : Nat × Nat => ((x.1 : Int), (x.2 : Int), ())) = id := by
      funext x; rfl
    rw [this, List.map_id]
  rw [this]
  rfl
theorem qqf {X : List (List UInt8)} (hX : X.length ≤ 200) (hall : ∀ f ∈ X, f.length ≤ 1048576) {g : Int × DWork × Unit → Option ((Int × DWork × Unit) ⊕ DOut)}
    (hg : ∀ (w : DWork) (p : Nat), g ((p : Int), w, ()) = bif iLt (p : Int) (X.length : Int) then (spec_l08Work_line w (X.getD p []) (p : Int)).bind fun y => bif !(iEq y.1.2.1 0) then Option.map Sum.inr (some ((zeroM, (p : Int), y.1.2.1, ()), ())) else some (Sum.inl (y.1.1, y.2.1, ()))
      else Option.map Sum.inr (bif iLt 0 (lenI w.2.2.2.1) then some ((zeroM, (X.length : Int), 4, ()), ()) else some ((w.1, 0, 0, ()), ()))) :
    ∃ a : DOut, run (impl_CompileMission_l5 ((X, ()), ())) (((8, (0, 0, 0, ()), [], [], ()), 0, [], 0, ()), ()) = some a ∧ run g (0, ((8, (0, 0, 0, ()), [], [], ()), 0, 0, [], [], ()), ()) = some a ∧ Sized TyMission a.1.1 ∧ (a.1.2.2.1 = 0 → ∃ fix, Good a.1.1 fix) := by
  have key := qps (f := impl_CompileMission_l5 ((X, ()), ())) (g := g) (fun s t => ∃ m fix O p, s = (compS m fix O p, ()) ∧ t = ((p : Int), workS m fix O, ()) ∧ Good m fix ∧ OInv O p)
    (fun s => muD 3 (s.1.2.2.1.map (fun x => (x.1.toNat, x.2.1.toNat))) (s.1.2.2.2.1).toNat) (fun a b => a = b ∧ Sized TyMission a.1.1 ∧ (a.1.2.2.1 = 0 → ∃ fix, Good a.1.1 fix)) ?_ (s := (compS (8, (0, 0, 0, ()), [], [], ()) 0 [] 0, ())) (t := ((0 : Nat), workS (8, (0, 0, 0, ()), [], [], ()) 0 [], ())) ?_
  · obtain ⟨a, b, h1, h2, rfl, h3⟩ := key
    exact ⟨a, h1, h2, h3⟩
  · rintro s t ⟨m, fix, O, p, rfl, rfl, hgd, hO⟩
    rw [hg]
    have hz : Sized TyMission zeroM := ⟨trivial, ⟨trivial, trivial, trivial, trivial⟩, ⟨Nat.zero_le _, fun _ h => by cases h⟩, ⟨Nat.zero_le _, fun _ h => by cases h⟩, trivial⟩
    by_cases hp : p < X.length
    · have l1 : iLt (p : Int) (X.length : Int) = true := qah (by omega)
      have l1' : iLt (p : Int) (lenI X) = true := by rw [qaa]; exact l1
      have l2 : inB (p : Int) X.length = true := qaf hp
      have hpp : iAdd .i64 (p : Int) 1 = ((p + 1 : Nat) : Int) := (qa8 (by omega) (by omega)).trans (by omega)
      have hf : (X.getD p []).length ≤ 1048576 := by
        rw [qau hp]; exact hall _ (List.getElem_mem hp)
      have hi : impl_CompileMission_l5 ((X, ()), ()) (compS m fix O p, ()) = (impl_compiler_compile (compS m fix O (p + 1)) (X.getD p [])).bind fun y => bif !(iEq y.1.1 0) then Option.map Sum.inr (some ((zeroM, (p : Int), y.1.1, ()), ())) else some (Sum.inl (y.2.1, ())) := by
        unfold impl_CompileMission_l5
        have h1 : (compS m fix O p).2.2.2.1 = (p : Int) := rfl
        simp only
        rw [h1, l1', l2, hpp, Int.toNat_natCast]
        rfl
      rw [hi, l1]
      rcases qww hgd hO (p := p) (by omega) hf with ⟨code, st, q, w, hc, e1, e2⟩ | ⟨m', fix', O', p', e1, e2, g1, g2, g3⟩
      · rw [e1, e2]
        have : iEq code 0 = false := qbm hc
        right
        refine ⟨((zeroM, (p : Int), code, ()), ()), ((zeroM, (p : Int), code, ()), ()), ?_, ?_, rfl, hz, fun h => absurd h hc⟩
        · simp only [Option.bind_some, this, Bool.not_false, cond_true]; rfl
        · simp only [Option.bind_some, this, Bool.not_false, cond_true]; rfl
      · rw [e1, e2]
        left
        refine ⟨(compS m' fix' O' p', ()), ((p' : Int), workS m' fix' O', ()), rfl, rfl, ⟨m', fix', O', p', rfl, rfl, g1, g2⟩, ?_⟩
        show muD 3 ((compS m' fix' O' p').2.2.1.map _) ((compS m' fix' O' p').2.2.2.1).toNat < muD 3 ((compS m fix O p).2.2.1.map _) ((compS m fix O p).2.2.2.1).toNat
        rw [qp0, qp0]
        exact g3
    · have l1 : iLt (p : Int) (X.length : Int) = false := qag (by omega)
      have l1' : iLt (p : Int) (lenI X) = false := by rw [qaa]; exact l1
      right
      have hi : impl_CompileMission_l5 ((X, ()), ()) (compS m fix O p, ()) = Option.map Sum.inr (bif iLt 0 (O.length : Int) then some ((zeroM, (X.length : Int), 4, ()), ()) else some ((m, 0, 0, ()), ())) := by
        unfold impl_CompileMission_l5
        have h1 : (compS m fix O p).2.2.2.1 = (p : Int) := rfl
        have h2 : lenI (compS m fix O p).2.2.1 = (O.length : Int) := by
          show lenI (O.map _) = _
          rw [qnh, qaa]
        simp only
        rw [h1, l1', h2, qaa]
        rfl
      have h3 : lenI (workS m fix O).2.2.2.1 = (O.length : Int) := by
        show lenI (O.map _) = _
        rw [qnh, qaa]
      rw [hi, l1, h3]
      cases iLt 0 (O.length : Int) with
      | true => exact ⟨_, _, rfl, rfl, rfl, hz, fun h => absurd (show (4 : Int) = 0 from h) (by decide)⟩
      | false =>
        refine ⟨((m, 0, 0, ()), ()), ((m, 0, 0, ()), ()), rfl, rfl, rfl, ?_, fun _ => ⟨fix, hgd⟩⟩
        obtain ⟨rt, ⟨v1, v2, v3, ⟨⟩⟩, bs, ls, ⟨⟩⟩ := m
        have q1 := hgd.legs
        have q2 := hgd.beacons
        simp only at q1 q2
        refine ⟨trivial, ⟨trivial, trivial, trivial, trivial⟩, ⟨?_, fun _ _ => ⟨trivial, trivial, trivial, trivial⟩⟩, ⟨?_, fun _ _ => ⟨trivial, ⟨trivial, trivial, trivial, trivial⟩, trivial, trivial, trivial⟩⟩, trivial⟩
        · show bs.length ≤ _; omega
        · show ls.length ≤ _; omega
  · exact ⟨_, _, _, _, rfl, rfl, ⟨by decide, by decide, by decide, by decide, by decide, by decide, qtv, (fun _ h => by cases h), (fun _ h => by cases h)⟩, ⟨by decide, by simp, by simp, by simp, by decide⟩⟩
theorem qv0 {X : List (List UInt8)} {n p : Nat} (h : p < n) : (X.take n).getD p [] = X.getD p [] := by
  simp [List.getD_eq_getElem?_getD, h]
theorem qk0 {s : List UInt8} (hs : s.length ≤ 1048576) : ∃ a : DOut, impl_CompileMission s = some a ∧ spec_CompileMission s = some a ∧ Sized TyMission a.1.1 ∧ (a.1.2.2.1 = 0 → ∃ fix, Good a.1.1 fix) := by
  have hi : strings_Split s [10] = some ((splitC 10 s, ()), ()) := qg6 10 (by omega)
  have hsp : spec_l01Split s 10 = some ((splitC 10 s, ()), ()) := qcr 10 hs
  have hall : ∀ f ∈ splitC 10 s, f.length ≤ 1048576 := fun f hf => Nat.le_trans (qny hf) hs
  have hne : splitC 10 s ≠ [] := qhn 10 s
  have hlen : (splitC 10 s).length ≤ 1048577 := by
    rw [qd2]
    have := List.count_le_length (a := (10 : UInt8)) (l := s)
    omega
  generalize splitC 10 s = L at hi hsp hall hne hlen
  have hz : Sized TyMission zeroM := ⟨trivial, ⟨trivial, trivial, trivial, trivial⟩, ⟨Nat.zero_le _, fun _ h => by cases h⟩, ⟨Nat.zero_le _, fun _ h => by cases h⟩, trivial⟩
  obtain ⟨n, hn⟩ : ∃ n : Nat, L.length = n + 1 := ⟨L.length - 1, by have := List.length_pos_iff.mpr hne; omega⟩
  have e1 : iSub .i64 (lenI L) 1 = (n : Int) := by
    rw [qaa, hn]; exact (qbv (by omega) (by omega)).trans (by omega)
  have e2 : inB (n : Int) L.length = true := by rw [hn]; exact qaf (by omega)
  have e3 : inS 0 (n : Int) L.length = true := by rw [hn]; unfold inS; simp; omega
  unfold impl_CompileMission spec_CompileMission impl_textLines
  rw [hi, hsp]
  simp only [Option.bind_some]
  rw [e1, e2, e3]
  simp only [cond_true, Int.toNat_natCast, List.drop_zero]
  cases hE : sEq (L.getD n []) [] with
  | true =>
    simp only [cond_true, Option.bind_some]
    have hX : lenI (L.take n) = (n : Int) := by rw [qaa, List.length_take, hn]; omega
    have hX' : (L.take n).length = n := by rw [List.length_take, hn]; omega
    rw [hX]
    cases iLt 4000 (lenI s) with
    | true => exact ⟨_, rfl, rfl, hz, fun h => absurd (show (2 : Int) = 0 from h) (by decide)⟩
    | false =>
      cases h2 : iLt 200 (n : Int) with
      | true => exact ⟨_, rfl, rfl, hz, fun h => absurd (show (2 : Int) = 0 from h) (by decide)⟩
      | false =>
        have h2' : ¬ 200 < (n : Int) := by simpa [iLt] using h2
        simp only [cond_false]
        refine qqf (X := L.take n) (by omega) (fun f hf => hall f (List.mem_of_mem_take hf)) (fun w p => ?_)
        unfold spec_CompileMission_l8
        rw [hX']
        simp only [Int.toNat_natCast]
        by_cases hp : p < n
        · rw [qah (a := (p : Int)) (b := (n : Int)) (by omega), qaf hp, qv0 hp, Nat.zero_add]
          rfl
        · rw [qag (a := (p : Int)) (b := (n : Int)) (by omega)]
          rfl
  | false =>
    simp only [cond_false, Option.bind_some]
    cases iLt 4000 (lenI s) with
    | true => exact ⟨_, rfl, rfl, hz, fun h => absurd (show (2 : Int) = 0 from h) (by decide)⟩
    | false =>
      cases h2 : iLt 200 (lenI L) with
      | true => exact ⟨_, rfl, rfl, hz, fun h => absurd (show (2 : Int) = 0 from h) (by decide)⟩
      | false =>
        have h2' : ¬ 200 < (lenI L) := by simpa [iLt] using h2
        rw [qaa] at h2'
        simp only [cond_false]
        refine qqf (X := L) (by omega) hall (fun w p => ?_)
        unfold spec_CompileMission_l8_2
        simp only
        rw [qaa]
        by_cases hp : p < L.length
        · rw [qah (a := (p : Int)) (b := (L.length : Int)) (by omega), qaf hp]
          rfl
        · rw [qag (a := (p : Int)) (b := (L.length : Int)) (by omega)]
          rfl
end Go.Proofs.YtildomllnnnofaaGreat
