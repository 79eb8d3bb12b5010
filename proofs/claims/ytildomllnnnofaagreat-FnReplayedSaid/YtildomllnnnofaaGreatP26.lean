import Derived.Test.YtildomllnnnofaaGreatP25
/- Functions of the program and of the reference in plain terms. -/
namespace Go.Proofs.YtildomllnnnofaaGreat
open Go Go.Tm
set_option linter.unusedVariables false
set_option linter.unusedSimpArgs false
set_option linter.unusedSectionVars false
abbrev zLeg : DLeg := (0, (0, 0, 0, ()), 0, 0, ())
def sT (l : List DLeg) : Nat → Int
  | 0 => 0
  | n + 1 => sT l n + (l.getD n zLeg).1
theorem qlr {l : List DLeg} (h : ∀ x ∈ l, 1 ≤ x.1) : ∀ (d i : Nat), i + d ≤ l.length → sT l i + d ≤ sT l (i + d)
  | 0, i, _ => by simp
  | d + 1, i, hi => by
    have := qlr h d i (by omega)
    have e : l.getD (i + d) zLeg = l[i + d]'(by omega) := qau (by omega)
    have h1 := h _ (List.getElem_mem (by omega : i + d < l.length))
    show _ ≤ sT l (i + d) + (l.getD (i + d) zLeg).1
    rw [e]
    omega
theorem qpf {l : List DLeg} {i : Nat} (hi : i < l.length) : sT l (i + 1) = sT l i + l[i].1 := by
  show sT l i + (l.getD i zLeg).1 = _
  rw [qau hi]
theorem qo6 {a : DMission} (hm : missionB a = true) : a.2.2.2.1.length ≤ 64 ∧ (∀ x ∈ a.2.2.2.1, 1 ≤ x.1 ∧ x.1 ≤ 400) ∧ (∀ x ∈ a.2.2.2.1, legB (iSub .i64 (lenI a.2.2.1) 1) x = true) ∧ frameB a.1 a.2.1 a.2.2.1 = true := by
  simp only [missionB, Bool.and_eq_true, qbo, List.all_eq_true, qaa] at hm
  obtain ⟨h0, h1, h2, _⟩ := hm
  refine ⟨by omega, fun x hx => ?_, h2, h0⟩
  have := h2 x hx
  simp only [legB, Bool.and_eq_true, qbo] at this
  exact this.1
theorem qvm (z : Int) : 0 ≤ IntKind.u32.wrap z ∧ IntKind.u32.wrap z < 4294967296 := by
  simp only [IntKind.wrap, IntKind.signed, IntKind.bits]
  constructor <;> simp <;> omega
theorem qho (z : Int) : -32768 ≤ iWrap .i16 z ∧ iWrap .i16 z ≤ 32767 := by
  simp only [iWrap, IntKind.wrap, IntKind.signed, IntKind.bits]
  constructor <;> simp <;> omega
theorem qabf {x : Int} (h0 : 0 ≤ x) (h1 : x < 4294967296) : iWrap .i64 (iShr .u32 x 16) = x / 65536 := by
  have e : iShr .u32 x 16 = x / 65536 := by
    show x.fdiv (2 ^ (min (16 : Int).toNat 32)) = _
    rw [show ((2 : Int) ^ (min (16 : Int).toNat 32)) = 65536 by decide, Int.fdiv_eq_ediv_of_nonneg _ (by decide)]
  rw [e, qed (by omega) (by omega)]
theorem qu9 {x : Int} (h0 : 0 ≤ x) (h1 : x < 4294967296) : iQuo .u32 x 65536 = x / 65536 := by
  show IntKind.u32.wrap (x.tdiv 65536) = _
  rw [Int.tdiv_eq_ediv_of_nonneg h0]
  simp only [IntKind.wrap, IntKind.signed, IntKind.bits]
  simp
  omega
theorem qms {x : Int} (h0 : 0 ≤ x) (k : IntKind) : iRem k x 9 = x % 9 := Int.tmod_eq_emod_of_nonneg h0
theorem qk9 {x : Int} (h0 : 0 ≤ x) (h1 : x < 4294967296) : iRem .i64 (iWrap .i64 (iShr .u32 x 16)) 9 = x / 65536 % 9 := by rw [qabf h0 h1, qms (by omega)]
theorem qlh {x : Int} (h0 : 0 ≤ x) (h1 : x < 4294967296) : iRem .i64 (iWrap .i64 (iQuo .u32 x 65536)) 9 = x / 65536 % 9 := by rw [qu9 h0 h1, qed (by omega) (by omega), qms (by omega)]
theorem qv4 {x : Int} (h0 : 0 ≤ x) (h1 : x < 4294967296) : iWrap .i64 (iRem .u32 (iQuo .u32 x 65536) 9) = x / 65536 % 9 := by rw [qu9 h0 h1, qms (by omega), qed (by omega) (by omega)]
theorem qvn (a b : Int) : spec_l00Min a b = some ((min a b, ()), ()) := by
  unfold spec_l00Min
  by_cases h : a < b
  · rw [qah h, cond_true, Int.min_eq_left (by omega)]
  · rw [qag h, cond_false, Int.min_eq_right (by omega)]
theorem qxq (v : Int) : min 32767 (max (-32768) v) = max (-32768) (min 32767 v) := by omega
def nx (s : Int) : Int := iAdd .u32 (iMul .u32 1664525 s) 1013904223
theorem qjn (s : Int) : 0 ≤ nx s ∧ nx s < 4294967296 := qvm _
theorem qvy (v : Vec 3 Int) (s : Int) : ∃ (u : Vec 3 Int) (s' : Int), impl_ShakeCounts v s 4 = some ((u, s', 0, ()), ()) ∧ spec_ShakeCounts v s 4 = some ((u, s', 0, ()), ()) ∧ Fit (.arr 3 (.int .i16)) u ∧ 0 ≤ s' ∧ s' < 4294967296 := by
  have c1 : iLt 4 0 = false := by decide
  have c2 : iAdd .i64 (iMul .i64 2 (iWrap .i64 4)) 1 = 9 := by decide
  have c3 : iEq 9 0 = false := by decide
  have hx : ∀ z, iAdd .u32 (iMul .u32 1664525 z) 1013904223 = nx z := fun _ => rfl
  have r1 := qjn s
  have r2 := qjn (nx s)
  have r3 := qjn (nx (nx s))
  refine ⟨((iWrap .i16 (max (-32768) (min 32767 (iAdd .i64 (iWrap .i64 (Vec.getD 3 v 0 (0 : Int))) (iSub .i64 (nx s / 65536 % 9) (iWrap .i64 4)))))), (iWrap .i16 (max (-32768) (min 32767 (iAdd .i64 (iWrap .i64 (Vec.getD 3 v 1 (0 : Int))) (iSub .i64 (nx (nx s) / 65536 % 9) (iWrap .i64 4)))))), (iWrap .i16 (max (-32768) (min 32767 (iAdd .i64 (iWrap .i64 (Vec.getD 3 v 2 (0 : Int))) (iSub .i64 (nx (nx (nx s)) / 65536 % 9) (iWrap .i64 4)))))), ()), nx (nx (nx s)), ?_, ?_, ⟨qho _, qho _, qho _, trivial⟩, r3⟩
  · simp only [impl_ShakeCounts, c1, c2, c3, hx, qk9 r1.1 r1.2, qk9 r2.1 r2.2, qk9 r3.1 r3.2, qzo, qaaa, qxq, cond_false]
    rfl
  · simp only [spec_ShakeCounts, c1, c2, c3, hx, qlh r1.1 r1.2, qlh r2.1 r2.2, qlh r3.1 r3.2, qvn, qwi, Option.bind_some, cond_false]
abbrev dSen : Vec 3 Nat × (Vec 3 Nat × (Int × (Int × Unit))) := ((1031798784, 1031798784, 1031798784, ()), (0, 0, 0, ()), 1, 0, ())
theorem qzn : spec_l04Sensor dSen = some ((true, ()), ()) := by kernel_rfl
theorem qrh (p : Vec 3 Nat) : ∃ u : Vec 3 Int, impl_countsOf dSen p = some ((u, ()), ()) ∧ spec_CountsOf dSen p = some ((u, 0, ()), ()) := by
  obtain ⟨n0, a0, b0, _⟩ := qka (fDiv .f32 (fSub .f32 (Vec.getD 3 p 0 (0 : Nat)) (Vec.getD 3 dSen.2.1 0 (0 : Nat))) (Vec.getD 3 dSen.1 0 (0 : Nat)))
  obtain ⟨n1, a1, b1, _⟩ := qka (fDiv .f32 (fSub .f32 (Vec.getD 3 p 1 (0 : Nat)) (Vec.getD 3 dSen.2.1 1 (0 : Nat))) (Vec.getD 3 dSen.1 1 (0 : Nat)))
  obtain ⟨n2, a2, b2, _⟩ := qka (fDiv .f32 (fSub .f32 (Vec.getD 3 p 2 (0 : Nat)) (Vec.getD 3 dSen.2.1 2 (0 : Nat))) (Vec.getD 3 dSen.1 2 (0 : Nat)))
  refine ⟨(n0, n1, n2, ()), ?_, ?_⟩
  · simp only [impl_countsOf, a0, a1, a2, Option.bind_some]
  · simp only [spec_CountsOf, spec_l04Counts, qzn, b0, b1, b2, Option.bind_some, Bool.not_true, cond_false]
theorem qux (n : Int) : entryB n (1, (0, 0, 0, ()), (0, 0, 0, ()), 0, 0, ()) = true := by kernel_rfl
theorem qs5 (n : Int) (v : Vec 3 Nat) : entryB n (2, v, (0, 0, 0, ()), 0, 0, ()) = finV v := by kernel_rfl
theorem qpw (n : Int) (v : Vec 3 Int) : entryB n (3, (0, 0, 0, ()), v, 0, 0, ()) = true := by kernel_rfl
theorem qsv (n i : Int) (x : Nat) : entryB n (4, (0, 0, 0, ()), (0, 0, 0, ()), i, x, ()) = ((iLe 0 i && iLe i (iSub .i64 n 1)) && (true && (true && finB x))) := by kernel_rfl
def dotR (a b : Vec 3 Nat) : Nat := fAdd .f32 (fAdd .f32 (fMul .f32 (Vec.getD 3 a 0 (0 : Nat)) (Vec.getD 3 b 0 (0 : Nat))) (fMul .f32 (Vec.getD 3 a 1 (0 : Nat)) (Vec.getD 3 b 1 (0 : Nat)))) (fMul .f32 (Vec.getD 3 a 2 (0 : Nat)) (Vec.getD 3 b 2 (0 : Nat)))
theorem qz7 (a : Vec 3 Nat) : spec_LengthOf a = some ((rootF (dotR a a), ()), ()) := by
  have e : spec_l01Dot a a = some ((dotR a a, ()), ()) := rfl
  simp only [spec_LengthOf, e, qbw, Option.bind_some]
def GoodE (n : Int) (e : DEntry) : Prop := entryB n e = true ∧ Fit (.arr 3 (.int .i16)) e.2.2.1
theorem qkn : Fit (.arr 3 (.int .i16)) ((0, 0, 0, ()) : Vec 3 Int) := ⟨⟨by decide, by decide⟩, ⟨by decide, by decide⟩, ⟨by decide, by decide⟩, trivial⟩
def GoodL (a : DMission) (c : Int) (g : DLog) : Prop := g.1 = a.1 ∧ g.2.1 = a.2.1 ∧ g.2.2.1 = a.2.2.1 ∧ (g.2.2.2.1.length : Int) ≤ c ∧ ∀ e ∈ g.2.2.2.1, GoodE (lenI a.2.2.1) e
theorem GoodL.add {a : DMission} {c : Int} {g : DLog} (h : GoodL a c g) {e : DEntry} (he : GoodE (lenI a.2.2.1) e) : GoodL a (c + 1) (g.1, g.2.1, g.2.2.1, g.2.2.2.1 ++ [e], g.2.2.2.2) := by
  refine ⟨h.1, h.2.1, h.2.2.1, ?_, fun x hx => ?_⟩
  · show ((g.2.2.2.1 ++ [e]).length : Int) ≤ c + 1
    rw [List.length_append, List.length_singleton]
    have := h.2.2.2.1
    omega
  · rcases List.mem_append.1 hx with q | q
    · exact h.2.2.2.2 x q
    · rw [List.mem_singleton.1 q]; exact he
theorem GoodL.le {a : DMission} {c d : Int} {g : DLog} (h : GoodL a c g) (hd : c ≤ d) : GoodL a d g := ⟨h.1, h.2.1, h.2.2.1, by have := h.2.2.2.1; omega, h.2.2.2.2⟩
abbrev DRun := Int × Int × Int × DLog × Unit
abbrev DRan := (DLog × Int × Unit) × Unit
theorem qu4 {a : DMission} (hsz : Sized TyMission a) {g : DLog} (h : GoodL a 1200 g) : Sized TyLog g := by
  refine ⟨qdn (t := .int .i64) rfl g.1, qdn (t := TyVec) rfl g.2.1, ?_, qup (t := TyEntry) rfl (l := g.2.2.2.1) (Nat.le_trans (Int.ofNat_le.1 h.2.2.2.1) (by decide)), trivial⟩
  rw [h.2.2.1]
  exact hsz.2.2.1
end Go.Proofs.YtildomllnnnofaaGreat
