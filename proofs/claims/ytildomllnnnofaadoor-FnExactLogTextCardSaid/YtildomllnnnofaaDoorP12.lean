/- Functions of the program and of the reference in plain terms. -/
import Derived.Test.YtildomllnnnofaaDoorP11
namespace Go.Proofs.YtildomllnnnofaaDoor
open Go Go.Tm
set_option linter.unusedVariables false
set_option linter.unusedSimpArgs false
set_option linter.unusedSectionVars false
/-! ### the reference's texts -/
theorem goodN_lt {a : Nat} (h : goodN a) : a < 4294967296 := (numR_text h).1
theorem hex_ok8 {a : Nat} (h : goodN a) : spec_l01Hex a = some ((hex8 a, ()), ()) := spec_l01Hex_ok (goodN_lt h)
theorem hex8_length (a : Nat) : (hex8 a).length = 8 := hexP_length 8 _
def vecT (v : Vec 3 Nat) : List UInt8 := hex8 v.1 ++ [32] ++ hex8 v.2.1 ++ [32] ++ hex8 v.2.2.1
theorem vecT_join (v : Vec 3 Nat) : vecT v = joinC 32 (vecW v) := by
  unfold vecT vecW
  simp [joinC]
theorem vecT_length (v : Vec 3 Nat) : (vecT v).length = 26 := by
  unfold vecT
  simp [hex8_length]

theorem strRoom_len {a b : List UInt8} (h : a.length + b.length ≤ 1000000000) : strRoom a b = true := strRoom_ok (by omega)

theorem spec_VecText_ok {v : Vec 3 Nat} (h : goodV v) : spec_VecText v = some ((vecT v, ()), ()) := by
  obtain ⟨a, b, c, ⟨⟩⟩ := v
  obtain ⟨ha, hb, hc⟩ := h
  have l0 : lenI ([a, b, c] : List Nat) = 3 := rfl
  have step0 : spec_l01Row_l3 [a, b, c] (([] : List UInt8), (0 : Int), ()) = some (.inl (hex8 a, (1 : Int), ())) := by
    unfold spec_l01Row_l3
    simp only
    rw [l0, show iLt (0 : Int) 3 = true from rfl, show iLt 0 (0 : Int) = false from rfl, show inB 0 ([a, b, c] : List Nat).length = true from rfl]
    simp only [cond_true, cond_false]
    rw [show List.getD [a, b, c] (0 : Int).toNat (0 : Nat) = a from rfl, hex_ok8 ha]
    simp only [Option.bind_some]
    rw [strRoom_len (by rw [hex8_length]; simp), show iAdd .i64 (0 : Int) 1 = 1 from by decide]
    rfl
  have step1 : spec_l01Row_l3 [a, b, c] (hex8 a, (1 : Int), ()) = some (.inl (hex8 a ++ [32] ++ hex8 b, (2 : Int), ())) := by
    unfold spec_l01Row_l3
    simp only
    rw [l0, show iLt (1 : Int) 3 = true from rfl, show iLt 0 (1 : Int) = true from rfl, show inB 1 ([a, b, c] : List Nat).length = true from rfl, strRoom_len (a := hex8 a) (b := [32]) (by rw [hex8_length]; simp)]
    simp only [cond_true, cond_false]
    rw [show List.getD [a, b, c] (1 : Int).toNat (0 : Nat) = b from rfl, hex_ok8 hb]
    simp only [Option.bind_some]
    rw [strRoom_len (by unfold strCat; simp [hex8_length]), show iAdd .i64 (1 : Int) 1 = 2 from by decide]
    rfl
  have step2 : spec_l01Row_l3 [a, b, c] (hex8 a ++ [32] ++ hex8 b, (2 : Int), ()) = some (.inl (hex8 a ++ [32] ++ hex8 b ++ [32] ++ hex8 c, (3 : Int), ())) := by
    unfold spec_l01Row_l3
    simp only
    rw [l0, show iLt (2 : Int) 3 = true from rfl, show iLt 0 (2 : Int) = true from rfl, show inB 2 ([a, b, c] : List Nat).length = true from rfl, strRoom_len (a := hex8 a ++ [32] ++ hex8 b) (b := [32]) (by simp [hex8_length])]
    simp only [cond_true, cond_false]
    rw [show List.getD [a, b, c] (2 : Int).toNat (0 : Nat) = c from rfl, hex_ok8 hc]
    simp only [Option.bind_some]
    rw [strRoom_len (by unfold strCat; simp [hex8_length]), show iAdd .i64 (2 : Int) 1 = 3 from by decide]
    rfl
  have step3 : spec_l01Row_l3 [a, b, c] (hex8 a ++ [32] ++ hex8 b ++ [32] ++ hex8 c, (3 : Int), ()) = some (.inr ((hex8 a ++ [32] ++ hex8 b ++ [32] ++ hex8 c, ()), ())) := by
    unfold spec_l01Row_l3
    simp only
    rw [l0]
    rfl
  have hr : spec_l01Row [a, b, c] = some ((vecT (a, b, c, ()), ()), ()) := by
    unfold spec_l01Row
    rw [run_step step0, run_step step1, run_step step2, run_done step3]
    rfl
  unfold spec_VecText
  show (spec_l01Row [a, b, c]).bind _ = _
  rw [hr]
  rfl

theorem itoa_len {n : Int} (h : -999999999 ≤ n) (h1 : n ≤ 999999999) : (Lib.itoa n).length ≤ 20 := by
  by_cases h0 : 0 ≤ n
  · rw [itoa_pos h0]
    have := (spec_Decimal_ok (n := n.toNat) (by omega)).2
    omega
  · obtain ⟨u, rfl⟩ : ∃ u : Nat, n = -(u : Int) := ⟨n.natAbs, by omega⟩
    rw [Lib.itoa_neg u (by omega)]
    have := (spec_Decimal_ok (n := u) (by omega)).2
    simp
    omega

theorem spec_Decimal_itoa {n : Int} (h : 0 ≤ n) (h1 : n ≤ 999999999) : spec_Decimal n = some ((Lib.itoa n, ()), ()) := by
  obtain ⟨u, rfl⟩ := Int.eq_ofNat_of_zero_le h
  rw [(spec_Decimal_ok (n := u) (by omega)).1, itoa_nat]

theorem spec_l08Signed_ok {n : Int} (h : -32768 ≤ n) (h1 : n ≤ 32767) : spec_l08Signed n = some ((Lib.itoa n, ()), ()) := by
  unfold spec_l08Signed
  by_cases h0 : 0 ≤ n
  · rw [iLt_neg (by omega), spec_Decimal_itoa h0 (by omega)]
    rfl
  · obtain ⟨u, rfl⟩ : ∃ u : Nat, n = -(u : Int) := ⟨n.natAbs, by omega⟩
    have e : iSub .i64 0 (-(u : Int)) = (u : Int) := (iSub_eq (by omega) (by omega)).trans (by omega)
    have hd := spec_Decimal_ok (n := u) (by omega)
    rw [iLt_pos (by omega), e, hd.1]
    simp only [cond_true, Option.bind_some]
    rw [strRoom_len (by simp; omega), Lib.itoa_neg u (by omega)]
    rfl

theorem entL_two {e : DEntry} (h : e.1 = 2) : entL e = wMov ++ [32] ++ vecT e.2.1 := by
  unfold entL entW
  rw [iEq_neg (a := e.1) (b := 1) (by omega), iEq_pos (a := e.1) (b := 2) h]
  simp only [cond_true, cond_false]
  rw [vecT_join]
  unfold vecW
  simp [joinC]
theorem entL_three {e : DEntry} (h : e.1 = 3) : entL e = wFi ++ [32] ++ Lib.itoa e.2.2.1.1 ++ [32] ++ Lib.itoa e.2.2.1.2.1 ++ [32] ++ Lib.itoa e.2.2.1.2.2.1 := by
  unfold entL entW
  rw [iEq_neg (a := e.1) (b := 1) (by omega), iEq_neg (a := e.1) (b := 2) (by omega), iEq_pos (a := e.1) (b := 3) h]
  simp only [cond_true, cond_false]
  simp [joinC]
theorem entL_four {e : DEntry} (h : e.1 = 4) : entL e = wRan ++ [32] ++ Lib.itoa e.2.2.2.1 ++ [32] ++ hex8 e.2.2.2.2.1 := by
  unfold entL entW
  rw [iEq_neg (a := e.1) (b := 1) (by omega), iEq_neg (a := e.1) (b := 2) (by omega), iEq_neg (a := e.1) (b := 3) (by omega)]
  simp only [cond_false]
  simp [joinC]
theorem entL_one {e : DEntry} (h : e.1 = 1) : entL e = wTick := by
  unfold entL entW
  rw [iEq_pos (a := e.1) (b := 1) h]
  rfl

theorem spec_l08Line_ok {n : Int} {e : DEntry} (hn : 0 ≤ n) (hn1 : n ≤ 1000) (hv : entryB n e = true) (hg : goodE e) : spec_l08Line e = some ((entL e ++ [10], ()), ()) ∧ (entL e).length ≤ 100 := by
  rcases entry_kind hv with h | ⟨v, h, -⟩ | ⟨c, h⟩ | ⟨k, a, h, k0, k1, -⟩
  · have q : e.1 = 1 := congrArg (fun z : DEntry => z.1) h
    have he := entL_one q
    refine ⟨?_, by rw [he]; decide⟩
    unfold spec_l08Line
    rw [iEq_pos (a := e.1) (b := 1) q, he]
    rfl
  · have q : e.1 = 2 := congrArg (fun z : DEntry => z.1) h
    have e1 := spec_VecText_ok (hg.1 q)
    have hl := vecT_length e.2.1
    have he := entL_two q
    refine ⟨?_, by rw [he]; simp [hl, wMov]⟩
    unfold spec_l08Line
    rw [iEq_neg (a := e.1) (b := 1) (by omega), iEq_pos (a := e.1) (b := 2) q, e1]
    simp only [cond_true, cond_false, Option.bind_some]
    rw [strRoom_len (by rw [hl]; simp), strRoom_len (by unfold strCat; simp [hl])]
    rw [he]
    rfl
  · have q : e.1 = 3 := congrArg (fun z : DEntry => z.1) h
    obtain ⟨g0, g1, g2⟩ := hg.2.1 q
    have he := entL_three q
    have v0 : Vec.getD 3 e.2.2.1 0 (0 : Int) = e.2.2.1.1 := rfl
    have v1 : Vec.getD 3 e.2.2.1 1 (0 : Int) = e.2.2.1.2.1 := rfl
    have v2 : Vec.getD 3 e.2.2.1 2 (0 : Int) = e.2.2.1.2.2.1 := rfl
    have q1 : iEq e.1 1 = false := iEq_neg (by omega)
    have q2 : iEq e.1 2 = false := iEq_neg (by omega)
    have q3 : iEq e.1 3 = true := iEq_pos q
    unfold spec_l08Line
    rw [he, v0, v1, v2, q1, q2, q3]
    generalize e.2.2.1.1 = c0 at g0
    generalize e.2.2.1.2.1 = c1 at g1
    generalize e.2.2.1.2.2.1 = c2 at g2
    have w0 : iWrap .i64 c0 = c0 := wrap_i64 (by omega) (by omega)
    have w1 : iWrap .i64 c1 = c1 := wrap_i64 (by omega) (by omega)
    have w2 : iWrap .i64 c2 = c2 := wrap_i64 (by omega) (by omega)
    have s0 := spec_l08Signed_ok g0.1 g0.2
    have s1 := spec_l08Signed_ok g1.1 g1.2
    have s2 := spec_l08Signed_ok g2.1 g2.2
    have m0 := itoa_len (n := c0) (by omega) (by omega)
    have m1 := itoa_len (n := c1) (by omega) (by omega)
    have m2 := itoa_len (n := c2) (by omega) (by omega)
    refine ⟨?_, by simp [wFi]; omega⟩
    simp only [cond_true, cond_false]
    rw [w0, w1, w2, s0]
    simp only [Option.bind_some]
    rw [strRoom_len (by simp; omega), strRoom_len (by unfold strCat; simp; omega), s1]
    simp only [Option.bind_some, cond_true]
    rw [strRoom_len (by unfold strCat; simp; omega), strRoom_len (by unfold strCat; simp; omega), s2]
    simp only [Option.bind_some, cond_true]
    rw [strRoom_len (by unfold strCat; simp; omega), strRoom_len (by unfold strCat; simp; omega)]
    rfl
  · have q : e.1 = 4 := congrArg (fun z : DEntry => z.1) h
    have qk : e.2.2.2.1 = k := congrArg (fun z : DEntry => z.2.2.2.1) h
    have hk : k ≤ 999 := by rw [iSub_eq (by omega) (by omega)] at k1; omega
    have g := hg.2.2 q
    have e1 := hex_ok8 g
    have hl := hex8_length e.2.2.2.2.1
    have he := entL_four q
    have hd := spec_Decimal_itoa (n := e.2.2.2.1) (by omega) (by omega)
    have m0 := itoa_len (n := e.2.2.2.1) (by omega) (by omega)
    refine ⟨?_, by rw [he]; simp [wRan, hl]; omega⟩
    unfold spec_l08Line
    rw [iEq_neg (a := e.1) (b := 1) (by omega), iEq_neg (a := e.1) (b := 2) (by omega), iEq_neg (a := e.1) (b := 3) (by omega), hd]
    simp only [cond_false, Option.bind_some]
    rw [strRoom_len (by simp; omega), strRoom_len (by unfold strCat; simp; omega), e1]
    simp only [Option.bind_some, cond_true]
    rw [strRoom_len (by unfold strCat; simp; omega), strRoom_len (by unfold strCat; simp; omega), he]
    rfl

/-! ### the reference's text of a log -/
theorem headL_eq (a : Int) (v : Vec 3 Nat) : headL a v = wLog ++ [32] ++ Lib.itoa a ++ [32] ++ vecT v := by
  unfold headL
  rw [vecT_join]
  unfold vecW
  simp [joinC]
theorem beaL_eq (v : Vec 3 Nat) : beaL v = wBea ++ [32] ++ vecT v := by
  unfold beaL
  rw [vecT_join]
  unfold vecW
  simp [joinC]
theorem linesT_append (A B : List (List UInt8)) : linesT (A ++ B) = linesT A ++ linesT B := by unfold linesT; rw [List.flatMap_append]
theorem linesT_one (x : List UInt8) : linesT [x] = x ++ [10] := by unfold linesT; simp
theorem spec_l08Text_ok {l : DLog} (hv : logB l = true) (hg : goodL l) : spec_l08Text l = some ((logT l, ()), ()) := by
  obtain ⟨a, v, B, E, ⟨⟩⟩ := l
  have hv' := hv
  unfold logB frameB at hv'
  simp only [Bool.and_eq_true, List.all_eq_true, iLe_true, lenI_eq] at hv'
  obtain ⟨⟨⟨ha0, ha1⟩, -, hb6, -⟩, he1200, heach⟩ := hv'
  obtain ⟨gv, gB, gE⟩ := hg
  simp only at gv gB gE heach he1200 hb6 ha0 ha1
  have hd := spec_Decimal_itoa (n := a) (by omega) (by omega)
  have m0 := itoa_len (n := a) (by omega) (by omega)
  have e1 := spec_VecText_ok gv
  have hl := vecT_length v
  have hbl : ∀ x ∈ B.map beaL, x.length ≤ 100 := by
    intro x hx
    obtain ⟨u, -, rfl⟩ := List.mem_map.1 hx
    rw [beaL_eq]; simp [wBea, vecT_length]
  have hel : ∀ x ∈ E.map entL, x.length ≤ 100 := by
    intro x hx
    obtain ⟨u, hu, rfl⟩ := List.mem_map.1 hx
    exact (spec_l08Line_ok (n := lenI B) (by rw [lenI_eq]; omega) (by rw [lenI_eq]; omega) (heach u hu) (gE u hu)).2
  have phase2 : ∀ (d j : Nat) (out : List UInt8), j + d = E.length → out.length ≤ 10000 + 200 * j → run (spec_l08Text_l7 (a, v, B, E, ())) (out, (j : Int), ()) = some ((out ++ linesT ((E.drop j).map entL), ()), ()) := by
    intro d
    induction d with
    | zero =>
      intro j out hj ho
      have e1 : iLt (j : Int) (lenI E) = false := iLt_neg (by rw [lenI_eq]; omega)
      rw [List.drop_eq_nil_of_le (by omega)]
      refine run_done ?_
      unfold spec_l08Text_l7
      simp only
      rw [e1]
      simp [linesT]
    | succ d ih =>
      intro j out hj ho
      have hjE : j < E.length := by omega
      have e1 : iLt (j : Int) (lenI E) = true := iLt_pos (by rw [lenI_eq]; omega)
      have e2 : inB (j : Int) E.length = true := inB_pos hjE
      have e5 : iAdd .i64 (j : Int) 1 = ((j + 1 : Nat) : Int) := iAdd_one hjE (by omega)
      obtain ⟨k1, k2⟩ := spec_l08Line_ok (n := lenI B) (by rw [lenI_eq]; omega) (by rw [lenI_eq]; omega) (heach _ (List.getElem_mem hjE)) (gE _ (List.getElem_mem hjE))
      have hgd : List.getD E (j : Int).toNat ((0, (0, 0, 0, ()), (0, 0, 0, ()), 0, 0, ()) : DEntry) = E[j] := by rw [Int.toNat_natCast]; exact getD_of hjE
      have st : spec_l08Text_l7 (a, v, B, E, ()) (out, (j : Int), ()) = some (.inl (out ++ (entL E[j] ++ [10]), ((j + 1 : Nat) : Int), ())) := by
        unfold spec_l08Text_l7
        simp only
        rw [e1, e2, hgd, k1, e5]
        simp only [cond_true, Option.bind_some]
        rw [strRoom_len (by simp; omega)]
        rfl
      rw [run_step st, ih (j + 1) _ (by omega) (by simp; omega)]
      have hd : E.drop j = E[j] :: E.drop (j + 1) := List.drop_eq_getElem_cons hjE
      rw [hd, List.map_cons]
      have e : linesT (entL E[j] :: (E.drop (j + 1)).map entL) = (entL E[j] ++ [10]) ++ linesT ((E.drop (j + 1)).map entL) := by unfold linesT; rw [List.flatMap_cons]
      rw [e]
      simp
  have phase1 : ∀ (d i : Nat) (out : List UInt8), i + d = B.length → out.length ≤ 1000 + 200 * i → run (spec_l08Text_l3 (a, v, B, E, ())) (out, (i : Int), ()) = some ((out ++ linesT ((B.drop i).map beaL) ++ linesT (E.map entL), ()), ()) := by
    intro d
    induction d with
    | zero =>
      intro i out hi ho
      have e1 : iLt (i : Int) (lenI B) = false := iLt_neg (by rw [lenI_eq]; omega)
      have := phase2 E.length 0 out (by omega) (by omega)
      rw [List.drop_zero] at this
      rw [List.drop_eq_nil_of_le (by omega)]
      have hz : linesT (List.map beaL []) = [] := rfl
      rw [hz, List.append_nil, ← this]
      rw [run_eq]
      have : spec_l08Text_l3 (a, v, B, E, ()) (out, (i : Int), ()) = Option.map Sum.inr (run (spec_l08Text_l7 (a, v, B, E, ())) (out, (0 : Int), ())) := by
        unfold spec_l08Text_l3
        simp only
        rw [e1]
        rfl
      rw [this]
      cases run (spec_l08Text_l7 (a, v, B, E, ())) (out, (0 : Int), ()) <;> rfl
    | succ d ih =>
      intro i out hi ho
      have hiB : i < B.length := by omega
      have e1 : iLt (i : Int) (lenI B) = true := iLt_pos (by rw [lenI_eq]; omega)
      have e2 : inB (i : Int) B.length = true := inB_pos hiB
      have e5 : iAdd .i64 (i : Int) 1 = ((i + 1 : Nat) : Int) := iAdd_one hiB (by omega)
      have k1 := spec_VecText_ok (gB _ (List.getElem_mem hiB))
      have hvl := vecT_length B[i]
      have hgd : List.getD B (i : Int).toNat ((0, 0, 0, ()) : Vec 3 Nat) = B[i] := by rw [Int.toNat_natCast]; exact getD_of hiB
      have st : spec_l08Text_l3 (a, v, B, E, ()) (out, (i : Int), ()) = some (.inl (out ++ (beaL B[i] ++ [10]), ((i + 1 : Nat) : Int), ())) := by
        unfold spec_l08Text_l3
        simp only
        rw [e1, e2, hgd, k1, e5]
        simp only [cond_true, Option.bind_some]
        rw [strRoom_len (by simp [hvl]), strRoom_len (by unfold strCat; simp [hvl]), strRoom_len (by unfold strCat; simp [hvl]; omega), beaL_eq]
        rfl
      rw [run_step st, ih (i + 1) _ (by omega) (by rw [beaL_eq]; simp [wBea, hvl]; omega)]
      have hd : B.drop i = B[i] :: B.drop (i + 1) := List.drop_eq_getElem_cons hiB
      rw [hd, List.map_cons]
      have e : linesT (beaL B[i] :: (B.drop (i + 1)).map beaL) = (beaL B[i] ++ [10]) ++ linesT ((B.drop (i + 1)).map beaL) := by unfold linesT; rw [List.flatMap_cons]
      rw [e]
      simp
  have := phase1 B.length 0 (headL a v ++ [10]) (by omega) (by rw [headL_eq]; simp [wLog, hl]; omega)
  rw [List.drop_zero] at this
  have hlog : logT (a, v, B, E, ()) = headL a v ++ [10] ++ linesT (B.map beaL) ++ linesT (E.map entL) := by
    unfold logT logL
    show linesT ([headL a v] ++ (B.map beaL ++ E.map entL)) = _
    rw [linesT_append, linesT_append, linesT_one]
    simp
  rw [hlog, ← this]
  unfold spec_l08Text
  simp only
  rw [hd]
  simp only [Option.bind_some]
  rw [strRoom_len (by simp; omega), strRoom_len (by unfold strCat; simp; omega), e1]
  simp only [Option.bind_some, cond_true]
  rw [strRoom_len (by unfold strCat; simp [hl]; omega), strRoom_len (by unfold strCat; simp [hl]; omega), headL_eq]
  rfl

theorem three_list {L : List Nat} (h : L.length = 3) : ∃ a b c, L = [a, b, c] := by
  match L, h with
  | [a, b, c], _ => exact ⟨a, b, c, rfl⟩

theorem splitC_lenL {c : UInt8} {s : List UInt8} (h : s.length ≤ 1048576) : (splitC c s).length ≤ 1048577 := by
  rw [splitC_length]
  have := List.count_le_length (a := c) (l := s)
  omega

theorem itoa_numOK {n : Int} (h : 0 ≤ n) (h1 : n ≤ 999999) : numOK 999999 (Lib.itoa n) = true ∧ (valD 0 (Lib.itoa n) : Int) = n := by
  rw [itoa_pos h]
  refine ⟨numOK_iff.2 ⟨n.toNat, by omega, rfl⟩, ?_⟩
  rw [(decDigits_val' n.toNat).2.1]
  omega
end Go.Proofs.YtildomllnnnofaaDoor
