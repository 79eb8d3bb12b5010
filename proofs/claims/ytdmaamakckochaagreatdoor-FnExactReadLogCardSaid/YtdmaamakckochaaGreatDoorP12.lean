/- Functions of the program and of the reference in plain terms. -/
import Derived.Test.YtdmaamakckochaaGreatDoorP11
namespace Go.Proofs.YtdmaamakckochaaGreatDoor
open Go Go.Tm
set_option linter.unusedVariables false
set_option linter.unusedSimpArgs false
set_option linter.unusedSectionVars false
/-! ### the reference's texts -/
theorem goodN_lt {a : Nat} (h : goodN a) : a < 4294967296 := (numR_text h).1
theorem hex_ok8 {a : Nat} (h : goodN a) : spec_l01Hex a = some ((hex8 a, ()), ()) := spec_l01Hex_ok (goodN_lt h)
theorem hex8_length (a : Nat) : (hex8 a).length = 8 := hexP_length 8 _
def vecT (v : Vec 3 Nat) : List UInt8 := hex8 v.1 ++ [32] ++ hex8 v.2.1 ++ [32] ++ hex8 v.2.2.1
theorem vecT_join (v : Vec 3 Nat) : vecT v = joinC 32 (vecW v) := by
  unfold vecT vecW
  simp [joinC]
theorem vecT_length (v : Vec 3 Nat) : (vecT v).length = 26 := by
  unfold vecT
  simp [hex8_length]

theorem strRoom_len {a b : List UInt8} (h : a.length + b.length ≤ 1000000000) : strRoom a b = true := strRoom_ok (by omega)

theorem spec_VecText_ok {v : Vec 3 Nat} (h : goodV v) : spec_VecText v = some ((vecT v, ()), ()) := by
  obtain ⟨a, b, c, ⟨⟩⟩ := v
  obtain ⟨ha, hb, hc⟩ := h
  have l0 : lenI ([a, b, c] : List Nat) = 3 := rfl
  have step0 : spec_l01Row_l3 [a, b, c] (([] : List UInt8), (0 : Int), ()) = some (.inl (hex8 a, (1 : Int), ())) := by
    unfold spec_l01Row_l3
    simp only
    rw [l0, show iLt (0 : Int) 3 = true from rfl, show iLt 0 (0 : Int) = false from rfl, show inB 0 ([a, b, c] : List Nat).length = true from rfl]
    simp only [cond_true, cond_false]
    rw [show List.getD [a, b, c] (0 : Int).toNat (0 : Nat) = a from rfl, hex_ok8 ha]
    simp only [Option.bind_some]
    rw [strRoom_len (by rw [hex8_length]; simp), show iAdd .i64 (0 : Int) 1 = 1 from by decide]
    rfl
  have step1 : spec_l01Row_l3 [a, b, c] (hex8 a, (1 : Int), ()) = some (.inl (hex8 a ++ [32] ++ hex8 b, (2 : Int), ())) := by
    unfold spec_l01Row_l3
    simp only
    rw [l0, show iLt (1 : Int) 3 = true from rfl, show iLt 0 (1 : Int) = true from rfl, show inB 1 ([a, b, c] : List Nat).length = true from rfl, strRoom_len (a := hex8 a) (b := [32]) (by rw [hex8_length]; simp)]
    simp only [cond_true, cond_false]
    rw [show List.getD [a, b, c] (1 : Int).toNat (0 : Nat) = b from rfl, hex_ok8 hb]
    simp only [Option.bind_some]
    rw [strRoom_len (by unfold strCat; simp [hex8_length]), show iAdd .i64 (1 : Int) 1 = 2 from by decide]
    rfl
  have step2 : spec_l01Row_l3 [a, b, c] (hex8 a ++ [32] ++ hex8 b, (2 : Int), ()) = some (.inl (hex8 a ++ [32] ++ hex8 b ++ [32] ++ hex8 c, (3 : Int), ())) := by
    unfold spec_l01Row_l3
    simp only
    rw [l0, show iLt (2 : Int) 3 = true from rfl, show iLt 0 (2 : Int) = true from rfl, show inB 2 ([a, b, c] : List Nat).length = true from rfl, strRoom_len (a := hex8 a ++ [32] ++ hex8 b) (b := [32]) (by simp [hex8_length])]
    simp only [cond_true, cond_false]
    rw [show List.getD [a, b, c] (2 : Int).toNat (0 : Nat) = c from rfl, hex_ok8 hc]
    simp only [Option.bind_some]
    rw [strRoom_len (by unfold strCat; simp [hex8_length]), show iAdd .i64 (2 : Int) 1 = 3 from by decide]
    rfl
  have step3 : spec_l01Row_l3 [a, b, c] (hex8 a ++ [32] ++ hex8 b ++ [32] ++ hex8 c, (3 : Int), ()) = some (.inr ((hex8 a ++ [32] ++ hex8 b ++ [32] ++ hex8 c, ()), ())) := by
    unfold spec_l01Row_l3
    simp only
    rw [l0]
    rfl
  have hr : spec_l01Row [a, b, c] = some ((vecT (a, b, c, ()), ()), ()) := by
    unfold spec_l01Row
    rw [run_step step0, run_step step1, run_step step2, run_done step3]
    rfl
  unfold spec_VecText
  show (spec_l01Row [a, b, c]).bind _ = _
  rw [hr]
  rfl

theorem itoa_len {n : Int} (h : -999999999 ≤ n) (h1 : n ≤ 999999999) : (Lib.itoa n).length ≤ 20 := by
  by_cases h0 : 0 ≤ n
  · rw [itoa_pos h0]
    have := (spec_Decimal_ok (n := n.toNat) (by omega)).2
    omega
  · obtain ⟨u, rfl⟩ : ∃ u : Nat, n = -(u : Int) := ⟨n.natAbs, by omega⟩
    rw [Lib.itoa_neg u (by omega)]
    have := (spec_Decimal_ok (n := u) (by omega)).2
    simp
    omega

theorem spec_Decimal_itoa {n : Int} (h : 0 ≤ n) (h1 : n ≤ 999999999) : spec_Decimal n = some ((Lib.itoa n, ()), ()) := by
  obtain ⟨u, rfl⟩ := Int.eq_ofNat_of_zero_le h
  rw [(spec_Decimal_ok (n := u) (by omega)).1, itoa_nat]

theorem spec_l08Signed_ok {n : Int} (h : -32768 ≤ n) (h1 : n ≤ 32767) : spec_l08Signed n = some ((Lib.itoa n, ()), ()) := by
  unfold spec_l08Signed
  by_cases h0 : 0 ≤ n
  · rw [iLt_neg (by omega), spec_Decimal_itoa h0 (by omega)]
    rfl
  · obtain ⟨u, rfl⟩ : ∃ u : Nat, n = -(u : Int) := ⟨n.natAbs, by omega⟩
    have e : iSub .i64 0 (-(u : Int)) = (u : Int) := (iSub_eq (by omega) (by omega)).trans (by omega)
    have hd := spec_Decimal_ok (n := u) (by omega)
    rw [iLt_pos (by omega), e, hd.1]
    simp only [cond_true, Option.bind_some]
    rw [strRoom_len (by simp; omega), Lib.itoa_neg u (by omega)]
    rfl

theorem entL_two {e : DEntry} (h : e.1 = 2) : entL e = wMov ++ [32] ++ vecT e.2.1 := by
  unfold entL entW
  rw [iEq_neg (a := e.1) (b := 1) (by omega), iEq_pos (a := e.1) (b := 2) h]
  simp only [cond_true, cond_false]
  rw [vecT_join]
  unfold vecW
  simp [joinC]
theorem entL_three {e : DEntry} (h : e.1 = 3) : entL e = wFi ++ [32] ++ Lib.itoa e.2.2.1.1 ++ [32] ++ Lib.itoa e.2.2.1.2.1 ++ [32] ++ Lib.itoa e.2.2.1.2.2.1 := by
  unfold entL entW
  rw [iEq_neg (a := e.1) (b := 1) (by omega), iEq_neg (a := e.1) (b := 2) (by omega), iEq_pos (a := e.1) (b := 3) h]
  simp only [cond_true, cond_false]
  simp [joinC]
theorem entL_four {e : DEntry} (h : e.1 = 4) : entL e = wRan ++ [32] ++ Lib.itoa e.2.2.2.1 ++ [32] ++ hex8 e.2.2.2.2.1 := by
  unfold entL entW
  rw [iEq_neg (a := e.1) (b := 1) (by omega), iEq_neg (a := e.1) (b := 2) (by omega), iEq_neg (a := e.1) (b := 3) (by omega)]
  simp only [cond_false]
  simp [joinC]
theorem entL_one {e : DEntry} (h : e.1 = 1) : entL e = wTick := by
  unfold entL entW
  rw [iEq_pos (a := e.1) (b := 1) h]
  rfl

theorem spec_l08Line_ok {n : Int} {e : DEntry} (hn : 0 ≤ n) (hn1 : n ≤ 1000) (hv : entryB n e = true) (hg : goodE e) : spec_l08Line e = some ((entL e ++ [10], ()), ()) ∧ (entL e).length ≤ 100 := by
  rcases entry_kind hv with h | ⟨v, h, -⟩ | ⟨c, h⟩ | ⟨k, a, h, k0, k1, -⟩
  · have q : e.1 = 1 := congrArg (fun z : DEntry => z.1) h
    have he := entL_one q
    refine ⟨?_, by rw [he]; decide⟩
    unfold spec_l08Line
    rw [iEq_pos (a := e.1) (b := 1) q, he]
    rfl
  · have q : e.1 = 2 := congrArg (fun z : DEntry => z.1) h
    have e1 := spec_VecText_ok (hg.1 q)
    have hl := vecT_length e.2.1
    have he := entL_two q
    refine ⟨?_, by rw [he]; simp [hl, wMov]⟩
    unfold spec_l08Line
    rw [iEq_neg (a := e.1) (b := 1) (by omega), iEq_pos (a := e.1) (b := 2) q, e1]
    simp only [cond_true, cond_false, Option.bind_some]
    rw [strRoom_len (by rw [hl]; simp), strRoom_len (by unfold strCat; simp [hl])]
    rw [he]
    rfl
  · have q : e.1 = 3 := congrArg (fun z : DEntry => z.1) h
    obtain ⟨g0, g1, g2⟩ := hg.2.1 q
    have he := entL_three q
    have v0 : Vec.getD 3 e.2.2.1 0 (0 : Int) = e.2.2.1.1 := rfl
    have v1 : Vec.getD 3 e.2.2.1 1 (0 : Int) = e.2.2.1.2.1 := rfl
    have v2 : Vec.getD 3 e.2.2.1 2 (0 : Int) = e.2.2.1.2.2.1 := rfl
    have q1 : iEq e.1 1 = false := iEq_neg (by omega)
    have q2 : iEq e.1 2 = false := iEq_neg (by omega)
    have q3 : iEq e.1 3 = true := iEq_pos q
    unfold spec_l08Line
    rw [he, v0, v1, v2, q1, q2, q3]
    generalize e.2.2.1.1 = c0 at g0
    generalize e.2.2.1.2.1 = c1 at g1
    generalize e.2.2.1.2.2.1 = c2 at g2
    have w0 : iWrap .i64 c0 = c0 := wrap_i64 (by omega) (by omega)
    have w1 : iWrap .i64 c1 = c1 := wrap_i64 (by omega) (by omega)
    have w2 : iWrap .i64 c2 = c2 := wrap_i64 (by omega) (by omega)
    have s0 := spec_l08Signed_ok g0.1 g0.2
    have s1 := spec_l08Signed_ok g1.1 g1.2
    have s2 := spec_l08Signed_ok g2.1 g2.2
    have m0 := itoa_len (n := c0) (by omega) (by omega)
    have m1 := itoa_len (n := c1) (by omega) (by omega)
    have m2 := itoa_len (n := c2) (by omega) (by omega)
    refine ⟨?_, by simp [wFi]; omega⟩
    simp only [cond_true, cond_false]
    rw [w0, w1, w2, s0]
    simp only [Option.bind_some]
    rw [strRoom_len (by simp; omega), strRoom_len (by unfold strCat; simp; omega), s1]
    simp only [Option.bind_some, cond_true]
    rw [strRoom_len (by unfold strCat; simp; omega), strRoom_len (by unfold strCat; simp; omega), s2]
    simp only [Option.bind_some, cond_true]
    rw [strRoom_len (by unfold strCat; simp; omega), strRoom_len (by unfold strCat; simp; omega)]
    rfl
  · have q : e.1 = 4 := congrArg (fun z : DEntry => z.1) h
    have qk : e.2.2.2.1 = k := congrArg (fun z : DEntry => z.2.2.2.1) h
    have hk : k ≤ 999 := by rw [iSub_eq (by omega) (by omega)] at k1; omega
    have g := hg.2.2 q
    have e1 := hex_ok8 g
    have hl := hex8_length e.2.2.2.2.1
    have he := entL_four q
    have hd := spec_Decimal_itoa (n := e.2.2.2.1) (by omega) (by omega)
    have m0 := itoa_len (n := e.2.2.2.1) (by omega) (by omega)
    refine ⟨?_, by rw [he]; simp [wRan, hl]; omega⟩
    unfold spec_l08Line
    rw [iEq_neg (a := e.1) (b := 1) (by omega), iEq_neg (a := e.1) (b := 2) (by omega), iEq_neg (a := e.1) (b := 3) (by omega), hd]
    simp only [cond_false, Option.bind_some]
    rw [strRoom_len (by simp; omega), strRoom_len (by unfold strCat; simp; omega), e1]
    simp only [Option.bind_some, cond_true]
    rw [strRoom_len (by unfold strCat; simp; omega), strRoom_len (by unfold strCat; simp; omega), he]
    rfl

/-! ### the reference's text of a log -/
theorem headL_eq (a : Int) (v : Vec 3 Nat) : headL a v = wLog ++ [32] ++ Lib.itoa a ++ [32] ++ vecT v := by
  unfold headL
  rw [vecT_join]
  unfold vecW
  simp [joinC]
theorem beaL_eq (v : Vec 3 Nat) : beaL v = wBea ++ [32] ++ vecT v := by
  unfold beaL
  rw [vecT_join]
  unfold vecW
  simp [joinC]
theorem linesT_append (A B : List (List UInt8)) : linesT (A ++ B) = linesT A ++ linesT B := by unfold linesT; rw [List.flatMap_append]
theorem linesT_one (x : List UInt8) : linesT [x] = x ++ [10] := by unfold linesT; simp
theorem spec_l08Text_ok {l : DLog} (hv : logB l = true) (hg : goodL l) : spec_l08Text l = some ((logT l, ()), ()) := by
  obtain ⟨a, v, B, E, ⟨⟩⟩ := l
  have hv' := hv
  unfold logB frameB at hv'
  simp only [Bool.and_eq_true, List.all_eq_true, iLe_true, lenI_eq] at hv'
  obtain ⟨⟨⟨ha0, ha1⟩, -, hb6, -⟩, he1200, heach⟩ := hv'
  obtain ⟨gv, gB, gE⟩ := hg
  simp only at gv gB gE heach he1200 hb6 ha0 ha1
  have hd := spec_Decimal_itoa (n := a) (by omega) (by omega)
  have m0 := itoa_len (n := a) (by omega) (by omega)
  have e1 := spec_VecText_ok gv
  have hl := vecT_length v
  have hbl : ∀ x ∈ B.map beaL, x.length ≤ 100 := by
    intro x hx
    obtain ⟨u, -, rfl⟩ := List.mem_map.1 hx
    rw [beaL_eq]; simp [wBea, vecT_length]
  have hel : ∀ x ∈ E.map entL, x.length ≤ 100 := by
    intro x hx
    obtain ⟨u, hu, rfl⟩ := List.mem_map.1 hx
    exact (spec_l08Line_ok (n := lenI B) (by rw [lenI_eq]; omega) (by rw [lenI_eq]; omega) (heach u hu) (gE u hu)).2
  have phase2 : ∀ (d j : Nat) (out : List UInt8), j + d = E.length → out.length ≤ 10000 + 200 * j → run (spec_l08Text_l7 (a, v, B, E, ())) (out, (j : Int), ()) = some ((out ++ linesT ((E.drop j).map entL), ()), ()) := by
    intro d
    induction d with
    | zero =>
      intro j out hj ho
      have e1 : iLt (j : Int) (lenI E) = false := iLt_neg (by rw [lenI_eq]; omega)
      rw [List.drop_eq_nil_of_le (by omega)]
      refine run_done ?_
      unfold spec_l08Text_l7
      simp only
      rw [e1]
      simp [linesT]
    | succ d ih =>
      intro j out hj ho
      have hjE : j < E.length := by omega
      have e1 : iLt (j : Int) (lenI E) = true := iLt_pos (by rw [lenI_eq]; omega)
      have e2 : inB (j : Int) E.length = true := inB_pos hjE
      have e5 : iAdd .i64 (j : Int) 1 = ((j + 1 : Nat) : Int) := iAdd_one hjE (by omega)
      obtain ⟨k1, k2⟩ := spec_l08Line_ok (n := lenI B) (by rw [lenI_eq]; omega) (by rw [lenI_eq]; omega) (heach _ (List.getElem_mem hjE)) (gE _ (List.getElem_mem hjE))
      have hgd : List.getD E (j : Int).toNat ((0, (0, 0, 0, ()), (0, 0, 0, ()), 0, 0, ()) : DEntry) = E[j] := by rw [Int.toNat_natCast]; exact getD_of hjE
      have st : spec_l08Text_l7 (a, v, B, E, ()) (out, (j : Int), ()) = some (.inl (out ++ (entL E[j] ++ [10]), ((j + 1 : Nat) : Int), ())) := by
        unfold spec_l08Text_l7
        simp only
        rw [e1, e2, hgd, k1, e5]
        simp only [cond_true, Option.bind_some]
        rw [strRoom_len (by simp; omega)]
        rfl
      rw [run_step st, ih (j + 1) _ (by omega) (by simp; omega)]
      have hd : E.drop j = E[j] :: E.drop (j + 1) := List.drop_eq_getElem_cons hjE
      rw [hd, List.map_cons]
      have e : linesT (entL E[j] :: (E.drop (j + 1)).map entL) = (entL E[j] ++ [10]) ++ linesT ((E.drop (j + 1)).map entL) := by unfold linesT; rw [List.flatMap_cons]
      rw [e]
      simp
  have phase1 : ∀ (d i : Nat) (out : List UInt8), i + d = B.length → out.length ≤ 1000 + 200 * i → run (spec_l08Text_l3 (a, v, B, E, ())) (out, (i : Int), ()) = some ((out ++ linesT ((B.drop i).map beaL) ++ linesT (E.map entL), ()), ()) := by
    intro d
    induction d with
    | zero =>
      intro i out hi ho
      have e1 : iLt (i : Int) (lenI B) = false := iLt_neg (by rw [lenI_eq]; omega)
      have := phase2 E.length 0 out (by omega) (by omega)
      rw [List.drop_zero] at this
      rw [List.drop_eq_nil_of_le (by omega)]
      have hz : linesT (List.map beaL []) = [] := rfl
      rw [hz, List.append_nil, ← this]
      rw [run_eq]
      have : spec_l08Text_l3 (a, v, B, E, ()) (out, (i : Int), ()) = Option.map Sum.inr (run (spec_l08Text_l7 (a, v, B, E, ())) (out, (0 : Int), ())) := by
        unfold spec_l08Text_l3
        simp only
        rw [e1]
        rfl
      rw [this]
      cases run (spec_l08Text_l7 (a, v, B, E, ())) (out, (0 : Int), ()) <;> rfl
    | succ d ih =>
      intro i out hi ho
      have hiB : i < B.length := by omega
      have e1 : iLt (i : Int) (lenI B) = true := iLt_pos (by rw [lenI_eq]; omega)
      have e2 : inB (i : Int) B.length = true := inB_pos hiB
      have e5 : iAdd .i64 (i : Int) 1 = ((i + 1 : Nat) : Int) := iAdd_one hiB (by omega)
      have k1 := spec_VecText_ok (gB _ (List.getElem_mem hiB))
      have hvl := vecT_length B[i]
      have hgd : List.getD B (i : Int).toNat ((0, 0, 0, ()) : Vec 3 Nat) = B[i] := by rw [Int.toNat_natCast]; exact getD_of hiB
      have st : spec_l08Text_l3 (a, v, B, E, ()) (out, (i : Int), ()) = some (.inl (out ++ (beaL B[i] ++ [10]), ((i + 1 : Nat) : Int), ())) := by
        unfold spec_l08Text_l3
        simp only
        rw [e1, e2, hgd, k1, e5]
        simp only [cond_true, Option.bind_some]
        rw [strRoom_len (by simp [hvl]), strRoom_len (by unfold strCat; simp [hvl]), strRoom_len (by unfold strCat; simp [hvl]; omega), beaL_eq]
        rfl
      rw [run_step st, ih (i + 1) _ (by omega) (by rw [beaL_eq]; simp [wBea, hvl]; omega)]
      have hd : B.drop i = B[i] :: B.drop (i + 1) := List.drop_eq_getElem_cons hiB
      rw [hd, List.map_cons]
      have e : linesT (beaL B[i] :: (B.drop (i + 1)).map beaL) = (beaL B[i] ++ [10]) ++ linesT ((B.drop (i + 1)).map beaL) := by unfold linesT; rw [List.flatMap_cons]
      rw [e]
      simp
  have := phase1 B.length 0 (headL a v ++ [10]) (by omega) (by rw [headL_eq]; simp [wLog, hl]; omega)
  rw [List.drop_zero] at this
  have hlog : logT (a, v, B, E, ()) = headL a v ++ [10] ++ linesT (B.map beaL) ++ linesT (E.map entL) := by
    unfold logT logL
    show linesT ([headL a v] ++ (B.map beaL ++ E.map entL)) = _
    rw [linesT_append, linesT_append, linesT_one]
    simp
  rw [hlog, ← this]
  unfold spec_l08Text
  simp only
  rw [hd]
  simp only [Option.bind_some]
  rw [strRoom_len (by simp; omega), strRoom_len (by unfold strCat; simp; omega), e1]
  simp only [Option.bind_some, cond_true]
  rw [strRoom_len (by unfold strCat; simp [hl]; omega), strRoom_len (by unfold strCat; simp [hl]; omega), headL_eq]
  rfl

/-! ### the reference's reading of words -/
theorem numbers_run {ws : List (List UInt8)} (hl : ws.length ≤ 1048577) : ∀ (r q : List (List UInt8)) (out : List Nat), ws = q ++ r → out.length = q.length → (∀ a ∈ out, goodN a) → q = out.map hex8 →
    ∃ (L : List Nat) (b : Bool), run (spec_l01Numbers_l3 ws) (out, (q.length : Int), ()) = some ((L, b, ()), ()) ∧ (b = true → L.length = ws.length ∧ (∀ a ∈ L, goodN a) ∧ ws = L.map hex8) ∧ (∀ L0 : List Nat, (∀ a ∈ L0, goodN a) → r = L0.map hex8 → b = true ∧ L = out ++ L0) := by
  intro r
  induction r with
  | nil =>
    intro q out e ho hg hq
    have e1 : iLt (q.length : Int) (lenI ws) = false := iLt_neg (by rw [lenI_eq, e]; simp)
    refine ⟨out, true, run_done ?_, fun _ => ⟨?_, hg, ?_⟩, fun L0 _ h => ⟨rfl, ?_⟩⟩
    · unfold spec_l01Numbers_l3
      simp only
      rw [e1]; rfl
    · rw [e, List.append_nil, ho]
    · rw [e, List.append_nil]; exact hq
    · have : L0 = [] := by simpa using h
      rw [this, List.append_nil]
  | cons w r ih =>
    intro q out e ho hg hq
    have hql : q.length < ws.length := by rw [e]; simp
    have e1 : iLt (q.length : Int) (lenI ws) = true := iLt_pos (by rw [lenI_eq]; omega)
    have e2 : inB (q.length : Int) ws.length = true := inB_pos hql
    have e3 : ws.getD q.length [] = w := by rw [e]; simp [List.getD_eq_getElem?_getD]
    have e5 : iAdd .i64 (q.length : Int) 1 = ((q.length + 1 : Nat) : Int) := iAdd_one hql (by omega)
    have hr : room (out.length + 1) 4 = true := room_pos (by omega)
    obtain ⟨y, k1, k2⟩ := spec_l01Read_ok w
    cases hn : numR w with
    | none =>
      rw [hn] at k1
      refine ⟨[], false, run_done ?_, fun h => (by cases h), fun L0 h1 h2 => ?_⟩
      · unfold spec_l01Numbers_l3
        simp only
        rw [e1, e2, Int.toNat_natCast, e3, k1]
        rfl
      · exfalso
        cases L0 with
        | nil => cases h2
        | cons a L0 =>
          have hw : w = hex8 a := (List.cons.inj h2).1
          have := h1 a (by simp)
          unfold goodN at this
          rw [← hw, hn] at this
          cases this
    | some a =>
      rw [hn] at k1
      have hya : y = a := k2 a hn
      subst hya
      obtain ⟨g1, g2⟩ := numR_good hn
      have st : spec_l01Numbers_l3 ws (out, (q.length : Int), ()) = some (.inl (out ++ [y], ((q.length + 1 : Nat) : Int), ())) := by
        unfold spec_l01Numbers_l3
        simp only
        rw [e1, e2, Int.toNat_natCast, e3, k1, e5]
        simp only [cond_true, Option.bind_some]
        rw [hr]
        rfl
      obtain ⟨L, b, h1, h2, h3⟩ := ih (q ++ [w]) (out ++ [y]) (by rw [e]; simp) (by simp [ho]) (fun a ha => by
        rcases List.mem_append.1 ha with h | h
        · exact hg a h
        · rw [List.mem_singleton] at h; rw [h]; exact g2) (by rw [List.map_append, ← hq]; simp [g1])
      rw [show (q ++ [w]).length = q.length + 1 by simp] at h1
      refine ⟨L, b, (run_step st).trans h1, h2, fun L0 h4 h5 => ?_⟩
      cases L0 with
      | nil => cases h5
      | cons z L0 =>
        obtain ⟨h6, h7⟩ := List.cons.inj h5
        obtain ⟨h8, h9⟩ := h3 L0 (fun a ha => h4 a (List.mem_cons_of_mem _ ha)) h7
        have hz : y = z := by
          have := h4 z (by simp)
          unfold goodN at this
          rw [← h6, hn] at this
          exact Option.some.inj this
        refine ⟨h8, ?_⟩
        rw [h9, hz]
        simp

theorem numbers_ok {ws : List (List UInt8)} (hl : ws.length ≤ 1048577) : ∃ (L : List Nat) (b : Bool), spec_l01Numbers ws = some ((L, b, ()), ()) ∧ (b = true → L.length = ws.length ∧ (∀ a ∈ L, goodN a) ∧ ws = L.map hex8) ∧ (∀ L0 : List Nat, (∀ a ∈ L0, goodN a) → ws = L0.map hex8 → b = true ∧ L = L0) := by
  obtain ⟨L, b, h1, h2, h3⟩ := numbers_run hl ws [] [] rfl rfl (fun a ha => by cases ha) rfl
  exact ⟨L, b, h1, h2, fun L0 h4 h5 => by have := h3 L0 h4 h5; simpa using this⟩

theorem three_list {L : List Nat} (h : L.length = 3) : ∃ a b c, L = [a, b, c] := by
  match L, h with
  | [a, b, c], _ => exact ⟨a, b, c, rfl⟩

theorem splitC_lenL {c : UInt8} {s : List UInt8} (h : s.length ≤ 1048576) : (splitC c s).length ≤ 1048577 := by
  rw [splitC_length]
  have := List.count_le_length (a := c) (l := s)
  omega

theorem spec_l01ReadVec_ok {s : List UInt8} (hs : s.length ≤ 1048576) : ∃ (v : Vec 3 Nat) (b : Bool), spec_l01ReadVec s = some ((v, b, ()), ()) ∧ (b = true → goodV v) ∧ (∀ v0, goodV v0 → s = joinC 32 (vecW v0) → v = v0 ∧ b = true) := by
  have hsp : spec_l01Split s 32 = some ((splitC 32 s, ()), ()) := spec_l01Split_ok 32 hs
  obtain ⟨L, b, h1, h2, h3⟩ := numbers_ok (splitC_lenL (c := 32) hs)
  unfold spec_l01ReadVec
  rw [hsp]
  simp only [Option.bind_some]
  rw [h1]
  simp only [Option.bind_some]
  have back : ∀ v0, goodV v0 → s = joinC 32 (vecW v0) → b = true ∧ L = [v0.1, v0.2.1, v0.2.2.1] := by
    intro v0 hg h0
    refine h3 [v0.1, v0.2.1, v0.2.2.1] (fun a ha => ?_) ?_
    · simp only [List.mem_cons, List.mem_nil_iff, or_false] at ha
      rcases ha with rfl | rfl | rfl
      · exact hg.1
      · exact hg.2.1
      · exact hg.2.2
    · rw [h0]
      exact split_join 32 _ (by simp [vecW]) (vecW_free (.inl rfl) v0)
  cases hb : b with
  | false => exact ⟨_, _, rfl, fun h => (by cases h), fun v0 hg h0 => by have := (back v0 hg h0).1; rw [hb] at this; cases this⟩
  | true =>
    cases h3' : iEq (lenI L) 3 with
    | false =>
      refine ⟨_, _, rfl, fun h => (by cases h), fun v0 hg h0 => ?_⟩
      rw [(back v0 hg h0).2] at h3'
      cases h3'
    | true =>
      obtain ⟨x, y, z, rfl⟩ := three_list (L := L) (by have : (L.length : Int) = 3 := by simpa [iEq, lenI] using h3'
                                                       omega)
      obtain ⟨-, hg, -⟩ := h2 hb
      refine ⟨(x, y, z, ()), true, rfl, fun _ => ⟨hg x (by simp), hg y (by simp), hg z (by simp)⟩, fun v0 hg0 h0 => ?_⟩
      have := (back v0 hg0 h0).2
      obtain ⟨v1, v2, v3, ⟨⟩⟩ := v0
      simp only [List.cons.injEq, and_true] at this
      obtain ⟨rfl, rfl, rfl⟩ := this
      exact ⟨rfl, rfl⟩

theorem itoa_numOK {n : Int} (h : 0 ≤ n) (h1 : n ≤ 999999) : numOK 999999 (Lib.itoa n) = true ∧ (valD 0 (Lib.itoa n) : Int) = n := by
  rw [itoa_pos h]
  refine ⟨numOK_iff.2 ⟨n.toNat, by omega, rfl⟩, ?_⟩
  rw [(decDigits_val' n.toNat).2.1]
  omega

/-- a count, as the reference reads it -/
theorem spec_l08Count_ok {w : List UInt8} (hw : w.length ≤ 1048576) : ∃ (n : Int) (b : Bool), spec_l08Count w = some ((n, b, ()), ()) ∧ (b = true → -32768 ≤ n ∧ n ≤ 32767) ∧ (∀ x, -32768 ≤ x → x ≤ 32767 → w = Lib.itoa x → n = x ∧ b = true) := by
  have pos : ∃ (n : Int) (b : Bool), ((spec_l08Whole w).bind fun y873 => bif (! y873.1.2.1) then some (((0 : Int), false, ()), ()) else
      bif (iLt 32767 (iMul .i64 1 y873.1.1)) then some (((0 : Int), false, ()), ()) else
      bif (iLt (iMul .i64 1 y873.1.1) (-32768 : Int)) then some (((0 : Int), false, ()), ()) else
      some (((iWrap .i16 (iMul .i64 1 y873.1.1)), true, ()), ())) = some ((n, b, ()), ()) ∧ (b = true → -32768 ≤ n ∧ n ≤ 32767) ∧ (∀ x, 0 ≤ x → x ≤ 32767 → w = Lib.itoa x → n = x ∧ b = true) := by
    obtain ⟨m, h1, h2⟩ := spec_l08Whole_ok w
    rw [h1]
    simp only [Option.bind_some]
    cases hn : numOK 999999 w with
    | false =>
      refine ⟨_, _, rfl, fun h => (by cases h), fun x h0 h3 h4 => ?_⟩
      rw [h4, (itoa_numOK h0 (by omega)).1] at hn
      cases hn
    | true =>
      have hm := h2 hn
      have hv : valD 0 w ≤ 999999 := by
        have := hn
        unfold numOK at this
        simp at this
        exact this.2
      have em : iMul .i64 1 m = m := by rw [iMul_eq (by omega) (by omega)]; omega
      simp only [Bool.not_true, cond_false, em]
      by_cases hbig : 32767 < m
      · rw [iLt_pos hbig]
        refine ⟨_, _, rfl, fun h => (by cases h), fun x h0 h3 h4 => ?_⟩
        have := (itoa_numOK h0 (by omega)).2
        rw [← h4] at this
        omega
      · rw [iLt_neg hbig, iLt_neg (by omega)]
        refine ⟨_, _, rfl, fun _ => ?_, fun x h0 h3 h4 => ?_⟩
        · rw [wrap16i (by omega) (by omega)]; omega
        · have := (itoa_numOK h0 (by omega)).2
          rw [← h4] at this
          rw [wrap16i (by omega) (by omega)]
          exact ⟨by omega, rfl⟩
  obtain ⟨n, b, p1, p2, p3⟩ := pos
  have neg_word : ∀ x : Int, x < 0 → Lib.itoa x = 45 :: Lib.decDigits x.natAbs := by
    intro x hx
    obtain ⟨u, rfl⟩ : ∃ u : Nat, x = -(u : Int) := ⟨x.natAbs, by omega⟩
    rw [Lib.itoa_neg u (by omega)]
    simp
  have pos_word : ∀ x : Int, 0 ≤ x → ∃ c r, Lib.itoa x = c :: r ∧ byteI c ≠ 45 := by
    intro x hx
    rw [itoa_pos hx]
    have h1 := (decDigits_val' x.toNat).1
    have h2 := decDigits_pos x.toNat
    cases hd : Lib.decDigits x.toNat with
    | nil => rw [hd] at h2; simp at h2
    | cons c r =>
      rw [hd, List.all_cons, Bool.and_eq_true] at h1
      have hc : 48 ≤ c.toNat ∧ c.toNat ≤ 57 := by simpa [digB] using h1.1
      exact ⟨c, r, rfl, by show ((c.toNat : Nat) : Int) ≠ 45; omega⟩
  unfold spec_l08Count
  cases w with
  | nil =>
    rw [show iLt 0 (lenI ([] : List UInt8)) = false from rfl]
    simp only [cond_false]
    refine ⟨n, b, p1, p2, fun x h0 h1 h2 => ?_⟩
    by_cases hx : x < 0
    · rw [neg_word x hx] at h2; cases h2
    · exact p3 x (by omega) h1 h2
  | cons c r =>
    have e1 : iLt 0 (lenI (c :: r)) = true := iLt_pos (by rw [lenI_eq, List.length_cons]; omega)
    have e2 : inB 0 (c :: r).length = true := inB_pos (i := 0) (by simp)
    have e3 : strAt (c :: r) 0 = byteI c := rfl
    rw [e1, e2, e3]
    simp only [cond_true]
    by_cases hc : byteI c = 45
    · rw [iEq_pos hc]
      have e4 : inS 1 (lenI (c :: r)) (c :: r).length = true := by unfold inS; rw [lenI_eq]; simp; omega
      have e5 : dropL (c :: r) 1 = r := rfl
      rw [e4, e5]
      simp only [cond_true]
      obtain ⟨m, h1, h2⟩ := spec_l08Whole_ok r
      rw [h1]
      simp only [Option.bind_some]
      have nonneg : ∀ x, 0 ≤ x → c :: r = Lib.itoa x → False := by
        intro x h0 h4
        obtain ⟨c', r', k1, k2⟩ := pos_word x h0
        rw [k1] at h4
        rw [(List.cons.inj h4).1] at hc
        exact k2 hc
      cases hn : numOK 999999 r with
      | false =>
        refine ⟨_, _, rfl, fun h => (by cases h), fun x h0 h3 h4 => ?_⟩
        exfalso
        by_cases hx : x < 0
        · rw [neg_word x hx] at h4
          have h5 := (List.cons.inj h4).2
          have : numOK 999999 r = true := numOK_iff.2 ⟨x.natAbs, by omega, h5⟩
          rw [this] at hn
          cases hn
        · exact nonneg x (by omega) h4
      | true =>
        have hm := h2 hn
        have hv : valD 0 r ≤ 999999 := by
          have := hn
          unfold numOK at this
          simp at this
          exact this.2
        have em : iMul .i64 (-1) m = -m := by rw [iMul_eq (by omega) (by omega)]; omega
        simp only [Bool.not_true, cond_false, em]
        rw [iLt_neg (show ¬ 32767 < -m by omega)]
        have val : ∀ x, x < 0 → c :: r = Lib.itoa x → -m = x := by
          intro x hx h4
          rw [neg_word x hx] at h4
          have h5 := (List.cons.inj h4).2
          have := (decDigits_val' x.natAbs).2.1
          rw [← h5] at this
          omega
        by_cases hbig : -m < -32768
        · rw [iLt_pos hbig]
          refine ⟨_, _, rfl, fun h => (by cases h), fun x h0 h3 h4 => ?_⟩
          exfalso
          by_cases hx : x < 0
          · have := val x hx h4; omega
          · exact nonneg x (by omega) h4
        · rw [iLt_neg hbig]
          refine ⟨_, _, rfl, fun _ => ?_, fun x h0 h3 h4 => ?_⟩
          · rw [wrap16i (by omega) (by omega)]; omega
          · by_cases hx : x < 0
            · have := val x hx h4
              rw [wrap16i (by omega) (by omega)]
              exact ⟨this, rfl⟩
            · exact (nonneg x (by omega) h4).elim
    · rw [iEq_neg hc]
      refine ⟨n, b, p1, p2, fun x h0 h1 h2 => ?_⟩
      by_cases hx : x < 0
      · rw [neg_word x hx] at h2
        rw [(List.cons.inj h2).1] at hc
        exact absurd rfl hc
      · exact p3 x (by omega) h1 h2

theorem number_itoa {n : Int} (h : 0 ≤ n) (h1 : n ≤ 999999) {w : List UInt8} (hw : w = Lib.itoa n) : spec_l01Number w = some ((n, true, ()), ()) := by
  obtain ⟨m, h2, h3⟩ := l01Number_val w
  have hn : numOK 999999999 w = true := by
    rw [hw, itoa_pos h]
    exact numOK_iff.2 ⟨n.toNat, by omega, rfl⟩
  have hv : (valD 0 w : Int) = n := by rw [hw]; exact (itoa_numOK h h1).2
  rw [h2, hn, h3 hn, hv]

theorem spec_l08Read_ok {s : List UInt8} (hs : s.length ≤ 1048576) : ∃ (e : DEntry) (b : Bool), spec_l08Read s = some ((e, b, ()), ()) ∧ (b = true → goodE e) ∧ (∀ e0 n, 0 ≤ n → n ≤ 1000 → entryB n e0 = true → goodE e0 → s = entL e0 → e = e0 ∧ b = true) := by
  have hsp : spec_l01Split s 32 = some ((splitC 32 s, ()), ()) := spec_l01Split_ok 32 hs
  have hall : ∀ w ∈ splitC 32 s, w.length ≤ 1048576 := fun w hw => Nat.le_trans (splitC_memL hw) hs
  have hlen := splitC_lenL (c := 32) hs
  have hwords : ∀ e0, s = entL e0 → splitC 32 s = entW e0 := fun e0 h => by
    rw [h]
    exact split_join 32 _ (entW_ne e0) (entW_free (.inl rfl) e0)
  obtain ⟨w, r, hw⟩ : ∃ w r, splitC 32 s = w :: r := by
    cases h : splitC 32 s with
    | nil => exact absurd h (splitC_ne 32 s)
    | cons w r => exact ⟨w, r, rfl⟩
  have i0 : inB 0 (w :: r).length = true := inB_pos (i := 0) (by simp)
  have g0 : List.getD (w :: r) 0 [] = w := rfl
  have kinds : ∀ (e0 : DEntry) (n : Int), entryB n e0 = true → w :: r = entW e0 → (e0 = (1, (0, 0, 0, ()), (0, 0, 0, ()), 0, 0, ()) ∧ w = wTick ∧ r = []) ∨ (∃ v : Vec 3 Nat, e0 = (2, v, (0, 0, 0, ()), 0, 0, ()) ∧ w = wMov ∧ r = vecW v) ∨ (∃ c0 c1 c2 : Int, e0 = (3, (0, 0, 0, ()), (c0, c1, c2, ()), 0, 0, ()) ∧ w = wFi ∧ r = [Lib.itoa c0, Lib.itoa c1, Lib.itoa c2]) ∨
      (∃ (k : Int) (a : Nat), e0 = (4, (0, 0, 0, ()), (0, 0, 0, ()), k, a, ()) ∧ 0 ≤ k ∧ k ≤ iSub .i64 n 1 ∧ w = wRan ∧ r = [Lib.itoa k, hex8 a]) := by
    intro e0 n hv h0
    rcases entry_kind hv with h | ⟨v, h, -⟩ | ⟨c, h⟩ | ⟨k, a, h, k0, k1, -⟩
    · refine .inl ⟨h, ?_⟩
      have h2 : entW e0 = [wTick] := (congrArg entW h).trans rfl
      rw [h2] at h0
      exact List.cons.inj h0
    · refine .inr (.inl ⟨v, h, ?_⟩)
      have h2 : entW e0 = wMov :: vecW v := (congrArg entW h).trans rfl
      rw [h2] at h0
      exact List.cons.inj h0
    · obtain ⟨c0, c1, c2, ⟨⟩⟩ := c
      refine .inr (.inr (.inl ⟨c0, c1, c2, h, ?_⟩))
      have h2 : entW e0 = [wFi, Lib.itoa c0, Lib.itoa c1, Lib.itoa c2] := (congrArg entW h).trans rfl
      rw [h2] at h0
      exact List.cons.inj h0
    · refine .inr (.inr (.inr ⟨k, a, h, k0, k1, ?_⟩))
      have h2 : entW e0 = [wRan, Lib.itoa k, hex8 a] := (congrArg entW h).trans rfl
      rw [h2] at h0
      exact List.cons.inj h0
  unfold spec_l08Read
  rw [hsp]
  simp only [Option.bind_some]
  rw [hw] at hall hlen hwords ⊢
  rw [i0, g0]
  simp only [cond_true]
  have goodZ : ∀ q : Int, q ≠ 2 → q ≠ 3 → q ≠ 4 → ∀ v c k a, goodE (q, v, c, k, a, ()) := fun q h2 h3 h4 v c k a => ⟨fun h => absurd h h2, fun h => absurd h h3, fun h => absurd h h4⟩
  by_cases h1 : w = wTick
  · rw [show sEq w [116, 105, 99, 107] = true from by rw [h1]; rfl]
    refine ⟨_, _, rfl, fun _ => goodZ 1 (by decide) (by decide) (by decide) _ _ _ _, fun e0 n hn0 hn hv hg h0 => ?_⟩
    rcases kinds e0 n hv (hwords e0 h0) with ⟨h, -, hr⟩ | ⟨v, h, hq, -⟩ | ⟨c0, c1, c2, h, hq, -⟩ | ⟨k, a, h, -, -, hq, -⟩
    · subst hr
      exact ⟨h.symm, rfl⟩
    · rw [h1] at hq; exact absurd hq (by decide)
    · rw [h1] at hq; exact absurd hq (by decide)
    · rw [h1] at hq; exact absurd hq (by decide)
  · rw [show sEq w [116, 105, 99, 107] = false from sEq_neL h1]
    simp only [cond_false]
    by_cases h2 : w = wMov
    · rw [show sEq w [109, 111, 118, 101] = true from by rw [h2]; rfl]
      have s1 : inS 1 (((w :: r).length : Nat) : Int) (w :: r).length = true := by unfold inS; simp; omega
      have dr : List.take ((w :: r).length - 1) (List.drop 1 (w :: r)) = r := by simp
      rw [s1, dr]
      simp only [cond_true]
      obtain ⟨L, b, k1, k2, k3⟩ := numbers_ok (ws := r) (by simp at hlen; omega)
      rw [k1]
      simp only [Option.bind_some]
      have back : ∀ v0 : Vec 3 Nat, goodV v0 → r = vecW v0 → b = true ∧ L = [v0.1, v0.2.1, v0.2.2.1] := fun v0 hg h0 => k3 [v0.1, v0.2.1, v0.2.2.1] (fun a ha => by
        simp only [List.mem_cons, List.mem_nil_iff, or_false] at ha
        rcases ha with rfl | rfl | rfl
        · exact hg.1
        · exact hg.2.1
        · exact hg.2.2) h0
      have main : ∀ e0 n, 0 ≤ n → n ≤ 1000 → entryB n e0 = true → goodE e0 → s = entL e0 → ∃ v0 : Vec 3 Nat, e0 = (2, v0, (0, 0, 0, ()), 0, 0, ()) ∧ b = true ∧ L = [v0.1, v0.2.1, v0.2.2.1] := by
        intro e0 n hn0 hn hv hg h0
        rcases kinds e0 n hv (hwords e0 h0) with ⟨h, hq, -⟩ | ⟨v, h, -, hr⟩ | ⟨c0, c1, c2, h, hq, -⟩ | ⟨k, a, h, -, -, hq, -⟩
        · rw [h2] at hq; exact absurd hq (by decide)
        · have hgv : goodV v := by
            have := hg.1 (congrArg (fun z : DEntry => z.1) h)
            have h5 : e0.2.1 = v := congrArg (fun z : DEntry => z.2.1) h
            rw [h5] at this
            exact this
          exact ⟨v, h, back v hgv hr⟩
        · rw [h2] at hq; exact absurd hq (by decide)
        · rw [h2] at hq; exact absurd hq (by decide)
      cases hb : b with
      | false =>
        refine ⟨_, _, rfl, fun h => (by cases h), fun e0 n hn0 hn hv hg h0 => ?_⟩
        obtain ⟨_, _, h5, _⟩ := main e0 n hn0 hn hv hg h0
        rw [hb] at h5; cases h5
      | true =>
        cases hl3 : iEq (lenI L) 3 with
        | false =>
          refine ⟨_, _, rfl, fun h => (by cases h), fun e0 n hn0 hn hv hg h0 => ?_⟩
          obtain ⟨_, _, _, h5⟩ := main e0 n hn0 hn hv hg h0
          rw [h5] at hl3; cases hl3
        | true =>
          obtain ⟨x, y, z, rfl⟩ := three_list (L := L) (by have : (L.length : Int) = 3 := by simpa [iEq, lenI] using hl3
                                                           omega)
          obtain ⟨-, hgd, -⟩ := k2 hb
          refine ⟨(2, (x, y, z, ()), (0, 0, 0, ()), 0, 0, ()), true, rfl, fun _ => ⟨fun _ => ⟨hgd x (by simp), hgd y (by simp), hgd z (by simp)⟩, fun h => absurd h (by show ¬ ((2 : Int) = 3); decide), fun h => absurd h (by show ¬ ((2 : Int) = 4); decide)⟩, fun e0 n hn0 hn hv hg h0 => ?_⟩
          obtain ⟨v0, h5, -, h6⟩ := main e0 n hn0 hn hv hg h0
          obtain ⟨v1, v2, v3, ⟨⟩⟩ := v0
          simp only [List.cons.injEq, and_true] at h6
          obtain ⟨rfl, rfl, rfl⟩ := h6
          exact ⟨h5.symm, rfl⟩
    · rw [show sEq w [109, 111, 118, 101] = false from sEq_neL h2]
      simp only [cond_false]
      by_cases h3 : w = wFi
      · rw [show sEq w [102, 105, 120] = true from by rw [h3]; rfl]
        simp only [cond_true]
        have main : ∀ e0 n, entryB n e0 = true → s = entL e0 → ∃ c0 c1 c2 : Int, e0 = (3, (0, 0, 0, ()), (c0, c1, c2, ()), 0, 0, ()) ∧ r = [Lib.itoa c0, Lib.itoa c1, Lib.itoa c2] := by
          intro e0 n hv h0
          rcases kinds e0 n hv (hwords e0 h0) with ⟨h, hq, -⟩ | ⟨v, h, hq, -⟩ | ⟨c0, c1, c2, h, -, hr⟩ | ⟨k, a, h, -, -, hq, -⟩
          · rw [h3] at hq; exact absurd hq (by decide)
          · rw [h3] at hq; exact absurd hq (by decide)
          · exact ⟨c0, c1, c2, h, hr⟩
          · rw [h3] at hq; exact absurd hq (by decide)
        cases hl4 : iEq (lenI (w :: r)) 4 with
        | false =>
          refine ⟨_, _, rfl, fun h => (by cases h), fun e0 n hn0 hn hv hg h0 => ?_⟩
          obtain ⟨c0, c1, c2, -, hr⟩ := main e0 n hv h0
          rw [hr] at hl4; cases hl4
        | true =>
          have hr3 : r.length = 3 := by
            have : ((w :: r).length : Int) = 4 := by simpa [iEq, lenI] using hl4
            simp at this
            omega
          obtain ⟨x, y, z, rfl⟩ : ∃ x y z, r = [x, y, z] := by
            match r, hr3 with
            | [x, y, z], _ => exact ⟨x, y, z, rfl⟩
          obtain ⟨n1, b1, k1, q1, p1⟩ := spec_l08Count_ok (w := x) (hall x (by simp))
          obtain ⟨n2, b2, k2, q2, p2⟩ := spec_l08Count_ok (w := y) (hall y (by simp))
          obtain ⟨n3, b3, k3, q3, p3⟩ := spec_l08Count_ok (w := z) (hall z (by simp))
          have back : ∀ e0 n, entryB n e0 = true → goodE e0 → s = entL e0 → e0 = (3, (0, 0, 0, ()), (n1, n2, n3, ()), 0, 0, ()) ∧ b1 = true ∧ b2 = true ∧ b3 = true := by
            intro e0 n hv hg h0
            obtain ⟨c0, c1, c2, h, hr⟩ := main e0 n hv h0
            simp only [List.cons.injEq, and_true] at hr
            obtain ⟨r1, r2, r3⟩ := hr
            have hgc := hg.2.1 (congrArg (fun z : DEntry => z.1) h)
            have e0c : e0.2.2.1 = ((c0, c1, c2, ()) : Vec 3 Int) := congrArg (fun z : DEntry => z.2.2.1) h
            have g1 : e0.2.2.1.1 = c0 := congrArg (fun z : Vec 3 Int => z.1) e0c
            have g2 : e0.2.2.1.2.1 = c1 := congrArg (fun z : Vec 3 Int => z.2.1) e0c
            have g3 : e0.2.2.1.2.2.1 = c2 := congrArg (fun z : Vec 3 Int => z.2.2.1) e0c
            obtain ⟨⟨u1, u2⟩, ⟨u3, u4⟩, u5, u6⟩ := hgc
            obtain ⟨rfl, t1⟩ := p1 c0 (by omega) (by omega) r1
            obtain ⟨rfl, t2⟩ := p2 c1 (by omega) (by omega) r2
            obtain ⟨rfl, t3⟩ := p3 c2 (by omega) (by omega) r3
            exact ⟨h, t1, t2, t3⟩
          rw [show inB 1 ([w, x, y, z] : List (List UInt8)).length = true from rfl, show inB 2 ([w, x, y, z] : List (List UInt8)).length = true from rfl, show inB 3 ([w, x, y, z] : List (List UInt8)).length = true from rfl,
            show List.getD [w, x, y, z] 1 [] = x from rfl, show List.getD [w, x, y, z] 2 [] = y from rfl, show List.getD [w, x, y, z] 3 [] = z from rfl, k1, k2, k3]
          simp only [Bool.not_true, cond_false, cond_true, Option.bind_some]
          cases hb1 : b1 with
          | false =>
            refine ⟨_, _, rfl, fun h => (by cases h), fun e0 n hn0 hn hv hg h0 => ?_⟩
            have := (back e0 n hv hg h0).2.1
            rw [hb1] at this; cases this
          | true =>
            cases hb2 : b2 with
            | false =>
              refine ⟨_, _, rfl, fun h => (by cases h), fun e0 n hn0 hn hv hg h0 => ?_⟩
              have := (back e0 n hv hg h0).2.2.1
              rw [hb2] at this; cases this
            | true =>
              cases hb3 : b3 with
              | false =>
                refine ⟨_, _, rfl, fun h => (by cases h), fun e0 n hn0 hn hv hg h0 => ?_⟩
                have := (back e0 n hv hg h0).2.2.2
                rw [hb3] at this; cases this
              | true =>
                refine ⟨(3, (0, 0, 0, ()), (n1, n2, n3, ()), 0, 0, ()), true, rfl, fun _ => ⟨fun h => absurd h (by show ¬ ((3 : Int) = 2); decide), fun _ => ⟨q1 hb1, q2 hb2, q3 hb3⟩, fun h => absurd h (by show ¬ ((3 : Int) = 4); decide)⟩, fun e0 n hn0 hn hv hg h0 => ⟨(back e0 n hv hg h0).1.symm, rfl⟩⟩
      · rw [show sEq w [102, 105, 120] = false from sEq_neL h3]
        simp only [cond_false]
        by_cases h4 : w = wRan
        · rw [show sEq w [114, 97, 110, 103, 101] = true from by rw [h4]; rfl]
          simp only [cond_true]
          have main : ∀ e0 n, entryB n e0 = true → s = entL e0 → ∃ (k : Int) (a : Nat), e0 = (4, (0, 0, 0, ()), (0, 0, 0, ()), k, a, ()) ∧ 0 ≤ k ∧ k ≤ iSub .i64 n 1 ∧ r = [Lib.itoa k, hex8 a] := by
            intro e0 n hv h0
            rcases kinds e0 n hv (hwords e0 h0) with ⟨h, hq, -⟩ | ⟨v, h, hq, -⟩ | ⟨c0, c1, c2, h, hq, -⟩ | ⟨k, a, h, k0, k1, -, hr⟩
            · rw [h4] at hq; exact absurd hq (by decide)
            · rw [h4] at hq; exact absurd hq (by decide)
            · rw [h4] at hq; exact absurd hq (by decide)
            · exact ⟨k, a, h, k0, k1, hr⟩
          cases hl3 : iEq (lenI (w :: r)) 3 with
          | false =>
            refine ⟨_, _, rfl, fun h => (by cases h), fun e0 n hn0 hn hv hg h0 => ?_⟩
            obtain ⟨k, a, -, -, -, hr⟩ := main e0 n hv h0
            rw [hr] at hl3; cases hl3
          | true =>
            have hr2 : r.length = 2 := by
              have : ((w :: r).length : Int) = 3 := by simpa [iEq, lenI] using hl3
              simp at this
              omega
            obtain ⟨x, y, rfl⟩ : ∃ x y, r = [x, y] := by
              match r, hr2 with
              | [x, y], _ => exact ⟨x, y, rfl⟩
            obtain ⟨m, t1, t2⟩ := l01Number_val x
            obtain ⟨z, u1, u2⟩ := spec_l01Read_ok y
            rw [show inB 1 ([w, x, y] : List (List UInt8)).length = true from rfl, show inB 2 ([w, x, y] : List (List UInt8)).length = true from rfl, show List.getD [w, x, y] 1 [] = x from rfl, show List.getD [w, x, y] 2 [] = y from rfl, t1, u1]
            simp only [Bool.not_true, cond_false, cond_true, Option.bind_some]
            have back : ∀ e0 n, 0 ≤ n → n ≤ 1000 → entryB n e0 = true → goodE e0 → s = entL e0 → e0 = (4, (0, 0, 0, ()), (0, 0, 0, ()), m, z, ()) ∧ numOK 999999999 x = true ∧ (numR y).isSome = true := by
              intro e0 n hn0 hn hv hg h0
              obtain ⟨k, a, h, k0, k1, hr⟩ := main e0 n hv h0
              simp only [List.cons.injEq, and_true] at hr
              obtain ⟨r1, r2⟩ := hr
              have hk : k ≤ 999 := by rw [iSub_eq (by omega) (by omega)] at k1; omega
              have hga := hg.2.2 (congrArg (fun z : DEntry => z.1) h)
              have e0a : e0.2.2.2.2.1 = a := congrArg (fun z : DEntry => z.2.2.2.2.1) h
              rw [e0a] at hga
              unfold goodN at hga
              rw [← r2] at hga
              have hnum := number_itoa k0 (by omega) r1
              rw [t1] at hnum
              simp only [Option.some.injEq, Prod.mk.injEq, and_true] at hnum
              obtain ⟨rfl, hok⟩ := hnum
              have hz := u2 a hga
              subst hz
              exact ⟨h, hok, by rw [hga]; rfl⟩
            cases hn1 : numOK 999999999 x with
            | false =>
              refine ⟨_, _, rfl, fun h => (by cases h), fun e0 n hn0 hn hv hg h0 => ?_⟩
              have := (back e0 n hn0 hn hv hg h0).2.1
              rw [hn1] at this; cases this
            | true =>
              refine ⟨(4, (0, 0, 0, ()), (0, 0, 0, ()), m, z, ()), (numR y).isSome, rfl, fun hb => ⟨fun h => absurd h (by show ¬ ((4 : Int) = 2); decide), fun h => absurd h (by show ¬ ((4 : Int) = 3); decide), fun _ => ?_⟩, fun e0 n hn0 hn hv hg h0 => ?_⟩
              · cases hy : numR y with
                | none => rw [hy] at hb; cases hb
                | some a =>
                  have := u2 a hy
                  show goodN z
                  rw [this]
                  exact (numR_good hy).2
              · obtain ⟨h5, -, h6⟩ := back e0 n hn0 hn hv hg h0
                exact ⟨h5.symm, h6⟩
        · rw [show sEq w [114, 97, 110, 103, 101] = false from sEq_neL h4]
          refine ⟨_, _, rfl, fun h => (by cases h), fun e0 n hn0 hn hv hg h0 => ?_⟩
          rcases kinds e0 n hv (hwords e0 h0) with ⟨h, hq, -⟩ | ⟨v, h, hq, -⟩ | ⟨c0, c1, c2, h, hq, -⟩ | ⟨k, a, h, -, -, hq, -⟩
          · exact absurd hq h1
          · exact absurd hq h2
          · exact absurd hq h3
          · exact absurd hq h4
end Go.Proofs.YtdmaamakckochaaGreatDoor
