/- Functions of the program and of the reference in plain terms. -/
import Derived.Test.YtildomllnnnofaaDoorP12
namespace Go.Proofs.YtildomllnnnofaaDoor
open Go Go.Tm
set_option linter.unusedVariables false
set_option linter.unusedSimpArgs false
set_option linter.unusedSectionVars false
/-! ## a builder that is written to -/
theorem bytesOf_cat (a b : List UInt8) : bytesOf (a ++ b) = bytesOf a ++ bytesOf b := List.map_append
theorem ofBytes_back (t : List UInt8) : ofBytes (bytesOf t) = t := by
  unfold ofBytes bytesOf
  rw [List.map_map]
  exact (List.map_congr_left fun b _ => toByte_byteI b).trans (List.map_id _)
theorem bld_write {t s : List UInt8} (h : t.length + s.length ≤ 1000000000) : strings_Builder_WriteString ((), bytesOf t, ()) s = some ((lenI s, true, ()), (((), bytesOf (t ++ s), ()), ())) := by
  unfold strings_Builder_WriteString strings_Builder_copyCheck
  simp only [Option.bind_some]
  have : room (List.length (bytesOf t) + List.length (bytesOf s)) 1 = true := by unfold room bytesOf; simp; omega
  rw [this, bytesOf_cat]
  rfl
theorem bld_write0 {s : List UInt8} (h : s.length ≤ 1000000000) : strings_Builder_WriteString ((), [], ()) s = some ((lenI s, true, ()), (((), bytesOf s, ()), ())) := bld_write (t := []) (by simpa using h)
theorem bld_str {t : List UInt8} (h : t ≠ []) (h1 : t.length ≤ 1000000000) : bldStr ((), bytesOf t, ()) = some t := by
  have e1 : Nat.ble 1 (List.length (bytesOf t)) = true := by
    rw [Nat.ble_eq]; unfold bytesOf; rw [List.length_map]
    exact List.length_pos_iff.2 h
  have e2 : Nat.ble (List.length (bytesOf t)) 140737488355328 = true := by rw [Nat.ble_eq]; unfold bytesOf; rw [List.length_map]; omega
  unfold bldStr
  simp only
  rw [e1, e2, ofBytes_back]
  rfl

/-! ### numbers that come in -/
theorem goodN_fit {a : Nat} (h : fltFit .f32 a) : goodN a := by
  obtain ⟨hc, hl⟩ := h
  have hl : a < 4294967296 := hl
  have hb : bitsOf a = a := by
    unfold bitsOf
    split
    · rfl
    · rename_i hn
      rw [fEq_self] at hn
      have hn : isNan .f32 a = true := by simpa using hn
      unfold canon at hc
      rw [hn] at hc
      exact hc
  unfold goodN hex8
  rw [hb, numR_back hl, hc, if_pos hb]
theorem goodV_fit {v : Vec 3 Nat} (h : FitVec (fltFit .f32) 3 v) : goodV v := ⟨goodN_fit h.1, goodN_fit h.2.1, goodN_fit h.2.2.1⟩

theorem goodE_fit {e : DEntry} (h : Fit TyEntry e) : goodE e := by
  obtain ⟨-, hv, hc, -, hd, -⟩ := h
  exact ⟨fun _ => goodV_fit hv, fun _ => ⟨hc.1, hc.2.1, hc.2.2.1⟩, fun _ => goodN_fit hd⟩

theorem goodL_fit {l : DLog} (h : Fit TyLog l) : goodL l := by
  obtain ⟨-, hv, hB, hE, -⟩ := h
  exact ⟨goodV_fit hv, fun v hm => goodV_fit (hB.2 v hm), fun e hm => goodE_fit (hE.2 e hm)⟩

/-! ### the program's texts of vectors -/
theorem impl_numbers3 (a b c : Nat) (ha : a < 4294967296) (hb : b < 4294967296) (hc : c < 4294967296) : impl_numbersText [a, b, c] = some ((hex8 a ++ [32] ++ hex8 b ++ [32] ++ hex8 c, ()), ()) := by
  have l1 : ∀ x, (hex8 x).length = 8 := fun x => hexP_length 8 _
  have s0 : impl_numbersText_l3 [a, b, c] ([], 0, ()) = some (.inl ([hex8 a], 1, ())) := by
    unfold impl_numbersText_l3
    have e := impl_NumberText_ok ha
    have g : List.getD [a, b, c] (Int.toNat 0) 0 = a := rfl
    simp only
    rw [g, e]
    rfl
  have s1 : impl_numbersText_l3 [a, b, c] ([hex8 a], 1, ()) = some (.inl ([hex8 a, hex8 b], 2, ())) := by
    unfold impl_numbersText_l3
    have e := impl_NumberText_ok hb
    have g : List.getD [a, b, c] (Int.toNat 1) 0 = b := rfl
    simp only
    rw [g, e]
    rfl
  have s2 : impl_numbersText_l3 [a, b, c] ([hex8 a, hex8 b], 2, ()) = some (.inl ([hex8 a, hex8 b, hex8 c], 3, ())) := by
    unfold impl_numbersText_l3
    have e := impl_NumberText_ok hc
    have g : List.getD [a, b, c] (Int.toNat 2) 0 = c := rfl
    simp only
    rw [g, e]
    rfl
  have hj : Lib.join [hex8 a, hex8 b, hex8 c] [32] = hex8 a ++ [32] ++ hex8 b ++ [32] ++ hex8 c := by
    simp [Lib.join_cons, Lib.joinTail]
  have e : strings_Join [hex8 a, hex8 b, hex8 c] [32] = some ((hex8 a ++ [32] ++ hex8 b ++ [32] ++ hex8 c, ()), ()) := by
    unfold strings_Join
    rw [hj]
    have : Nat.ble (hex8 a ++ [32] ++ hex8 b ++ [32] ++ hex8 c).length 140737488355328 = true := by rw [Nat.ble_eq]; simp [l1]
    rw [this]
    rfl
  unfold impl_numbersText
  rw [run_step s0, run_step s1, run_step s2]
  refine run_done ?_
  unfold impl_numbersText_l3
  simp only
  rw [e]
  rfl

theorem impl_VecText_ok {v : Vec 3 Nat} (h : goodV v) : impl_VecText v = some ((vecT v, ()), ()) := by
  unfold impl_VecText
  have v0 : Vec.getD 3 v 0 (0 : Nat) = v.1 := rfl
  have v1 : Vec.getD 3 v 1 (0 : Nat) = v.2.1 := rfl
  have v2 : Vec.getD 3 v 2 (0 : Nat) = v.2.2.1 := rfl
  rw [v0, v1, v2, impl_numbers3 _ _ _ (goodN_lt h.1) (goodN_lt h.2.1) (goodN_lt h.2.2)]
  rfl
theorem impl_decimal_int16_ok {n : Int} (h : -32768 ≤ n) (h1 : n ≤ 32767) : impl_decimal_int16 n = some ((Lib.itoa n, ()), ()) := by
  have w0 : iWrap .i64 n = n := wrap_i64 (by omega) (by omega)
  unfold impl_decimal_int16 strconv_FormatInt
  have e : (iEq 10 10 && (iLe (-9223372036854775808) (iWrap .i64 n) && iLe (iWrap .i64 n) 9223372036854775807)) = true := by
    rw [w0, iLe_pos (by omega), iLe_pos (by omega)]; rfl
  rw [e, w0]
  rfl

/-! ### the program's text of a log -/
theorem impl_entry_step {a : Int} {v : Vec 3 Nat} {B : List (Vec 3 Nat)} {E : List DEntry} (hb6 : B.length ≤ 6) {j : Nat} (hjE : j < E.length) (hl : E.length ≤ 1200) (hv : entryB (lenI B) E[j] = true) (hg : goodE E[j]) {out : List UInt8} (ho : out.length ≤ 1000000) :
    impl_LogText_l11 (a, v, B, E, ()) ((j : Int), ((), bytesOf out, ()), ()) = some (.inl (((j + 1 : Nat) : Int), ((), bytesOf (out ++ (entL E[j] ++ [10])), ()), ())) := by
  have e1 : iLt (j : Int) (lenI E) = true := iLt_pos (by rw [lenI_eq]; omega)
  have e2 : inB (j : Int) E.length = true := inB_pos hjE
  have e5 : iAdd .i64 (j : Int) 1 = ((j + 1 : Nat) : Int) := iAdd_one hjE (by omega)
  have hgd : List.getD E (j : Int).toNat ((0, (0, 0, 0, ()), (0, 0, 0, ()), 0, 0, ()) : DEntry) = E[j] := by rw [Int.toNat_natCast]; exact getD_of hjE
  unfold impl_LogText_l11
  simp only
  rw [e1, e2, hgd, e5]
  generalize E[j] = e at hv hg
  simp only [cond_true]
  rcases entry_kind hv with h | ⟨u, h, -⟩ | ⟨c, h⟩ | ⟨k, x, h, k0, k1, -⟩
  · have q : e.1 = 1 := congrArg (fun z : DEntry => z.1) h
    rw [iEq_pos (a := e.1) (b := 1) q, entL_one q]
    simp only [cond_true]
    rw [bld_write (by simp; omega)]
    rfl
  · have q : e.1 = 2 := congrArg (fun z : DEntry => z.1) h
    have g := impl_VecText_ok (hg.1 q)
    have hlv := vecT_length e.2.1
    rw [iEq_neg (a := e.1) (b := 1) (by omega), iEq_pos (a := e.1) (b := 2) q, g, entL_two q]
    simp only [cond_true, cond_false, Option.bind_some]
    rw [strRoom_len (by rw [hlv]; simp), strRoom_len (by unfold strCat; simp [hlv])]
    simp only [cond_true]
    rw [bld_write (by unfold strCat; simp [hlv]; omega)]
    rfl
  · have q : e.1 = 3 := congrArg (fun z : DEntry => z.1) h
    obtain ⟨g0, g1, g2⟩ := hg.2.1 q
    have v0 : Vec.getD 3 e.2.2.1 0 (0 : Int) = e.2.2.1.1 := rfl
    have v1 : Vec.getD 3 e.2.2.1 1 (0 : Int) = e.2.2.1.2.1 := rfl
    have v2 : Vec.getD 3 e.2.2.1 2 (0 : Int) = e.2.2.1.2.2.1 := rfl
    have q1 : iEq e.1 1 = false := iEq_neg (by omega)
    have q2 : iEq e.1 2 = false := iEq_neg (by omega)
    have q3 : iEq e.1 3 = true := iEq_pos q
    rw [entL_three q, v0, v1, v2, q1, q2, q3]
    generalize e.2.2.1.1 = c0 at g0
    generalize e.2.2.1.2.1 = c1 at g1
    generalize e.2.2.1.2.2.1 = c2 at g2
    have m0 := itoa_len (n := c0) (by omega) (by omega)
    have m1 := itoa_len (n := c1) (by omega) (by omega)
    have m2 := itoa_len (n := c2) (by omega) (by omega)
    rw [impl_decimal_int16_ok g0.1 g0.2, impl_decimal_int16_ok g1.1 g1.2, impl_decimal_int16_ok g2.1 g2.2]
    simp only [cond_true, cond_false, Option.bind_some]
    rw [strRoom_len (by simp; omega), strRoom_len (by unfold strCat; simp; omega)]
    simp only [cond_true]
    rw [strRoom_len (by unfold strCat; simp; omega), strRoom_len (by unfold strCat; simp; omega)]
    simp only [cond_true]
    rw [strRoom_len (by unfold strCat; simp; omega), strRoom_len (by unfold strCat; simp; omega)]
    simp only [cond_true]
    rw [bld_write (by unfold strCat; simp; omega)]
    rfl
  · have q : e.1 = 4 := congrArg (fun z : DEntry => z.1) h
    have qk : e.2.2.2.1 = k := congrArg (fun z : DEntry => z.2.2.2.1) h
    have hk : k ≤ 999 := by rw [lenI_eq, iSub_eq (by omega) (by omega)] at k1; omega
    have g := hg.2.2 q
    have e1 : impl_NumberText e.2.2.2.2.1 = some ((hex8 e.2.2.2.2.1, ()), ()) := impl_NumberText_ok (goodN_lt g)
    have hl := hex8_length e.2.2.2.2.1
    have hd := impl_decimal_int64_ok (n := e.2.2.2.1) (by omega) (by omega)
    have m0 := itoa_len (n := e.2.2.2.1) (by omega) (by omega)
    rw [iEq_neg (a := e.1) (b := 1) (by omega), iEq_neg (a := e.1) (b := 2) (by omega), iEq_neg (a := e.1) (b := 3) (by omega), iEq_pos (a := e.1) (b := 4) q, hd, e1, entL_four q]
    simp only [cond_true, cond_false, Option.bind_some]
    rw [strRoom_len (by simp; omega), strRoom_len (by unfold strCat; simp; omega)]
    simp only [cond_true]
    rw [strRoom_len (by unfold strCat; simp; omega), strRoom_len (by unfold strCat; simp; omega)]
    simp only [cond_true]
    rw [bld_write (by unfold strCat; simp; omega)]
    rfl

theorem entL_le {n : Int} {e : DEntry} (hn : 0 ≤ n) (hn1 : n ≤ 1000) (hv : entryB n e = true) (hg : goodE e) : (entL e).length ≤ 100 := (spec_l08Line_ok hn hn1 hv hg).2

theorem impl_LogText_ok {l : DLog} (hs : Sized TyLog l) (hg : goodL l) : impl_LogText l = some ((bif logB l then logT l else [], ()), ()) := by
  have hval := impl_ValidLog_ok l hs
  cases hv : logB l with
  | false =>
    unfold impl_LogText
    rw [hval, hv]
    rfl
  | true =>
  obtain ⟨a, v, B, E, ⟨⟩⟩ := l
  have hv' := hv
  unfold logB frameB at hv'
  simp only [Bool.and_eq_true, List.all_eq_true, iLe_true, lenI_eq] at hv'
  obtain ⟨⟨⟨ha0, ha1⟩, -, hb6, -⟩, he1200, heach⟩ := hv'
  obtain ⟨gv, gB, gE⟩ := hg
  simp only at gv gB gE heach he1200 hb6 ha0 ha1
  have hd := impl_decimal_int64_ok (n := a) (by omega) (by omega)
  have m0 := itoa_len (n := a) (by omega) (by omega)
  have e1 := impl_VecText_ok gv
  have hl := vecT_length v
  have hnl : ∀ x : List UInt8, x ++ [10] ≠ [] := fun x => by simp
  have phase2 : ∀ (d j : Nat) (out : List UInt8), j + d = E.length → out ≠ [] → out.length ≤ 10000 + 200 * j → run (impl_LogText_l11 (a, v, B, E, ())) ((j : Int), ((), bytesOf out, ()), ()) = some ((out ++ linesT ((E.drop j).map entL), ()), ()) := by
    intro d
    induction d with
    | zero =>
      intro j out hj hne ho
      have e1 : iLt (j : Int) (lenI E) = false := iLt_neg (by rw [lenI_eq]; omega)
      rw [List.drop_eq_nil_of_le (by omega)]
      refine run_done ?_
      unfold impl_LogText_l11
      simp only
      rw [e1]
      simp only [cond_false]
      rw [bld_str hne (by omega)]
      simp [linesT]
    | succ d ih =>
      intro j out hj hne ho
      have hjE : j < E.length := by omega
      have k2 := entL_le (n := lenI B) (by rw [lenI_eq]; omega) (by rw [lenI_eq]; omega) (by rw [lenI_eq]; exact heach _ (List.getElem_mem hjE)) (gE _ (List.getElem_mem hjE))
      have st := impl_entry_step (a := a) (v := v) (B := B) (E := E) (by omega) hjE (by omega) (by rw [lenI_eq]; exact heach _ (List.getElem_mem hjE)) (gE _ (List.getElem_mem hjE)) (out := out) (by omega)
      rw [run_step st, ih (j + 1) _ (by omega) (by simp) (by simp; omega)]
      have hd : E.drop j = E[j] :: E.drop (j + 1) := List.drop_eq_getElem_cons hjE
      rw [hd, List.map_cons]
      have e : linesT (entL E[j] :: (E.drop (j + 1)).map entL) = (entL E[j] ++ [10]) ++ linesT ((E.drop (j + 1)).map entL) := by unfold linesT; rw [List.flatMap_cons]
      rw [e]
      simp
  have phase1 : ∀ (d i : Nat) (out : List UInt8), i + d = B.length → out ≠ [] → out.length ≤ 1000 + 200 * i → run (impl_LogText_l6 (a, v, B, E, ())) ((i : Int), ((), bytesOf out, ()), ()) = some ((out ++ linesT ((B.drop i).map beaL) ++ linesT (E.map entL), ()), ()) := by
    intro d
    induction d with
    | zero =>
      intro i out hi hne ho
      have e1 : iLt (i : Int) (lenI B) = false := iLt_neg (by rw [lenI_eq]; omega)
      have := phase2 E.length 0 out (by omega) hne (by omega)
      rw [List.drop_zero] at this
      rw [List.drop_eq_nil_of_le (by omega)]
      have hz : linesT (List.map beaL []) = [] := rfl
      rw [hz, List.append_nil, ← this]
      rw [run_eq]
      have : impl_LogText_l6 (a, v, B, E, ()) ((i : Int), ((), bytesOf out, ()), ()) = Option.map Sum.inr (run (impl_LogText_l11 (a, v, B, E, ())) ((0 : Int), ((), bytesOf out, ()), ())) := by
        unfold impl_LogText_l6
        simp only
        rw [e1]
        rfl
      rw [this]
      have c0 : ((0 : Nat) : Int) = 0 := rfl
      rw [c0]
      cases run (impl_LogText_l11 (a, v, B, E, ())) ((0 : Int), ((), bytesOf out, ()), ()) <;> rfl
    | succ d ih =>
      intro i out hi hne ho
      have hiB : i < B.length := by omega
      have e1 : iLt (i : Int) (lenI B) = true := iLt_pos (by rw [lenI_eq]; omega)
      have e2 : inB (i : Int) B.length = true := inB_pos hiB
      have e5 : iAdd .i64 (i : Int) 1 = ((i + 1 : Nat) : Int) := iAdd_one hiB (by omega)
      have k1 := impl_VecText_ok (gB _ (List.getElem_mem hiB))
      have hvl := vecT_length B[i]
      have hgd : List.getD B (i : Int).toNat ((0, 0, 0, ()) : Vec 3 Nat) = B[i] := by rw [Int.toNat_natCast]; exact getD_of hiB
      have st : impl_LogText_l6 (a, v, B, E, ()) ((i : Int), ((), bytesOf out, ()), ()) = some (.inl (((i + 1 : Nat) : Int), ((), bytesOf (out ++ (beaL B[i] ++ [10])), ()), ())) := by
        unfold impl_LogText_l6
        simp only
        rw [e1, e2, hgd, k1, e5]
        simp only [cond_true, Option.bind_some]
        rw [strRoom_len (by simp [hvl]), strRoom_len (by unfold strCat; simp [hvl]), beaL_eq]
        simp only [cond_true]
        rw [bld_write (by unfold strCat; simp [hvl]; omega)]
        rfl
      rw [run_step st, ih (i + 1) _ (by omega) (by simp) (by rw [beaL_eq]; simp [wBea, hvl]; omega)]
      have hd : B.drop i = B[i] :: B.drop (i + 1) := List.drop_eq_getElem_cons hiB
      rw [hd, List.map_cons]
      have e : linesT (beaL B[i] :: (B.drop (i + 1)).map beaL) = (beaL B[i] ++ [10]) ++ linesT ((B.drop (i + 1)).map beaL) := by unfold linesT; rw [List.flatMap_cons]
      rw [e]
      simp
  have := phase1 B.length 0 (headL a v ++ [10]) (by omega) (by simp) (by rw [headL_eq]; simp [wLog, hl]; omega)
  rw [List.drop_zero] at this
  have hlog : logT (a, v, B, E, ()) = headL a v ++ [10] ++ linesT (B.map beaL) ++ linesT (E.map entL) := by
    unfold logT logL
    show linesT ([headL a v] ++ (B.map beaL ++ E.map entL)) = _
    rw [linesT_append, linesT_append, linesT_one]
    simp
  rw [cond_true, hlog, ← this]
  unfold impl_LogText
  rw [hval, hv]
  simp only [Option.bind_some, Bool.not_true, cond_false]
  rw [hd]
  simp only [Option.bind_some]
  rw [strRoom_len (by simp; omega), strRoom_len (by unfold strCat; simp; omega), e1]
  simp only [Option.bind_some, cond_true]
  rw [strRoom_len (by unfold strCat; simp [hl]; omega), strRoom_len (by unfold strCat; simp [hl]; omega), headL_eq]
  simp only [cond_true]
  rw [bld_write0 (by unfold strCat; simp [hl]; omega)]
  rfl

theorem spec_LogText_ok {l : DLog} (hs : Sized TyLog l) (hg : goodL l) : spec_LogText l = some ((bif logB l then logT l else [], ()), ()) := by
  unfold spec_LogText
  rw [spec_l08Log_ok l hs]
  cases hv : logB l with
  | false => rfl
  | true =>
    simp only [Option.bind_some, Bool.not_true, cond_false, cond_true]
    rw [spec_l08Text_ok hv hg]
    rfl

theorem laws_FnExactLogText_plain (a : DLog) (ha : Fit TyLog a) : ∃ o, laws_FnExactLogText a = some ((true, ()), o) := by
  obtain ⟨r, hr⟩ := laws_szLog_ok a 1048576
  have sa : Sized TyLog a := sized_of_fit rfl ha
  have k1 := laws_toLog_ok a ha
  have k3 := laws_eqLog_ok a sa
  have k5 := impl_LogText_ok sa (goodL_fit ha)
  have k6 := spec_LogText_ok sa (goodL_fit ha)
  obtain ⟨a1, a2, a3, a4, ⟨⟩⟩ := a
  simp only [laws_FnExactLogText, hr, k1, k3, k5, k6, sEq_self, Option.bind_some, Bool.not_true, cond_false]
  cases iLt r 0 <;> exact ⟨_, rfl⟩
end Go.Proofs.YtildomllnnnofaaDoor
