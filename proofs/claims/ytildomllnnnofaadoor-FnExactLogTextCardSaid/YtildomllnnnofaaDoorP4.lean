/- Functions of the program and of the reference in plain terms. -/
import Derived.Test.YtildomllnnnofaaDoorP3
namespace Go.Proofs.YtildomllnnnofaaDoor
open Go Go.Tm
set_option linter.unusedVariables false
set_option linter.unusedSimpArgs false
set_option linter.unusedSectionVars false
/-! ### hexadecimal digits -/
def digsL : List UInt8 := [48, 49, 50, 51, 52, 53, 54, 55, 56, 57, 97, 98, 99, 100, 101, 102, 103, 104, 105, 106, 107, 108, 109, 110, 111, 112, 113, 114, 115, 116, 117, 118, 119, 120, 121, 122]
def hexC (d : Nat) : UInt8 := digsL.getD d 0
/-- the digits of a number, none ahead of the first; fuel k -/
def hexG : Nat → Nat → List UInt8
  | 0, n => [hexC n]
  | k + 1, n => if n < 16 then [hexC n] else hexG k (n / 16) ++ [hexC (n % 16)]
/-- k digits -/
def hexP : Nat → Nat → List UInt8
  | 0, _ => []
  | k + 1, n => hexP k (n / 16) ++ [hexC (n % 16)]

theorem hexP_length : ∀ k n, (hexP k n).length = k
  | 0, _ => rfl
  | k + 1, n => by rw [hexP, List.length_append, hexP_length k]; rfl

theorem and15 {u : Int} (h0 : 0 ≤ u) (h1 : u < 18446744073709551616) : iAnd .u64 u 15 = u % 16 := by
  obtain ⟨n, rfl⟩ := Int.eq_ofNat_of_zero_le h0
  have hb : (BitVec.ofInt 64 ((n : Nat) : Int)).toNat = n := by
    rw [BitVec.toNat_ofInt]; omega
  have e2 : (BitVec.ofInt 64 15).toNat = 15 := by decide
  have h : ((BitVec.ofInt IntKind.u64.bits ((n : Nat) : Int) &&& BitVec.ofInt IntKind.u64.bits 15).toNat) = n % 16 := by
    show ((BitVec.ofInt 64 ((n : Nat) : Int) &&& BitVec.ofInt 64 15).toNat) = n % 16
    rw [BitVec.toNat_and, e2, hb]
    exact Nat.and_two_pow_sub_one_eq_mod n 4
  unfold iAnd
  rw [h]
  simp [IntKind.wrap, IntKind.signed, IntKind.bits]
  omega

theorem shr4 {u : Int} (h0 : 0 ≤ u) : iShr .u64 u 4 = u / 16 := by
  show u.fdiv (2 ^ (min (4 : Int).toNat 64)) = u / 16
  rw [Int.fdiv_eq_ediv_of_nonneg _ (by decide)]
  rfl

theorem pad_hex : ∀ (k : Nat) (n : Nat) (f : Nat), n < 16 ^ (k + 1) → k ≤ f → List.replicate (k + 1 - (hexG f n).length) 48 ++ hexG f n = hexP (k + 1) n ∧ (hexG f n).length ≤ k + 1
  | 0, n, f, h, _ => by
    have h : n < 16 := h
    have e : hexG f n = [hexC n] := by
      cases f with
      | zero => rfl
      | succ f => rw [hexG, if_pos h]
    have e2 : n % 16 = n := Nat.mod_eq_of_lt h
    rw [e]
    refine ⟨?_, Nat.le_refl _⟩
    show [hexC n] = hexP 0 (n / 16) ++ [hexC (n % 16)]
    rw [e2]; rfl
  | k + 1, n, 0, h, hf => by omega
  | k + 1, n, f + 1, h, hf => by
    by_cases hn : n < 16
    · have e2 : n % 16 = n := Nat.mod_eq_of_lt hn
      have e3 : n / 16 = 0 := Nat.div_eq_of_lt hn
      have hz : ∀ j, hexP j 0 = List.replicate j 48 := by
        intro j
        induction j with
        | zero => rfl
        | succ j ih => rw [hexP, show 0 / 16 = 0 from rfl, ih, List.replicate_succ']; rfl
      rw [hexG, if_pos hn]
      refine ⟨?_, by simp⟩
      show List.replicate (k + 1 + 1 - 1) 48 ++ [hexC n] = hexP (k + 1) (n / 16) ++ [hexC (n % 16)]
      rw [e2, e3, hz]
      rfl
    · have hd : n / 16 < 16 ^ (k + 1) := by
        rw [Nat.div_lt_iff_lt_mul (by decide)]
        rw [Nat.pow_succ] at h
        exact h
      obtain ⟨h1, h2⟩ := pad_hex k (n / 16) f hd (by omega)
      rw [hexG, if_neg hn, List.length_append]
      refine ⟨?_, by simp; omega⟩
      rw [show k + 1 + 1 - ((hexG f (n / 16)).length + [hexC (n % 16)].length) = k + 1 - (hexG f (n / 16)).length by simp, ← List.append_assoc, h1]
      rfl

/-! ### the library's text of a number in base 16 -/
theorem vget_setH {α : Type} {z : α} : ∀ (n : Nat) (v : Vec n α) (i j : Nat) (x : α), i < n → Vec.getD n (Vec.set n v i x) j z = if j = i then x else Vec.getD n v j z
  | 0, _, _, _, _, h => absurd h (Nat.not_lt_zero _)
  | _ + 1, _, 0, 0, _, _ => rfl
  | _ + 1, _, 0, _ + 1, _, _ => rfl
  | _ + 1, _, _ + 1, 0, _, _ => rfl
  | n + 1, v, i + 1, j + 1, x, h => by
    have := vget_setH (z := z) n v.2 i j x (Nat.lt_of_succ_lt_succ h)
    show Vec.getD n (Vec.set n v.2 i x) j z = _
    rw [this]
    by_cases e : j = i
    · rw [if_pos e, if_pos (congrArg (· + 1) e)]
    · rw [if_neg e, if_neg (fun h => e (Nat.succ.inj h))]
      rfl

theorem strAt_digs (d : Nat) : strAt digsL (d : Int) = byteI (hexC d) := strAt_nat _ d
theorem toByte_byteI (b : UInt8) : toByte (byteI b) = b := by
  unfold toByte byteI
  rw [Int.toNat_natCast]
  exact UInt8.ofNat_toNat

def list65 (V : Vec 65 Int) : List Int := (List.range 65).map fun j => Vec.getD 65 V j (0 : Int)
theorem tail65 {V : Vec 65 Int} {i : Nat} {L : List UInt8} (hi : i + L.length = 65) (h : ∀ j (hj : j < L.length), Vec.getD 65 V (i + j) (0 : Int) = byteI L[j]) : ofBytes (List.take (65 - i) (List.drop i (list65 V))) = L := by
  have e : List.take (65 - i) (List.drop i (list65 V)) = L.map byteI := by
    unfold list65
    apply List.ext_getElem
    · simp; omega
    · intro j h1 h2
      simp only [List.getElem_map, List.getElem_take, List.getElem_drop, List.getElem_range]
      exact h j (by simpa using h2)
  rw [e]
  unfold ofBytes
  rw [List.map_map]
  have : toByte ∘ byteI = id := by funext b; exact toByte_byteI b
  rw [this, List.map_id]

theorem fb_eq (u i : Int) (V : Vec 65 Int) : internal_strconv_formatBits_l11_2 16 15 4 false false (u, i, V, ()) =
    bif iLe 16 u then (bif inB (iAnd .u64 u 15) digsL.length then bif inB (iSub .i64 i 1) 65 then bif iLe 0 4 then some (.inl (iShr .u64 u 4, iSub .i64 i 1, Vec.set 65 V (iSub .i64 i 1).toNat (strAt digsL (iAnd .u64 u 15)), ())) else none else none else none)
    else Option.map Sum.inr (bif inB u digsL.length then bif inB (iSub .i64 i 1) 65 then bif inS (iSub .i64 i 1) ((65 : Nat) : Int) 65 then some ((([] : List Int), ofBytes (List.take (65 - (iSub .i64 i 1).toNat) (List.drop (iSub .i64 i 1).toNat (list65 (Vec.set 65 V (iSub .i64 i 1).toNat (strAt digsL u))))), ()), ()) else none else none else none) := by kernel_rfl

theorem fb_run : ∀ (f n : Nat) (i : Nat) (V : Vec 65 Int) (L : List UInt8), n < 16 ^ (f + 1) → f ≤ 8 → f + 1 ≤ i → i + L.length = 65 → (∀ j (hj : j < L.length), Vec.getD 65 V (i + j) (0 : Int) = byteI L[j]) →
    run (internal_strconv_formatBits_l11_2 16 15 4 false false) ((n : Int), (i : Int), V, ()) = some ((([] : List Int), hexG f n ++ L, ()), ())
  | f, n, i, V, L, hn, hf, hi, hl, hV => by
    have hp : (16 : Nat) ^ (f + 1) ≤ 16 ^ 9 := Nat.pow_le_pow_right (by decide) (by omega)
    have hp9 : (16 : Nat) ^ 9 = 68719476736 := by decide
    obtain ⟨q, rfl⟩ : ∃ q, i = q + 1 := ⟨i - 1, by omega⟩
    have ei : iSub .i64 ((q + 1 : Nat) : Int) 1 = (q : Int) := (iSub_eq (by omega) (by omega)).trans (by omega)
    have eb : inB (q : Int) 65 = true := inB_pos (by omega)
    have hset : ∀ (x : UInt8), ∀ j (hj : j < (x :: L).length), Vec.getD 65 (Vec.set 65 V q (byteI x)) (q + j) (0 : Int) = byteI (x :: L)[j] := by
      intro x j hj
      rw [vget_setH 65 V q (q + j) _ (by omega)]
      cases j with
      | zero => rw [if_pos (Nat.add_zero q)]; rfl
      | succ j =>
        rw [if_neg (by omega)]
        simp only [List.getElem_cons_succ]
        rw [← hV j (by simpa using hj)]
        congr 1
        omega
    by_cases h16 : n < 16
    · have e : hexG f n = [hexC n] := by
        cases f with
        | zero => rfl
        | succ f => rw [hexG, if_pos h16]
      rw [e]
      refine run_done ?_
      have e1 : iLe 16 (n : Int) = false := iLe_neg (by omega)
      have e2 : inB (n : Int) digsL.length = true := inB_pos (show n < 36 by omega)
      have e3 : inS (q : Int) ((65 : Nat) : Int) 65 = true := by unfold inS; simp; omega
      rw [fb_eq, e1, ei, e2, eb, e3, strAt_digs, Int.toNat_natCast]
      simp only [cond_true, cond_false, Option.map_some]
      have := tail65 (V := Vec.set 65 V q (byteI (hexC n))) (i := q) (L := hexC n :: L) (by simp; omega) (hset (hexC n))
      exact congrArg (fun z => some (Sum.inr ((([] : List Int), z, ()), ()))) this
    · cases f with
      | zero => exact absurd hn h16
      | succ f =>
        have hd : n / 16 < 16 ^ (f + 1) := by
          rw [Nat.div_lt_iff_lt_mul (by decide)]
          rw [Nat.pow_succ] at hn
          exact hn
        have e1 : iLe 16 (n : Int) = true := iLe_pos (by omega)
        have e4 : iAnd .u64 (n : Int) 15 = ((n % 16 : Nat) : Int) := by
          rw [and15 (by omega) (by omega)]; omega
        have e5 : iShr .u64 (n : Int) 4 = ((n / 16 : Nat) : Int) := by
          rw [shr4 (by omega)]; omega
        have e2 : inB ((n % 16 : Nat) : Int) digsL.length = true := inB_pos (show n % 16 < 36 by omega)
        have e6 : iLe 0 (4 : Int) = true := by decide
        have st : internal_strconv_formatBits_l11_2 16 15 4 false false ((n : Int), ((q + 1 : Nat) : Int), V, ()) = some (.inl (((n / 16 : Nat) : Int), (q : Int), Vec.set 65 V q (byteI (hexC (n % 16))), ())) := by
          rw [fb_eq, e1, ei, e4, e5, e2, eb, e6, strAt_digs, Int.toNat_natCast]
          rfl
        rw [run_step st]
        have := fb_run f (n / 16) q (Vec.set 65 V q (byteI (hexC (n % 16)))) (hexC (n % 16) :: L) hd (by omega) (by omega) (by simp; omega) (hset _)
        rw [this, hexG, if_neg h16]
        simp

theorem strconv_FormatUint_ok {n : Nat} (h : n < 4294967296) : strconv_FormatUint (n : Int) 16 = some ((hexG 7 n, ()), ()) := by
  have e0 : iEq (16 : Int) 10 = false := by decide
  have e1 : iLt (16 : Int) 2 = false := by decide
  have e2 : iLt 36 (16 : Int) = false := by decide
  have e3 : internal_strconv_isPowerOfTwo 16 = some ((true, ()), ()) := by kernel_rfl
  have e4 : iWrap .u64 (16 : Int) = 16 := by decide
  have e5 : math_bits_TrailingZeros 16 = some ((4, ()), ()) := rfl
  have e6 : iSub .u64 (16 : Int) 1 = 15 := by decide
  have e7 : iWrap .u64 (4 : Int) = 4 := by decide
  have := fb_run 7 n 65 ((0, 0, 0, 0, 0, 0, 0, 0, 0, 0, 0, 0, 0, 0, 0, 0, 0, 0, 0, 0, 0, 0, 0, 0, 0, 0, 0, 0, 0, 0, 0, 0, 0, 0, 0, 0, 0, 0, 0, 0, 0, 0, 0, 0, 0, 0, 0, 0, 0, 0, 0, 0, 0, 0, 0, 0, 0, 0, 0, 0, 0, 0, 0, 0, 0, ()) : Vec 65 Int) [] (Nat.lt_of_lt_of_le h (by decide)) (by decide) (by decide) rfl (fun j hj => by cases hj)
  rw [List.append_nil] at this
  have hfb : internal_strconv_formatBits ([] : List Int) (n : Int) 16 false false = some ((([] : List Int), hexG 7 n, ()), ()) := by
    unfold internal_strconv_formatBits
    rw [e0, e1, e2]
    simp only [cond_false, e3, Option.bind_some, cond_true, e4, e5, e6, e7]
    exact this
  unfold strconv_FormatUint internal_strconv_FormatUint
  rw [e0]
  simp only [cond_false, hfb, Option.bind_some]

/-! ### the text of a number -/
def bitsOf (a : Nat) : Nat := if fEq .f32 a a = true then a else 2143289344

theorem pad_run : ∀ (d : Nat) (s : List UInt8), d + s.length = 8 → run (impl_NumberText_l4) (s, ()) = some ((List.replicate d 48 ++ s, ()), ())
  | 0, s, h => by
    have e : iLt (lenI s) 8 = false := iLt_neg (by rw [lenI_eq]; omega)
    refine run_done ?_
    unfold impl_NumberText_l4
    simp only
    rw [e]; rfl
  | d + 1, s, h => by
    have e : iLt (lenI s) 8 = true := iLt_pos (by rw [lenI_eq]; omega)
    have e2 : strRoom ([48]) s = true := by unfold strRoom; simp; omega
    have st : impl_NumberText_l4 (s, ()) = some (.inl (48 :: s, ())) := by
      unfold impl_NumberText_l4
      simp only
      rw [e, e2]; rfl
    rw [run_step st, pad_run d (48 :: s) (by simp; omega), List.replicate_succ']
    simp

theorem impl_NumberText_ok {a : Nat} (h : a < 4294967296) : impl_NumberText a = some ((hexP 8 (bitsOf a), ()), ()) := by
  unfold impl_NumberText impl_isNaN bitsOf
  simp only [Option.bind_some]
  cases hn : fEq .f32 a a with
  | false => exact (by kernel_rfl : some (([55, 102, 99, 48, 48, 48, 48, 48], ()), ()) = some ((hexP 8 2143289344, ()), ()))
  | true =>
    simp only [Bool.not_true, cond_false, if_true]
    refine allSame_of fun q => ?_
    have hq : bitsF .f32 a q = (a : Int) := by
      unfold bitsF
      rw [fEq_self] at hn
      simp only [Bool.not_eq_true'] at hn
      rw [hn]
      rfl
    have hw : iWrap .u64 (a : Int) = (a : Int) := by simp [iWrap, IntKind.wrap, IntKind.signed, IntKind.bits]; omega
    obtain ⟨p1, p2⟩ := pad_hex 7 a 7 (Nat.lt_of_lt_of_le h (by decide)) (Nat.le_refl _)
    rw [hq, hw, strconv_FormatUint_ok h]
    simp only [Option.bind_some]
    rw [pad_run (8 - (hexG 7 a).length) (hexG 7 a) (by omega), p1]

theorem bitsOf_lt {a : Nat} (h : a < 4294967296) : bitsOf a < 4294967296 := by
  unfold bitsOf
  split
  · exact h
  · decide

theorem spec_l01Bits_ok {a : Nat} (h : a < 4294967296) : spec_l01Bits a = some ((((bitsOf a : Nat) : Int), ()), ()) := by
  unfold spec_l01Bits bitsOf
  cases hn : fEq .f32 a a with
  | false => rfl
  | true =>
    simp only [Bool.not_true, cond_false, if_true]
    refine allSame_of fun q => ?_
    have hq : bitsF .f32 a q = (a : Int) := by
      unfold bitsF
      rw [fEq_self] at hn
      simp only [Bool.not_eq_true'] at hn
      rw [hn]
      rfl
    rw [hq]

theorem rem16 (n : Nat) : iRem .u32 (n : Int) 16 = ((n % 16 : Nat) : Int) := by
  unfold iRem
  rw [Int.tmod_eq_emod_of_nonneg (by omega)]
  omega
theorem quo16 {n : Nat} (h : n < 4294967296) : iQuo .u32 (n : Int) 16 = ((n / 16 : Nat) : Int) := by
  unfold iQuo
  rw [Int.tdiv_eq_ediv_of_nonneg (by omega)]
  simp [IntKind.wrap, IntKind.signed, IntKind.bits]
  omega
theorem str16 (n : Nat) : strAt [48, 49, 50, 51, 52, 53, 54, 55, 56, 57, 97, 98, 99, 100, 101, 102] ((n % 16 : Nat) : Int) = byteI (hexC (n % 16)) := by
  have key : ∀ d : Fin 16, strAt [48, 49, 50, 51, 52, 53, 54, 55, 56, 57, 97, 98, 99, 100, 101, 102] ((d.val : Nat) : Int) = byteI (hexC d.val) := by decide
  exact key ⟨n % 16, Nat.mod_lt _ (by decide)⟩
theorem in16 (n : Nat) : inB ((n % 16 : Nat) : Int) 16 = true := inB_pos (Nat.mod_lt _ (by decide))

theorem spec_l01Hex_ok {a : Nat} (h : a < 4294967296) : spec_l01Hex a = some ((hexP 8 (bitsOf a), ()), ()) := by
  have hb := bitsOf_lt h
  have e := spec_l01Bits_ok h
  generalize bitsOf a = b at hb e
  have q1 := quo16 hb
  have q2 := quo16 (n := b / 16) (by omega)
  have q3 := quo16 (n := b / 16 / 16) (by omega)
  have q4 := quo16 (n := b / 16 / 16 / 16) (by omega)
  have q5 := quo16 (n := b / 16 / 16 / 16 / 16) (by omega)
  have q6 := quo16 (n := b / 16 / 16 / 16 / 16 / 16) (by omega)
  have q7 := quo16 (n := b / 16 / 16 / 16 / 16 / 16 / 16) (by omega)
  have hr : (iLe 0 8 && iLe 8 8 && room ((8 : Int)).toNat 1) = true := by decide
  unfold spec_l01Hex
  rw [e]
  simp only [Option.bind_some, hr, cond_true, q1, q2, q3, q4, q5, q6, q7, rem16, List.length_cons, List.length_nil, Nat.reduceAdd, in16, str16, List.length_set, List.length_replicate]
  have hs : ∀ j : Nat, j < 8 → inB (j : Int) (8 : Int).toNat = true := fun j hj => inB_pos hj
  have s0 := hs 0 (by decide); have s1 := hs 1 (by decide); have s2 := hs 2 (by decide); have s3 := hs 3 (by decide)
  have s4 := hs 4 (by decide); have s5 := hs 5 (by decide); have s6 := hs 6 (by decide); have s7 := hs 7 (by decide)
  simp only [Int.cast_ofNat_Int] at s0 s1 s2 s3 s4 s5 s6 s7
  rw [show inB 7 (8 : Int).toNat = true from s7, show inB 6 (8 : Int).toNat = true from s6, show inB 5 (8 : Int).toNat = true from s5, show inB 4 (8 : Int).toNat = true from s4, show inB 3 (8 : Int).toNat = true from s3, show inB 2 (8 : Int).toNat = true from s2, show inB 1 (8 : Int).toNat = true from s1, show inB 0 (8 : Int).toNat = true from s0]
  simp only [cond_true]
  refine congrArg (fun z => some ((z, ()), ())) ?_
  show [toByte (byteI (hexC (b / 16 / 16 / 16 / 16 / 16 / 16 / 16 % 16))), toByte (byteI (hexC (b / 16 / 16 / 16 / 16 / 16 / 16 % 16))), toByte (byteI (hexC (b / 16 / 16 / 16 / 16 / 16 % 16))), toByte (byteI (hexC (b / 16 / 16 / 16 / 16 % 16))), toByte (byteI (hexC (b / 16 / 16 / 16 % 16))), toByte (byteI (hexC (b / 16 / 16 % 16))), toByte (byteI (hexC (b / 16 % 16))), toByte (byteI (hexC (b % 16)))] = hexP 8 b
  simp only [toByte_byteI]
  rfl

/-! ### a number out of its text -/
/-- a small digit's value -/
def lowD (c : UInt8) : Option Nat := if 48 ≤ c.toNat ∧ c.toNat ≤ 57 then some (c.toNat - 48) else if 97 ≤ c.toNat ∧ c.toNat ≤ 102 then some (c.toNat - 87) else none
def lowV : Nat → List UInt8 → Option Nat
  | acc, [] => some acc
  | acc, c :: r => match lowD c with | none => none | some d => lowV (acc * 16 + d) r

def lowT (n : Nat) : Bool := match lowD (UInt8.ofNat n) with | none => true | some d => decide (d < 16) && (decide (hexC d = UInt8.ofNat n) && decide (hexD (UInt8.ofNat n) = some d))
theorem low_tab : (List.range 256).all lowT = true := by kernel_rfl
theorem lowD_some {c : UInt8} {d : Nat} (h : lowD c = some d) : d < 16 ∧ hexC d = c ∧ hexD c = some d := by
  have k := List.all_eq_true.1 low_tab c.toNat (List.mem_range.2 c.toNat_lt)
  unfold lowT at k
  rw [UInt8.ofNat_toNat, h] at k
  simpa using k
theorem digit_tab : ∀ d : Fin 16, lowD (hexC d.val) = some d.val ∧ hexD (hexC d.val) = some d.val := by decide
theorem lowD_hexC {d : Nat} (h : d < 16) : lowD (hexC d) = some d := (digit_tab ⟨d, h⟩).1
theorem hexD_hexC {d : Nat} (h : d < 16) : hexD (hexC d) = some d := (digit_tab ⟨d, h⟩).2

theorem lowV_snoc (c : UInt8) : ∀ (p : List UInt8) (acc : Nat), lowV acc (p ++ [c]) = (lowV acc p).bind fun a => (lowD c).map fun d => a * 16 + d
  | [], acc => by
    show lowV acc [c] = _
    simp only [lowV, Option.bind_some]
    cases lowD c <;> rfl
  | b :: p, acc => by
    show lowV acc (b :: (p ++ [c])) = _
    simp only [lowV]
    cases lowD b with
    | none => rfl
    | some d => exact lowV_snoc c p (acc * 16 + d)

theorem lowV_of : ∀ (k : Nat) (s : List UInt8) (v : Nat), s.length = k → lowV 0 s = some v → v < 16 ^ k ∧ s = hexP k v
  | 0, s, v, hl, h => by
    have : s = [] := List.length_eq_zero_iff.1 hl
    subst this
    have : v = 0 := by simpa [lowV] using h.symm
    subst this
    exact ⟨by decide, rfl⟩
  | k + 1, s, v, hl, h => by
    rcases List.eq_nil_or_concat s with rfl | ⟨p, c, rfl⟩
    · simp at hl
    · rw [List.concat_eq_append] at h hl ⊢
      rw [lowV_snoc] at h
      cases hp : lowV 0 p with
      | none => rw [hp] at h; cases h
      | some a =>
        rw [hp] at h
        simp only [Option.bind_some] at h
        cases hc : lowD c with
        | none => rw [hc] at h; cases h
        | some d =>
          rw [hc] at h
          have hv : a * 16 + d = v := by simpa using h
          obtain ⟨h1, h2⟩ := lowV_of k p a (by simpa using hl) hp
          obtain ⟨d1, d2, -⟩ := lowD_some hc
          have e1 : v / 16 = a := by omega
          have e2 : v % 16 = d := by omega
          refine ⟨by rw [Nat.pow_succ]; omega, ?_⟩
          rw [hexP, e1, e2, d2, ← h2]

theorem hexM_snoc (c : UInt8) : ∀ (p : List UInt8) (acc a d : Nat), hexM acc p = some (some a) → hexD c = some d → a * 16 + d ≤ 4294967295 → hexM acc (p ++ [c]) = some (some (a * 16 + d))
  | [], acc, a, d, h, hc, hd => by
    have : acc = a := by simpa [hexM] using h
    subst this
    show hexM acc [c] = _
    have : ¬ 4294967295 < acc * 16 + d := by omega
    simp only [hexM, hc, if_neg this]
  | b :: p, acc, a, d, h, hc, hd => by
    show hexM acc (b :: (p ++ [c])) = _
    simp only [hexM] at h ⊢
    cases hb : hexD b with
    | none => rw [hb] at h; cases h
    | some e =>
      rw [hb] at h
      simp only at h ⊢
      by_cases ho : 4294967295 < acc * 16 + e
      · rw [if_pos ho] at h; cases h
      · rw [if_neg ho] at h ⊢
        exact hexM_snoc c p (acc * 16 + e) a d h hc hd

theorem hex_back : ∀ (k n : Nat), n < 16 ^ k → n ≤ 4294967295 → hexM 0 (hexP k n) = some (some n) ∧ lowV 0 (hexP k n) = some n
  | 0, n, h, _ => by
    have h : n < 1 := h
    have : n = 0 := by omega
    subst this
    exact ⟨rfl, rfl⟩
  | k + 1, n, h, h' => by
    have hd : n / 16 < 16 ^ k := by
      rw [Nat.div_lt_iff_lt_mul (by decide)]
      rw [Nat.pow_succ] at h
      exact h
    obtain ⟨h1, h2⟩ := hex_back k (n / 16) hd (by omega)
    have hm : n % 16 < 16 := Nat.mod_lt _ (by decide)
    refine ⟨?_, ?_⟩
    · have := hexM_snoc (hexC (n % 16)) (hexP k (n / 16)) 0 (n / 16) (n % 16) h1 (hexD_hexC hm) (by omega)
      rw [hexP, this]
      congr 2
      omega
    · rw [hexP, lowV_snoc, h2, lowD_hexC hm]
      simp
      omega

/-- the number of a text: none if there is none -/
def numR (s : List UInt8) : Option Nat :=
  match lowV 0 s with
  | none => none
  | some v => if s.length = 8 ∧ bitsOf (canon .f32 v) = v then some (canon .f32 v) else none

theorem canon_lt32 {v : Nat} (h : v < 4294967296) : canon .f32 v < 4294967296 := by
  unfold canon
  cases isNan .f32 v with
  | true =>
    show nan .f32 < 4294967296
    decide
  | false => exact h

theorem hexM_lt : ∀ (s : List UInt8) (acc v : Nat), acc ≤ 4294967295 → hexM acc s = some (some v) → v ≤ 4294967295
  | [], acc, v, h, e => by
    have : acc = v := by simpa [hexM] using e
    omega
  | c :: s, acc, v, h, e => by
    simp only [hexM] at e
    cases hc : hexD c with
    | none => rw [hc] at e; cases e
    | some d =>
      rw [hc] at e
      simp only at e
      by_cases ho : 4294967295 < acc * 16 + d
      · rw [if_pos ho] at e; cases e
      · rw [if_neg ho] at e
        exact hexM_lt s _ v (by omega) e

/-- what is read is written as it was -/
theorem numR_text {s : List UInt8} {a : Nat} (h : numR s = some a) : a < 4294967296 ∧ hexP 8 (bitsOf a) = s := by
  unfold numR at h
  cases hl : lowV 0 s with
  | none => rw [hl] at h; cases h
  | some v =>
    rw [hl] at h
    simp only at h
    by_cases hc : s.length = 8 ∧ bitsOf (canon .f32 v) = v
    · rw [if_pos hc] at h
      have ha : canon .f32 v = a := Option.some.inj h
      obtain ⟨h1, h2⟩ := lowV_of 8 s v hc.1 hl
      have h1 : v < 4294967296 := h1
      rw [← ha, hc.2]
      exact ⟨canon_lt32 h1, h2.symm⟩
    · rw [if_neg hc] at h; cases h
theorem numR_back {b : Nat} (h : b < 4294967296) : numR (hexP 8 b) = if bitsOf (canon .f32 b) = b then some (canon .f32 b) else none := by
  unfold numR
  rw [(hex_back 8 b h (by omega)).2]
  simp only
  by_cases hc : bitsOf (canon .f32 b) = b
  · rw [if_pos ⟨hexP_length 8 b, hc⟩, if_pos hc]
  · rw [if_neg (fun k => hc k.2), if_neg hc]
end Go.Proofs.YtildomllnnnofaaDoor
