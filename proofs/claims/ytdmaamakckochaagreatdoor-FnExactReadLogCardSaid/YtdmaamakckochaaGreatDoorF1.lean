import Derived.Test.YtdmaamakckochaaGreatDoorE
/- Functions on typed data: what the evaluation of each Go function is, and that it is sound. -/
namespace Go.Proofs.YtdmaamakckochaaGreatDoor
open Go Go.Tm
set_option linter.unusedVariables false
set_option maxRecDepth 100000
-- (*loop.example/g01204/impl.lineReader).ended
noncomputable def impl_lineReader_ended (a0 : ((List (List UInt8)) × (Bool × Unit))) : Option ((Bool × Unit) × Unit) :=
  bif (! a0.2.1) then
    some (((iEq (lenI a0.1) 0), ()), ())
  else some ((false, ()), ())
noncomputable def impl_lineReader_ended_sg : Sig := ⟨[.ro (.pair (.list (.str)) (.pair (.bool) (.unit)))], [.v (.val (.bool))], false⟩
noncomputable def impl_lineReader_ended_en : Entry := ⟨impl_lineReader_ended_sg, fun x => impl_lineReader_ended x.1⟩
theorem impl_lineReader_ended_eq {G : List (Nat × Obj)} (x : impl_lineReader_ended_sg.dom) : body (env G []) [] Tryz.f96 impl_lineReader_ended_sg x = impl_lineReader_ended x.1 := by kernel_rfl
theorem impl_lineReader_ended_so {G : List (Nat × Obj)} : Sound Tryz.prog G 96 impl_lineReader_ended_en := sound_of_body (envS (l := []) (trivial)) Tryz.func96 (by kernel_rfl) rfl (fun x y h => (impl_lineReader_ended_eq (G := G) x).trans h)

-- (*loop.example/g01204/impl.lineReader).word
noncomputable def impl_lineReader_word (a0 : ((List (List UInt8)) × (Bool × Unit))) : Option ((List UInt8 × Unit) × (((List (List UInt8)) × (Bool × Unit)) × Unit)) :=
  bif (iEq (lenI a0.1) 0) then some ((([] : List UInt8), ()), (((a0.1, true, a0.2.2) : ((List (List UInt8)) × (Bool × Unit))), ())) else
  bif inB 0 (List.length a0.1) then
    bif inS 1 ((List.length a0.1 : Nat) : Int) (List.length a0.1) then some (((List.getD a0.1 0 ([] : List UInt8)), ()), (((List.take ((List.length a0.1) - 1) (List.drop 1 a0.1), a0.2) : ((List (List UInt8)) × (Bool × Unit))), ())) else none
  else none
noncomputable def impl_lineReader_word_sg : Sig := ⟨[.io (.pair (.rows (.str)) (.val (.pair (.bool) (.unit))))], [.v (.val (.str))], false⟩
noncomputable def impl_lineReader_word_en : Entry := ⟨impl_lineReader_word_sg, fun x => impl_lineReader_word x.1⟩
theorem impl_lineReader_word_eq {G : List (Nat × Obj)} (x : impl_lineReader_word_sg.dom) : body (env G []) [] Tryz.f97 impl_lineReader_word_sg x = impl_lineReader_word x.1 := by kernel_rfl
theorem impl_lineReader_word_so {G : List (Nat × Obj)} : Sound Tryz.prog G 97 impl_lineReader_word_en := sound_of_body (envS (l := []) (trivial)) Tryz.func97 (by kernel_rfl) rfl (fun x y h => (impl_lineReader_word_eq (G := G) x).trans h)

theorem strconv_FormatInt_so {G : List (Nat × Obj)} (tb : GTab Tryz.prog G) : Sound Tryz.prog G 173 strconv_FormatInt_en := formatInt_sound Tryz.func173 (by kernel_rfl) (by kernel_rfl) tb Tryz.strconv_FormatInt_10

-- loop.example/g01204/impl.decimal[int64]
noncomputable def impl_decimal_int64 (a0 : Int) : Option ((List UInt8 × Unit) × Unit) :=
  (strconv_FormatInt a0 (10 : Int)).bind fun y70 =>
  some ((y70.1.1, ()), ())
noncomputable def impl_decimal_int64_sg : Sig := ⟨[.v (.int .i64)], [.v (.val (.str))], false⟩
noncomputable def impl_decimal_int64_en : Entry := ⟨impl_decimal_int64_sg, fun x => impl_decimal_int64 x.1⟩
theorem impl_decimal_int64_eq {G : List (Nat × Obj)} (x : impl_decimal_int64_sg.dom) : body (env G [(173, strconv_FormatInt_en)]) [] Tryz.f140 impl_decimal_int64_sg x = impl_decimal_int64 x.1 := by kernel_rfl
theorem impl_decimal_int64_so {G : List (Nat × Obj)} (tb : GTab Tryz.prog G) : Sound Tryz.prog G 140 impl_decimal_int64_en := sound_of_body (envS (l := [(173, strconv_FormatInt_en)]) (⟨(strconv_FormatInt_so tb), trivial⟩)) Tryz.func140 (by kernel_rfl) rfl (fun x y h => (impl_decimal_int64_eq (G := G) x).trans h)

theorem strconv_ParseInt_so {G : List (Nat × Obj)} (sy : GErr 2 G) (ra : GErr 3 G) : Sound Tryz.prog G 139 strconv_ParseInt_en := parseInt_sound Tryz.func139 (by kernel_rfl) (by kernel_rfl) sy ra Tryz.strconv_ParseInt_10_at64_ok (fun s hl h1 h2 ev w he hev => (Tryz.strconv_ParseInt_10_at64_syntax s hl h1 h2 ev w he hev).mono fun e w' ⟨N, h1, _, _, h2⟩ => ⟨N, h1, h2⟩) (fun s hl h ev w he hev => (Tryz.strconv_ParseInt_10_at64_range s hl h ev w he hev).mono fun e w' ⟨N, h1, _, _, h2⟩ => ⟨N, h1, h2⟩)

-- (*loop.example/g01204/impl.lineReader).integer
noncomputable def impl_lineReader_integer (a0 : ((List (List UInt8)) × (Bool × Unit))) : Option ((Int × Unit) × (((List (List UInt8)) × (Bool × Unit)) × Unit)) :=
  (impl_lineReader_word ((a0.1, a0.2) : ((List (List UInt8)) × (Bool × Unit)))).bind fun y63 =>
  (strconv_ParseInt y63.1.1 (10 : Int) (64 : Int)).bind fun y64 =>
  bif y63.2.1.2.1 then some ((y64.1.1, ()), (((y63.2.1.1, true, y63.2.1.2.2) : ((List (List UInt8)) × (Bool × Unit))), ())) else
  bif (! y64.1.2.1) then some ((y64.1.1, ()), (((y63.2.1.1, true, y63.2.1.2.2) : ((List (List UInt8)) × (Bool × Unit))), ())) else
  (impl_decimal_int64 y64.1.1).bind fun y66 =>
  some ((y64.1.1, ()), (((y63.2.1.1, (! (sEq y66.1.1 y63.1.1)), y63.2.1.2.2) : ((List (List UInt8)) × (Bool × Unit))), ()))
noncomputable def impl_lineReader_integer_sg : Sig := ⟨[.io (.pair (.rows (.str)) (.val (.pair (.bool) (.unit))))], [.v (.val (.int .i64))], false⟩
noncomputable def impl_lineReader_integer_en : Entry := ⟨impl_lineReader_integer_sg, fun x => impl_lineReader_integer x.1⟩
theorem impl_lineReader_integer_eq {G : List (Nat × Obj)} (x : impl_lineReader_integer_sg.dom) : body (env G [(97, impl_lineReader_word_en), (139, strconv_ParseInt_en), (140, impl_decimal_int64_en)]) [] Tryz.f94 impl_lineReader_integer_sg x = impl_lineReader_integer x.1 := by kernel_rfl
theorem impl_lineReader_integer_so {G : List (Nat × Obj)} (tb : GTab Tryz.prog G) (sy : GErr 2 G) (ra : GErr 3 G) : Sound Tryz.prog G 94 impl_lineReader_integer_en := sound_of_body (envS (l := [(97, impl_lineReader_word_en), (139, strconv_ParseInt_en), (140, impl_decimal_int64_en)]) (⟨(impl_lineReader_word_so), (strconv_ParseInt_so sy ra), (impl_decimal_int64_so tb), trivial⟩)) Tryz.func94 (by kernel_rfl) rfl (fun x y h => (impl_lineReader_integer_eq (G := G) x).trans h)

-- (*loop.example/g01204/impl.lineReader).need
noncomputable def impl_lineReader_need (a0 : ((List (List UInt8)) × (Bool × Unit))) (a1 : List UInt8) : Option ((Unit) × (((List (List UInt8)) × (Bool × Unit)) × Unit)) :=
  (impl_lineReader_word ((a0.1, a0.2) : ((List (List UInt8)) × (Bool × Unit)))).bind fun y71 =>
  bif (! (sEq y71.1.1 a1)) then some ((), (((y71.2.1.1, true, y71.2.1.2.2) : ((List (List UInt8)) × (Bool × Unit))), ())) else some ((), (((y71.2.1.1, y71.2.1.2.1, y71.2.1.2.2) : ((List (List UInt8)) × (Bool × Unit))), ()))
noncomputable def impl_lineReader_need_sg : Sig := ⟨[.io (.pair (.rows (.str)) (.val (.pair (.bool) (.unit)))), .v (.str)], [], false⟩
noncomputable def impl_lineReader_need_en : Entry := ⟨impl_lineReader_need_sg, fun x => impl_lineReader_need x.1 x.2.1⟩
theorem impl_lineReader_need_eq {G : List (Nat × Obj)} (x : impl_lineReader_need_sg.dom) : body (env G [(97, impl_lineReader_word_en)]) [] Tryz.f93 impl_lineReader_need_sg x = impl_lineReader_need x.1 x.2.1 := by kernel_rfl
theorem impl_lineReader_need_so {G : List (Nat × Obj)} : Sound Tryz.prog G 93 impl_lineReader_need_en := sound_of_body (envS (l := [(97, impl_lineReader_word_en)]) (⟨(impl_lineReader_word_so), trivial⟩)) Tryz.func93 (by kernel_rfl) rfl (fun x y h => (impl_lineReader_need_eq (G := G) x).trans h)

-- loop.example/g01204/impl.isNaN
noncomputable def impl_isNaN (a0 : Nat) : Option ((Bool × Unit) × Unit) :=
  some (((! (fEq .f32 a0 a0)), ()), ())
noncomputable def impl_isNaN_sg : Sig := ⟨[.v (.flt .f32)], [.v (.val (.bool))], false⟩
noncomputable def impl_isNaN_en : Entry := ⟨impl_isNaN_sg, fun x => impl_isNaN x.1⟩
theorem impl_isNaN_eq {G : List (Nat × Obj)} (x : impl_isNaN_sg.dom) : body (env G []) [] Tryz.f168 impl_isNaN_sg x = impl_isNaN x.1 := by kernel_rfl
theorem impl_isNaN_so {G : List (Nat × Obj)} : Sound Tryz.prog G 168 impl_isNaN_en := sound_of_body (envS (l := []) (trivial)) Tryz.func168 (by kernel_rfl) rfl (fun x y h => (impl_isNaN_eq (G := G) x).trans h)

-- internal/strconv.isPowerOfTwo
noncomputable def internal_strconv_isPowerOfTwo (a0 : Int) : Option ((Bool × Unit) × Unit) :=
  some (((iEq (iAnd .i64 a0 (iSub .i64 a0 1)) 0), ()), ())
noncomputable def internal_strconv_isPowerOfTwo_sg : Sig := ⟨[.v (.int .i64)], [.v (.val (.bool))], false⟩
noncomputable def internal_strconv_isPowerOfTwo_en : Entry := ⟨internal_strconv_isPowerOfTwo_sg, fun x => internal_strconv_isPowerOfTwo x.1⟩
theorem internal_strconv_isPowerOfTwo_eq {G : List (Nat × Obj)} (x : internal_strconv_isPowerOfTwo_sg.dom) : body (env G []) [] Tryz.f237 internal_strconv_isPowerOfTwo_sg x = internal_strconv_isPowerOfTwo x.1 := by kernel_rfl
theorem internal_strconv_isPowerOfTwo_so {G : List (Nat × Obj)} : Sound Tryz.prog G 237 internal_strconv_isPowerOfTwo_en := sound_of_body (envS (l := []) (trivial)) Tryz.func237 (by kernel_rfl) rfl (fun x y h => (internal_strconv_isPowerOfTwo_eq (G := G) x).trans h)

theorem math_bits_TrailingZeros_so {G : List (Nat × Obj)} (db : GDeb Tryz.prog G) : Sound Tryz.prog G 238 math_bits_TrailingZeros_en := trailing_sound Tryz.func238 (by kernel_rfl) (by kernel_rfl) db Tryz.trail

-- internal/strconv.formatBits
noncomputable def internal_strconv_formatBits_l11 (x107 : Int) (x109 : Int) (x106 : Int) (a3 : Bool) (a4 : Bool) (s116 : (Int × Int × (Vec 65 Int) × Unit)) : Option ((Int × Int × (Vec 65 Int) × Unit) ⊕ (((List Int) × List UInt8 × Unit) × Unit)) :=
  bif (iLe x107 s116.1) then
    let x118 := iSub .i64 s116.2.1 1
    let x119 := iAnd .u64 s116.1 x109
    bif inB x119 (List.length ([48, 49, 50, 51, 52, 53, 54, 55, 56, 57, 97, 98, 99, 100, 101, 102, 103, 104, 105, 106, 107, 108, 109, 110, 111, 112, 113, 114, 115, 116, 117, 118, 119, 120, 121, 122])) then
      bif inB x118 65 then
        bif iLe 0 x106 then
          some (Sum.inl ((iShr .u64 s116.1 x106), x118, Vec.set 65 s116.2.2.1 x118.toNat (strAt ([48, 49, 50, 51, 52, 53, 54, 55, 56, 57, 97, 98, 99, 100, 101, 102, 103, 104, 105, 106, 107, 108, 109, 110, 111, 112, 113, 114, 115, 116, 117, 118, 119, 120, 121, 122]) x119), ()))
        else none
      else none
    else none
  else
  Option.map Sum.inr (
    let x122 := iSub .i64 s116.2.1 1
    bif inB s116.1 (List.length ([48, 49, 50, 51, 52, 53, 54, 55, 56, 57, 97, 98, 99, 100, 101, 102, 103, 104, 105, 106, 107, 108, 109, 110, 111, 112, 113, 114, 115, 116, 117, 118, 119, 120, 121, 122])) then
      let x123 := strAt ([48, 49, 50, 51, 52, 53, 54, 55, 56, 57, 97, 98, 99, 100, 101, 102, 103, 104, 105, 106, 107, 108, 109, 110, 111, 112, 113, 114, 115, 116, 117, 118, 119, 120, 121, 122]) s116.1
      bif inB x122 65 then
        bif a3 then
          let x124 := iSub .i64 x122 1
          bif inB x124 65 then
            bif a4 then
              bif inS x124 ((65 : Nat) : Int) 65 then none else none
            else
            bif inS x124 ((65 : Nat) : Int) 65 then
              some ((([] : (List Int)), (ofBytes (List.take (65 - x124.toNat) (List.drop x124.toNat ([Vec.getD 65 (Vec.set 65 (Vec.set 65 s116.2.2.1 x122.toNat x123) x124.toNat (45 : Int)) 0 (0 : Int), Vec.getD 65 (Vec.set 65 (Vec.set 65 s116.2.2.1 x122.toNat x123) x124.toNat (45 : Int)) 1 (0 : Int), Vec.getD 65 (Vec.set 65 (Vec.set 65 s116.2.2.1 x122.toNat x123) x124.toNat (45 : Int)) 2 (0 : Int), Vec.getD 65 (Vec.set 65 (Vec.set 65 s116.2.2.1 x122.toNat x123) x124.toNat (45 : Int)) 3 (0 : Int), Vec.getD 65 (Vec.set 65 (Vec.set 65 s116.2.2.1 x122.toNat x123) x124.toNat (45 : Int)) 4 (0 : Int), Vec.getD 65 (Vec.set 65 (Vec.set 65 s116.2.2.1 x122.toNat x123) x124.toNat (45 : Int)) 5 (0 : Int), Vec.getD 65 (Vec.set 65 (Vec.set 65 s116.2.2.1 x122.toNat x123) x124.toNat (45 : Int)) 6 (0 : Int), Vec.getD 65 (Vec.set 65 (Vec.set 65 s116.2.2.1 x122.toNat x123) x124.toNat (45 : Int)) 7 (0 : Int), Vec.getD 65 (Vec.set 65 (Vec.set 65 s116.2.2.1 x122.toNat x123) x124.toNat (45 : Int)) 8 (0 : Int), Vec.getD 65 (Vec.set 65 (Vec.set 65 s116.2.2.1 x122.toNat x123) x124.toNat (45 : Int)) 9 (0 : Int), Vec.getD 65 (Vec.set 65 (Vec.set 65 s116.2.2.1 x122.toNat x123) x124.toNat (45 : Int)) 10 (0 : Int), Vec.getD 65 (Vec.set 65 (Vec.set 65 s116.2.2.1 x122.toNat x123) x124.toNat (45 : Int)) 11 (0 : Int), Vec.getD 65 (Vec.set 65 (Vec.set 65 s116.2.2.1 x122.toNat x123) x124.toNat (45 : Int)) 12 (0 : Int), Vec.getD 65 (Vec.set 65 (Vec.set 65 s116.2.2.1 x122.toNat x123) x124.toNat (45 : Int)) 13 (0 : Int), Vec.getD 65 (Vec.set 65 (Vec.set 65 s116.2.2.1 x122.toNat x123) x124.toNat (45 : Int)) 14 (0 : Int), Vec.getD 65 (Vec.set 65 (Vec.set 65 s116.2.2.1 x122.toNat x123) x124.toNat (45 : Int)) 15 (0 : Int), Vec.getD 65 (Vec.set 65 (Vec.set 65 s116.2.2.1 x122.toNat x123) x124.toNat (45 : Int)) 16 (0 : Int), Vec.getD 65 (Vec.set 65 (Vec.set 65 s116.2.2.1 x122.toNat x123) x124.toNat (45 : Int)) 17 (0 : Int), Vec.getD 65 (Vec.set 65 (Vec.set 65 s116.2.2.1 x122.toNat x123) x124.toNat (45 : Int)) 18 (0 : Int), Vec.getD 65 (Vec.set 65 (Vec.set 65 s116.2.2.1 x122.toNat x123) x124.toNat (45 : Int)) 19 (0 : Int), Vec.getD 65 (Vec.set 65 (Vec.set 65 s116.2.2.1 x122.toNat x123) x124.toNat (45 : Int)) 20 (0 : Int), Vec.getD 65 (Vec.set 65 (Vec.set 65 s116.2.2.1 x122.toNat x123) x124.toNat (45 : Int)) 21 (0 : Int), Vec.getD 65 (Vec.set 65 (Vec.set 65 s116.2.2.1 x122.toNat x123) x124.toNat (45 : Int)) 22 (0 : Int), Vec.getD 65 (Vec.set 65 (Vec.set 65 s116.2.2.1 x122.toNat x123) x124.toNat (45 : Int)) 23 (0 : Int), Vec.getD 65 (Vec.set 65 (Vec.set 65 s116.2.2.1 x122.toNat x123) x124.toNat (45 : Int)) 24 (0 : Int), Vec.getD 65 (Vec.set 65 (Vec.set 65 s116.2.2.1 x122.toNat x123) x124.toNat (45 : Int)) 25 (0 : Int), Vec.getD 65 (Vec.set 65 (Vec.set 65 s116.2.2.1 x122.toNat x123) x124.toNat (45 : Int)) 26 (0 : Int), Vec.getD 65 (Vec.set 65 (Vec.set 65 s116.2.2.1 x122.toNat x123) x124.toNat (45 : Int)) 27 (0 : Int), Vec.getD 65 (Vec.set 65 (Vec.set 65 s116.2.2.1 x122.toNat x123) x124.toNat (45 : Int)) 28 (0 : Int), Vec.getD 65 (Vec.set 65 (Vec.set 65 s116.2.2.1 x122.toNat x123) x124.toNat (45 : Int)) 29 (0 : Int), Vec.getD 65 (Vec.set 65 (Vec.set 65 s116.2.2.1 x122.toNat x123) x124.toNat (45 : Int)) 30 (0 : Int), Vec.getD 65 (Vec.set 65 (Vec.set 65 s116.2.2.1 x122.toNat x123) x124.toNat (45 : Int)) 31 (0 : Int), Vec.getD 65 (Vec.set 65 (Vec.set 65 s116.2.2.1 x122.toNat x123) x124.toNat (45 : Int)) 32 (0 : Int), Vec.getD 65 (Vec.set 65 (Vec.set 65 s116.2.2.1 x122.toNat x123) x124.toNat (45 : Int)) 33 (0 : Int), Vec.getD 65 (Vec.set 65 (Vec.set 65 s116.2.2.1 x122.toNat x123) x124.toNat (45 : Int)) 34 (0 : Int), Vec.getD 65 (Vec.set 65 (Vec.set 65 s116.2.2.1 x122.toNat x123) x124.toNat (45 : Int)) 35 (0 : Int), Vec.getD 65 (Vec.set 65 (Vec.set 65 s116.2.2.1 x122.toNat x123) x124.toNat (45 : Int)) 36 (0 : Int), Vec.getD 65 (Vec.set 65 (Vec.set 65 s116.2.2.1 x122.toNat x123) x124.toNat (45 : Int)) 37 (0 : Int), Vec.getD 65 (Vec.set 65 (Vec.set 65 s116.2.2.1 x122.toNat x123) x124.toNat (45 : Int)) 38 (0 : Int), Vec.getD 65 (Vec.set 65 (Vec.set 65 s116.2.2.1 x122.toNat x123) x124.toNat (45 : Int)) 39 (0 : Int), Vec.getD 65 (Vec.set 65 (Vec.set 65 s116.2.2.1 x122.toNat x123) x124.toNat (45 : Int)) 40 (0 : Int), Vec.getD 65 (Vec.set 65 (Vec.set 65 s116.2.2.1 x122.toNat x123) x124.toNat (45 : Int)) 41 (0 : Int), Vec.getD 65 (Vec.set 65 (Vec.set 65 s116.2.2.1 x122.toNat x123) x124.toNat (45 : Int)) 42 (0 : Int), Vec.getD 65 (Vec.set 65 (Vec.set 65 s116.2.2.1 x122.toNat x123) x124.toNat (45 : Int)) 43 (0 : Int), Vec.getD 65 (Vec.set 65 (Vec.set 65 s116.2.2.1 x122.toNat x123) x124.toNat (45 : Int)) 44 (0 : Int), Vec.getD 65 (Vec.set 65 (Vec.set 65 s116.2.2.1 x122.toNat x123) x124.toNat (45 : Int)) 45 (0 : Int), Vec.getD 65 (Vec.set 65 (Vec.set 65 s116.2.2.1 x122.toNat x123) x124.toNat (45 : Int)) 46 (0 : Int), Vec.getD 65 (Vec.set 65 (Vec.set 65 s116.2.2.1 x122.toNat x123) x124.toNat (45 : Int)) 47 (0 : Int), Vec.getD 65 (Vec.set 65 (Vec.set 65 s116.2.2.1 x122.toNat x123) x124.toNat (45 : Int)) 48 (0 : Int), Vec.getD 65 (Vec.set 65 (Vec.set 65 s116.2.2.1 x122.toNat x123) x124.toNat (45 : Int)) 49 (0 : Int), Vec.getD 65 (Vec.set 65 (Vec.set 65 s116.2.2.1 x122.toNat x123) x124.toNat (45 : Int)) 50 (0 : Int), Vec.getD 65 (Vec.set 65 (Vec.set 65 s116.2.2.1 x122.toNat x123) x124.toNat (45 : Int)) 51 (0 : Int), Vec.getD 65 (Vec.set 65 (Vec.set 65 s116.2.2.1 x122.toNat x123) x124.toNat (45 : Int)) 52 (0 : Int), Vec.getD 65 (Vec.set 65 (Vec.set 65 s116.2.2.1 x122.toNat x123) x124.toNat (45 : Int)) 53 (0 : Int), Vec.getD 65 (Vec.set 65 (Vec.set 65 s116.2.2.1 x122.toNat x123) x124.toNat (45 : Int)) 54 (0 : Int), Vec.getD 65 (Vec.set 65 (Vec.set 65 s116.2.2.1 x122.toNat x123) x124.toNat (45 : Int)) 55 (0 : Int), Vec.getD 65 (Vec.set 65 (Vec.set 65 s116.2.2.1 x122.toNat x123) x124.toNat (45 : Int)) 56 (0 : Int), Vec.getD 65 (Vec.set 65 (Vec.set 65 s116.2.2.1 x122.toNat x123) x124.toNat (45 : Int)) 57 (0 : Int), Vec.getD 65 (Vec.set 65 (Vec.set 65 s116.2.2.1 x122.toNat x123) x124.toNat (45 : Int)) 58 (0 : Int), Vec.getD 65 (Vec.set 65 (Vec.set 65 s116.2.2.1 x122.toNat x123) x124.toNat (45 : Int)) 59 (0 : Int), Vec.getD 65 (Vec.set 65 (Vec.set 65 s116.2.2.1 x122.toNat x123) x124.toNat (45 : Int)) 60 (0 : Int), Vec.getD 65 (Vec.set 65 (Vec.set 65 s116.2.2.1 x122.toNat x123) x124.toNat (45 : Int)) 61 (0 : Int), Vec.getD 65 (Vec.set 65 (Vec.set 65 s116.2.2.1 x122.toNat x123) x124.toNat (45 : Int)) 62 (0 : Int), Vec.getD 65 (Vec.set 65 (Vec.set 65 s116.2.2.1 x122.toNat x123) x124.toNat (45 : Int)) 63 (0 : Int), Vec.getD 65 (Vec.set 65 (Vec.set 65 s116.2.2.1 x122.toNat x123) x124.toNat (45 : Int)) 64 (0 : Int)] : (List Int))))), ()), ())
            else none
          else none
        else
        bif a4 then
          bif inS x122 ((65 : Nat) : Int) 65 then none else none
        else
        bif inS x122 ((65 : Nat) : Int) 65 then
          some ((([] : (List Int)), (ofBytes (List.take (65 - x122.toNat) (List.drop x122.toNat ([Vec.getD 65 (Vec.set 65 s116.2.2.1 x122.toNat x123) 0 (0 : Int), Vec.getD 65 (Vec.set 65 s116.2.2.1 x122.toNat x123) 1 (0 : Int), Vec.getD 65 (Vec.set 65 s116.2.2.1 x122.toNat x123) 2 (0 : Int), Vec.getD 65 (Vec.set 65 s116.2.2.1 x122.toNat x123) 3 (0 : Int), Vec.getD 65 (Vec.set 65 s116.2.2.1 x122.toNat x123) 4 (0 : Int), Vec.getD 65 (Vec.set 65 s116.2.2.1 x122.toNat x123) 5 (0 : Int), Vec.getD 65 (Vec.set 65 s116.2.2.1 x122.toNat x123) 6 (0 : Int), Vec.getD 65 (Vec.set 65 s116.2.2.1 x122.toNat x123) 7 (0 : Int), Vec.getD 65 (Vec.set 65 s116.2.2.1 x122.toNat x123) 8 (0 : Int), Vec.getD 65 (Vec.set 65 s116.2.2.1 x122.toNat x123) 9 (0 : Int), Vec.getD 65 (Vec.set 65 s116.2.2.1 x122.toNat x123) 10 (0 : Int), Vec.getD 65 (Vec.set 65 s116.2.2.1 x122.toNat x123) 11 (0 : Int), Vec.getD 65 (Vec.set 65 s116.2.2.1 x122.toNat x123) 12 (0 : Int), Vec.getD 65 (Vec.set 65 s116.2.2.1 x122.toNat x123) 13 (0 : Int), Vec.getD 65 (Vec.set 65 s116.2.2.1 x122.toNat x123) 14 (0 : Int), Vec.getD 65 (Vec.set 65 s116.2.2.1 x122.toNat x123) 15 (0 : Int), Vec.getD 65 (Vec.set 65 s116.2.2.1 x122.toNat x123) 16 (0 : Int), Vec.getD 65 (Vec.set 65 s116.2.2.1 x122.toNat x123) 17 (0 : Int), Vec.getD 65 (Vec.set 65 s116.2.2.1 x122.toNat x123) 18 (0 : Int), Vec.getD 65 (Vec.set 65 s116.2.2.1 x122.toNat x123) 19 (0 : Int), Vec.getD 65 (Vec.set 65 s116.2.2.1 x122.toNat x123) 20 (0 : Int), Vec.getD 65 (Vec.set 65 s116.2.2.1 x122.toNat x123) 21 (0 : Int), Vec.getD 65 (Vec.set 65 s116.2.2.1 x122.toNat x123) 22 (0 : Int), Vec.getD 65 (Vec.set 65 s116.2.2.1 x122.toNat x123) 23 (0 : Int), Vec.getD 65 (Vec.set 65 s116.2.2.1 x122.toNat x123) 24 (0 : Int), Vec.getD 65 (Vec.set 65 s116.2.2.1 x122.toNat x123) 25 (0 : Int), Vec.getD 65 (Vec.set 65 s116.2.2.1 x122.toNat x123) 26 (0 : Int), Vec.getD 65 (Vec.set 65 s116.2.2.1 x122.toNat x123) 27 (0 : Int), Vec.getD 65 (Vec.set 65 s116.2.2.1 x122.toNat x123) 28 (0 : Int), Vec.getD 65 (Vec.set 65 s116.2.2.1 x122.toNat x123) 29 (0 : Int), Vec.getD 65 (Vec.set 65 s116.2.2.1 x122.toNat x123) 30 (0 : Int), Vec.getD 65 (Vec.set 65 s116.2.2.1 x122.toNat x123) 31 (0 : Int), Vec.getD 65 (Vec.set 65 s116.2.2.1 x122.toNat x123) 32 (0 : Int), Vec.getD 65 (Vec.set 65 s116.2.2.1 x122.toNat x123) 33 (0 : Int), Vec.getD 65 (Vec.set 65 s116.2.2.1 x122.toNat x123) 34 (0 : Int), Vec.getD 65 (Vec.set 65 s116.2.2.1 x122.toNat x123) 35 (0 : Int), Vec.getD 65 (Vec.set 65 s116.2.2.1 x122.toNat x123) 36 (0 : Int), Vec.getD 65 (Vec.set 65 s116.2.2.1 x122.toNat x123) 37 (0 : Int), Vec.getD 65 (Vec.set 65 s116.2.2.1 x122.toNat x123) 38 (0 : Int), Vec.getD 65 (Vec.set 65 s116.2.2.1 x122.toNat x123) 39 (0 : Int), Vec.getD 65 (Vec.set 65 s116.2.2.1 x122.toNat x123) 40 (0 : Int), Vec.getD 65 (Vec.set 65 s116.2.2.1 x122.toNat x123) 41 (0 : Int), Vec.getD 65 (Vec.set 65 s116.2.2.1 x122.toNat x123) 42 (0 : Int), Vec.getD 65 (Vec.set 65 s116.2.2.1 x122.toNat x123) 43 (0 : Int), Vec.getD 65 (Vec.set 65 s116.2.2.1 x122.toNat x123) 44 (0 : Int), Vec.getD 65 (Vec.set 65 s116.2.2.1 x122.toNat x123) 45 (0 : Int), Vec.getD 65 (Vec.set 65 s116.2.2.1 x122.toNat x123) 46 (0 : Int), Vec.getD 65 (Vec.set 65 s116.2.2.1 x122.toNat x123) 47 (0 : Int), Vec.getD 65 (Vec.set 65 s116.2.2.1 x122.toNat x123) 48 (0 : Int), Vec.getD 65 (Vec.set 65 s116.2.2.1 x122.toNat x123) 49 (0 : Int), Vec.getD 65 (Vec.set 65 s116.2.2.1 x122.toNat x123) 50 (0 : Int), Vec.getD 65 (Vec.set 65 s116.2.2.1 x122.toNat x123) 51 (0 : Int), Vec.getD 65 (Vec.set 65 s116.2.2.1 x122.toNat x123) 52 (0 : Int), Vec.getD 65 (Vec.set 65 s116.2.2.1 x122.toNat x123) 53 (0 : Int), Vec.getD 65 (Vec.set 65 s116.2.2.1 x122.toNat x123) 54 (0 : Int), Vec.getD 65 (Vec.set 65 s116.2.2.1 x122.toNat x123) 55 (0 : Int), Vec.getD 65 (Vec.set 65 s116.2.2.1 x122.toNat x123) 56 (0 : Int), Vec.getD 65 (Vec.set 65 s116.2.2.1 x122.toNat x123) 57 (0 : Int), Vec.getD 65 (Vec.set 65 s116.2.2.1 x122.toNat x123) 58 (0 : Int), Vec.getD 65 (Vec.set 65 s116.2.2.1 x122.toNat x123) 59 (0 : Int), Vec.getD 65 (Vec.set 65 s116.2.2.1 x122.toNat x123) 60 (0 : Int), Vec.getD 65 (Vec.set 65 s116.2.2.1 x122.toNat x123) 61 (0 : Int), Vec.getD 65 (Vec.set 65 s116.2.2.1 x122.toNat x123) 62 (0 : Int), Vec.getD 65 (Vec.set 65 s116.2.2.1 x122.toNat x123) 63 (0 : Int), Vec.getD 65 (Vec.set 65 s116.2.2.1 x122.toNat x123) 64 (0 : Int)] : (List Int))))), ()), ())
        else none
      else none
    else none)
noncomputable def internal_strconv_formatBits_l18 (x127 : Int) (a3 : Bool) (a4 : Bool) (s135 : (Int × Int × (Vec 65 Int) × Unit)) : Option ((Int × Int × (Vec 65 Int) × Unit) ⊕ (((List Int) × List UInt8 × Unit) × Unit)) :=
  bif (iLe x127 s135.1) then
    let x137 := iSub .i64 s135.2.1 1
    bif iEq x127 0 then none else
    let x138 := iQuo .u64 s135.1 x127
    let x140 := iSub .u64 s135.1 (iMul .u64 x138 x127)
    bif inB x140 (List.length ([48, 49, 50, 51, 52, 53, 54, 55, 56, 57, 97, 98, 99, 100, 101, 102, 103, 104, 105, 106, 107, 108, 109, 110, 111, 112, 113, 114, 115, 116, 117, 118, 119, 120, 121, 122])) then
      bif inB x137 65 then some (Sum.inl (x138, x137, Vec.set 65 s135.2.2.1 x137.toNat (strAt ([48, 49, 50, 51, 52, 53, 54, 55, 56, 57, 97, 98, 99, 100, 101, 102, 103, 104, 105, 106, 107, 108, 109, 110, 111, 112, 113, 114, 115, 116, 117, 118, 119, 120, 121, 122]) x140), ())) else none
    else none
  else
  Option.map Sum.inr (
    let x142 := iSub .i64 s135.2.1 1
    bif inB s135.1 (List.length ([48, 49, 50, 51, 52, 53, 54, 55, 56, 57, 97, 98, 99, 100, 101, 102, 103, 104, 105, 106, 107, 108, 109, 110, 111, 112, 113, 114, 115, 116, 117, 118, 119, 120, 121, 122])) then
      let x143 := strAt ([48, 49, 50, 51, 52, 53, 54, 55, 56, 57, 97, 98, 99, 100, 101, 102, 103, 104, 105, 106, 107, 108, 109, 110, 111, 112, 113, 114, 115, 116, 117, 118, 119, 120, 121, 122]) s135.1
      bif inB x142 65 then
        bif a3 then
          let x144 := iSub .i64 x142 1
          bif inB x144 65 then
            bif a4 then
              bif inS x144 ((65 : Nat) : Int) 65 then none else none
            else
            bif inS x144 ((65 : Nat) : Int) 65 then
              some ((([] : (List Int)), (ofBytes (List.take (65 - x144.toNat) (List.drop x144.toNat ([Vec.getD 65 (Vec.set 65 (Vec.set 65 s135.2.2.1 x142.toNat x143) x144.toNat (45 : Int)) 0 (0 : Int), Vec.getD 65 (Vec.set 65 (Vec.set 65 s135.2.2.1 x142.toNat x143) x144.toNat (45 : Int)) 1 (0 : Int), Vec.getD 65 (Vec.set 65 (Vec.set 65 s135.2.2.1 x142.toNat x143) x144.toNat (45 : Int)) 2 (0 : Int), Vec.getD 65 (Vec.set 65 (Vec.set 65 s135.2.2.1 x142.toNat x143) x144.toNat (45 : Int)) 3 (0 : Int), Vec.getD 65 (Vec.set 65 (Vec.set 65 s135.2.2.1 x142.toNat x143) x144.toNat (45 : Int)) 4 (0 : Int), Vec.getD 65 (Vec.set 65 (Vec.set 65 s135.2.2.1 x142.toNat x143) x144.toNat (45 : Int)) 5 (0 : Int), Vec.getD 65 (Vec.set 65 (Vec.set 65 s135.2.2.1 x142.toNat x143) x144.toNat (45 : Int)) 6 (0 : Int), Vec.getD 65 (Vec.set 65 (Vec.set 65 s135.2.2.1 x142.toNat x143) x144.toNat (45 : Int)) 7 (0 : Int), Vec.getD 65 (Vec.set 65 (Vec.set 65 s135.2.2.1 x142.toNat x143) x144.toNat (45 : Int)) 8 (0 : Int), Vec.getD 65 (Vec.set 65 (Vec.set 65 s135.2.2.1 x142.toNat x143) x144.toNat (45 : Int)) 9 (0 : Int), Vec.getD 65 (Vec.set 65 (Vec.set 65 s135.2.2.1 x142.toNat x143) x144.toNat (45 : Int)) 10 (0 : Int), Vec.getD 65 (Vec.set 65 (Vec.set 65 s135.2.2.1 x142.toNat x143) x144.toNat (45 : Int)) 11 (0 : Int), Vec.getD 65 (Vec.set 65 (Vec.set 65 s135.2.2.1 x142.toNat x143) x144.toNat (45 : Int)) 12 (0 : Int), Vec.getD 65 (Vec.set 65 (Vec.set 65 s135.2.2.1 x142.toNat x143) x144.toNat (45 : Int)) 13 (0 : Int), Vec.getD 65 (Vec.set 65 (Vec.set 65 s135.2.2.1 x142.toNat x143) x144.toNat (45 : Int)) 14 (0 : Int), Vec.getD 65 (Vec.set 65 (Vec.set 65 s135.2.2.1 x142.toNat x143) x144.toNat (45 : Int)) 15 (0 : Int), Vec.getD 65 (Vec.set 65 (Vec.set 65 s135.2.2.1 x142.toNat x143) x144.toNat (45 : Int)) 16 (0 : Int), Vec.getD 65 (Vec.set 65 (Vec.set 65 s135.2.2.1 x142.toNat x143) x144.toNat (45 : Int)) 17 (0 : Int), Vec.getD 65 (Vec.set 65 (Vec.set 65 s135.2.2.1 x142.toNat x143) x144.toNat (45 : Int)) 18 (0 : Int), Vec.getD 65 (Vec.set 65 (Vec.set 65 s135.2.2.1 x142.toNat x143) x144.toNat (45 : Int)) 19 (0 : Int), Vec.getD 65 (Vec.set 65 (Vec.set 65 s135.2.2.1 x142.toNat x143) x144.toNat (45 : Int)) 20 (0 : Int), Vec.getD 65 (Vec.set 65 (Vec.set 65 s135.2.2.1 x142.toNat x143) x144.toNat (45 : Int)) 21 (0 : Int), Vec.getD 65 (Vec.set 65 (Vec.set 65 s135.2.2.1 x142.toNat x143) x144.toNat (45 : Int)) 22 (0 : Int), Vec.getD 65 (Vec.set 65 (Vec.set 65 s135.2.2.1 x142.toNat x143) x144.toNat (45 : Int)) 23 (0 : Int), Vec.getD 65 (Vec.set 65 (Vec.set 65 s135.2.2.1 x142.toNat x143) x144.toNat (45 : Int)) 24 (0 : Int), Vec.getD 65 (Vec.set 65 (Vec.set 65 s135.2.2.1 x142.toNat x143) x144.toNat (45 : Int)) 25 (0 : Int), Vec.getD 65 (Vec.set 65 (Vec.set 65 s135.2.2.1 x142.toNat x143) x144.toNat (45 : Int)) 26 (0 : Int), Vec.getD 65 (Vec.set 65 (Vec.set 65 s135.2.2.1 x142.toNat x143) x144.toNat (45 : Int)) 27 (0 : Int), Vec.getD 65 (Vec.set 65 (Vec.set 65 s135.2.2.1 x142.toNat x143) x144.toNat (45 : Int)) 28 (0 : Int), Vec.getD 65 (Vec.set 65 (Vec.set 65 s135.2.2.1 x142.toNat x143) x144.toNat (45 : Int)) 29 (0 : Int), Vec.getD 65 (Vec.set 65 (Vec.set 65 s135.2.2.1 x142.toNat x143) x144.toNat (45 : Int)) 30 (0 : Int), Vec.getD 65 (Vec.set 65 (Vec.set 65 s135.2.2.1 x142.toNat x143) x144.toNat (45 : Int)) 31 (0 : Int), Vec.getD 65 (Vec.set 65 (Vec.set 65 s135.2.2.1 x142.toNat x143) x144.toNat (45 : Int)) 32 (0 : Int), Vec.getD 65 (Vec.set 65 (Vec.set 65 s135.2.2.1 x142.toNat x143) x144.toNat (45 : Int)) 33 (0 : Int), Vec.getD 65 (Vec.set 65 (Vec.set 65 s135.2.2.1 x142.toNat x143) x144.toNat (45 : Int)) 34 (0 : Int), Vec.getD 65 (Vec.set 65 (Vec.set 65 s135.2.2.1 x142.toNat x143) x144.toNat (45 : Int)) 35 (0 : Int), Vec.getD 65 (Vec.set 65 (Vec.set 65 s135.2.2.1 x142.toNat x143) x144.toNat (45 : Int)) 36 (0 : Int), Vec.getD 65 (Vec.set 65 (Vec.set 65 s135.2.2.1 x142.toNat x143) x144.toNat (45 : Int)) 37 (0 : Int), Vec.getD 65 (Vec.set 65 (Vec.set 65 s135.2.2.1 x142.toNat x143) x144.toNat (45 : Int)) 38 (0 : Int), Vec.getD 65 (Vec.set 65 (Vec.set 65 s135.2.2.1 x142.toNat x143) x144.toNat (45 : Int)) 39 (0 : Int), Vec.getD 65 (Vec.set 65 (Vec.set 65 s135.2.2.1 x142.toNat x143) x144.toNat (45 : Int)) 40 (0 : Int), Vec.getD 65 (Vec.set 65 (Vec.set 65 s135.2.2.1 x142.toNat x143) x144.toNat (45 : Int)) 41 (0 : Int), Vec.getD 65 (Vec.set 65 (Vec.set 65 s135.2.2.1 x142.toNat x143) x144.toNat (45 : Int)) 42 (0 : Int), Vec.getD 65 (Vec.set 65 (Vec.set 65 s135.2.2.1 x142.toNat x143) x144.toNat (45 : Int)) 43 (0 : Int), Vec.getD 65 (Vec.set 65 (Vec.set 65 s135.2.2.1 x142.toNat x143) x144.toNat (45 : Int)) 44 (0 : Int), Vec.getD 65 (Vec.set 65 (Vec.set 65 s135.2.2.1 x142.toNat x143) x144.toNat (45 : Int)) 45 (0 : Int), Vec.getD 65 (Vec.set 65 (Vec.set 65 s135.2.2.1 x142.toNat x143) x144.toNat (45 : Int)) 46 (0 : Int), Vec.getD 65 (Vec.set 65 (Vec.set 65 s135.2.2.1 x142.toNat x143) x144.toNat (45 : Int)) 47 (0 : Int), Vec.getD 65 (Vec.set 65 (Vec.set 65 s135.2.2.1 x142.toNat x143) x144.toNat (45 : Int)) 48 (0 : Int), Vec.getD 65 (Vec.set 65 (Vec.set 65 s135.2.2.1 x142.toNat x143) x144.toNat (45 : Int)) 49 (0 : Int), Vec.getD 65 (Vec.set 65 (Vec.set 65 s135.2.2.1 x142.toNat x143) x144.toNat (45 : Int)) 50 (0 : Int), Vec.getD 65 (Vec.set 65 (Vec.set 65 s135.2.2.1 x142.toNat x143) x144.toNat (45 : Int)) 51 (0 : Int), Vec.getD 65 (Vec.set 65 (Vec.set 65 s135.2.2.1 x142.toNat x143) x144.toNat (45 : Int)) 52 (0 : Int), Vec.getD 65 (Vec.set 65 (Vec.set 65 s135.2.2.1 x142.toNat x143) x144.toNat (45 : Int)) 53 (0 : Int), Vec.getD 65 (Vec.set 65 (Vec.set 65 s135.2.2.1 x142.toNat x143) x144.toNat (45 : Int)) 54 (0 : Int), Vec.getD 65 (Vec.set 65 (Vec.set 65 s135.2.2.1 x142.toNat x143) x144.toNat (45 : Int)) 55 (0 : Int), Vec.getD 65 (Vec.set 65 (Vec.set 65 s135.2.2.1 x142.toNat x143) x144.toNat (45 : Int)) 56 (0 : Int), Vec.getD 65 (Vec.set 65 (Vec.set 65 s135.2.2.1 x142.toNat x143) x144.toNat (45 : Int)) 57 (0 : Int), Vec.getD 65 (Vec.set 65 (Vec.set 65 s135.2.2.1 x142.toNat x143) x144.toNat (45 : Int)) 58 (0 : Int), Vec.getD 65 (Vec.set 65 (Vec.set 65 s135.2.2.1 x142.toNat x143) x144.toNat (45 : Int)) 59 (0 : Int), Vec.getD 65 (Vec.set 65 (Vec.set 65 s135.2.2.1 x142.toNat x143) x144.toNat (45 : Int)) 60 (0 : Int), Vec.getD 65 (Vec.set 65 (Vec.set 65 s135.2.2.1 x142.toNat x143) x144.toNat (45 : Int)) 61 (0 : Int), Vec.getD 65 (Vec.set 65 (Vec.set 65 s135.2.2.1 x142.toNat x143) x144.toNat (45 : Int)) 62 (0 : Int), Vec.getD 65 (Vec.set 65 (Vec.set 65 s135.2.2.1 x142.toNat x143) x144.toNat (45 : Int)) 63 (0 : Int), Vec.getD 65 (Vec.set 65 (Vec.set 65 s135.2.2.1 x142.toNat x143) x144.toNat (45 : Int)) 64 (0 : Int)] : (List Int))))), ()), ())
            else none
          else none
        else
        bif a4 then
          bif inS x142 ((65 : Nat) : Int) 65 then none else none
        else
        bif inS x142 ((65 : Nat) : Int) 65 then
          some ((([] : (List Int)), (ofBytes (List.take (65 - x142.toNat) (List.drop x142.toNat ([Vec.getD 65 (Vec.set 65 s135.2.2.1 x142.toNat x143) 0 (0 : Int), Vec.getD 65 (Vec.set 65 s135.2.2.1 x142.toNat x143) 1 (0 : Int), Vec.getD 65 (Vec.set 65 s135.2.2.1 x142.toNat x143) 2 (0 : Int), Vec.getD 65 (Vec.set 65 s135.2.2.1 x142.toNat x143) 3 (0 : Int), Vec.getD 65 (Vec.set 65 s135.2.2.1 x142.toNat x143) 4 (0 : Int), Vec.getD 65 (Vec.set 65 s135.2.2.1 x142.toNat x143) 5 (0 : Int), Vec.getD 65 (Vec.set 65 s135.2.2.1 x142.toNat x143) 6 (0 : Int), Vec.getD 65 (Vec.set 65 s135.2.2.1 x142.toNat x143) 7 (0 : Int), Vec.getD 65 (Vec.set 65 s135.2.2.1 x142.toNat x143) 8 (0 : Int), Vec.getD 65 (Vec.set 65 s135.2.2.1 x142.toNat x143) 9 (0 : Int), Vec.getD 65 (Vec.set 65 s135.2.2.1 x142.toNat x143) 10 (0 : Int), Vec.getD 65 (Vec.set 65 s135.2.2.1 x142.toNat x143) 11 (0 : Int), Vec.getD 65 (Vec.set 65 s135.2.2.1 x142.toNat x143) 12 (0 : Int), Vec.getD 65 (Vec.set 65 s135.2.2.1 x142.toNat x143) 13 (0 : Int), Vec.getD 65 (Vec.set 65 s135.2.2.1 x142.toNat x143) 14 (0 : Int), Vec.getD 65 (Vec.set 65 s135.2.2.1 x142.toNat x143) 15 (0 : Int), Vec.getD 65 (Vec.set 65 s135.2.2.1 x142.toNat x143) 16 (0 : Int), Vec.getD 65 (Vec.set 65 s135.2.2.1 x142.toNat x143) 17 (0 : Int), Vec.getD 65 (Vec.set 65 s135.2.2.1 x142.toNat x143) 18 (0 : Int), Vec.getD 65 (Vec.set 65 s135.2.2.1 x142.toNat x143) 19 (0 : Int), Vec.getD 65 (Vec.set 65 s135.2.2.1 x142.toNat x143) 20 (0 : Int), Vec.getD 65 (Vec.set 65 s135.2.2.1 x142.toNat x143) 21 (0 : Int), Vec.getD 65 (Vec.set 65 s135.2.2.1 x142.toNat x143) 22 (0 : Int), Vec.getD 65 (Vec.set 65 s135.2.2.1 x142.toNat x143) 23 (0 : Int), Vec.getD 65 (Vec.set 65 s135.2.2.1 x142.toNat x143) 24 (0 : Int), Vec.getD 65 (Vec.set 65 s135.2.2.1 x142.toNat x143) 25 (0 : Int), Vec.getD 65 (Vec.set 65 s135.2.2.1 x142.toNat x143) 26 (0 : Int), Vec.getD 65 (Vec.set 65 s135.2.2.1 x142.toNat x143) 27 (0 : Int), Vec.getD 65 (Vec.set 65 s135.2.2.1 x142.toNat x143) 28 (0 : Int), Vec.getD 65 (Vec.set 65 s135.2.2.1 x142.toNat x143) 29 (0 : Int), Vec.getD 65 (Vec.set 65 s135.2.2.1 x142.toNat x143) 30 (0 : Int), Vec.getD 65 (Vec.set 65 s135.2.2.1 x142.toNat x143) 31 (0 : Int), Vec.getD 65 (Vec.set 65 s135.2.2.1 x142.toNat x143) 32 (0 : Int), Vec.getD 65 (Vec.set 65 s135.2.2.1 x142.toNat x143) 33 (0 : Int), Vec.getD 65 (Vec.set 65 s135.2.2.1 x142.toNat x143) 34 (0 : Int), Vec.getD 65 (Vec.set 65 s135.2.2.1 x142.toNat x143) 35 (0 : Int), Vec.getD 65 (Vec.set 65 s135.2.2.1 x142.toNat x143) 36 (0 : Int), Vec.getD 65 (Vec.set 65 s135.2.2.1 x142.toNat x143) 37 (0 : Int), Vec.getD 65 (Vec.set 65 s135.2.2.1 x142.toNat x143) 38 (0 : Int), Vec.getD 65 (Vec.set 65 s135.2.2.1 x142.toNat x143) 39 (0 : Int), Vec.getD 65 (Vec.set 65 s135.2.2.1 x142.toNat x143) 40 (0 : Int), Vec.getD 65 (Vec.set 65 s135.2.2.1 x142.toNat x143) 41 (0 : Int), Vec.getD 65 (Vec.set 65 s135.2.2.1 x142.toNat x143) 42 (0 : Int), Vec.getD 65 (Vec.set 65 s135.2.2.1 x142.toNat x143) 43 (0 : Int), Vec.getD 65 (Vec.set 65 s135.2.2.1 x142.toNat x143) 44 (0 : Int), Vec.getD 65 (Vec.set 65 s135.2.2.1 x142.toNat x143) 45 (0 : Int), Vec.getD 65 (Vec.set 65 s135.2.2.1 x142.toNat x143) 46 (0 : Int), Vec.getD 65 (Vec.set 65 s135.2.2.1 x142.toNat x143) 47 (0 : Int), Vec.getD 65 (Vec.set 65 s135.2.2.1 x142.toNat x143) 48 (0 : Int), Vec.getD 65 (Vec.set 65 s135.2.2.1 x142.toNat x143) 49 (0 : Int), Vec.getD 65 (Vec.set 65 s135.2.2.1 x142.toNat x143) 50 (0 : Int), Vec.getD 65 (Vec.set 65 s135.2.2.1 x142.toNat x143) 51 (0 : Int), Vec.getD 65 (Vec.set 65 s135.2.2.1 x142.toNat x143) 52 (0 : Int), Vec.getD 65 (Vec.set 65 s135.2.2.1 x142.toNat x143) 53 (0 : Int), Vec.getD 65 (Vec.set 65 s135.2.2.1 x142.toNat x143) 54 (0 : Int), Vec.getD 65 (Vec.set 65 s135.2.2.1 x142.toNat x143) 55 (0 : Int), Vec.getD 65 (Vec.set 65 s135.2.2.1 x142.toNat x143) 56 (0 : Int), Vec.getD 65 (Vec.set 65 s135.2.2.1 x142.toNat x143) 57 (0 : Int), Vec.getD 65 (Vec.set 65 s135.2.2.1 x142.toNat x143) 58 (0 : Int), Vec.getD 65 (Vec.set 65 s135.2.2.1 x142.toNat x143) 59 (0 : Int), Vec.getD 65 (Vec.set 65 s135.2.2.1 x142.toNat x143) 60 (0 : Int), Vec.getD 65 (Vec.set 65 s135.2.2.1 x142.toNat x143) 61 (0 : Int), Vec.getD 65 (Vec.set 65 s135.2.2.1 x142.toNat x143) 62 (0 : Int), Vec.getD 65 (Vec.set 65 s135.2.2.1 x142.toNat x143) 63 (0 : Int), Vec.getD 65 (Vec.set 65 s135.2.2.1 x142.toNat x143) 64 (0 : Int)] : (List Int))))), ()), ())
        else none
      else none
    else none)
noncomputable def internal_strconv_formatBits_l11_2 (x151 : Int) (x153 : Int) (x150 : Int) (a3 : Bool) (a4 : Bool) (s160 : (Int × Int × (Vec 65 Int) × Unit)) : Option ((Int × Int × (Vec 65 Int) × Unit) ⊕ (((List Int) × List UInt8 × Unit) × Unit)) :=
  bif (iLe x151 s160.1) then
    let x162 := iSub .i64 s160.2.1 1
    let x163 := iAnd .u64 s160.1 x153
    bif inB x163 (List.length ([48, 49, 50, 51, 52, 53, 54, 55, 56, 57, 97, 98, 99, 100, 101, 102, 103, 104, 105, 106, 107, 108, 109, 110, 111, 112, 113, 114, 115, 116, 117, 118, 119, 120, 121, 122])) then
      bif inB x162 65 then
        bif iLe 0 x150 then
          some (Sum.inl ((iShr .u64 s160.1 x150), x162, Vec.set 65 s160.2.2.1 x162.toNat (strAt ([48, 49, 50, 51, 52, 53, 54, 55, 56, 57, 97, 98, 99, 100, 101, 102, 103, 104, 105, 106, 107, 108, 109, 110, 111, 112, 113, 114, 115, 116, 117, 118, 119, 120, 121, 122]) x163), ()))
        else none
      else none
    else none
  else
  Option.map Sum.inr (
    let x166 := iSub .i64 s160.2.1 1
    bif inB s160.1 (List.length ([48, 49, 50, 51, 52, 53, 54, 55, 56, 57, 97, 98, 99, 100, 101, 102, 103, 104, 105, 106, 107, 108, 109, 110, 111, 112, 113, 114, 115, 116, 117, 118, 119, 120, 121, 122])) then
      let x167 := strAt ([48, 49, 50, 51, 52, 53, 54, 55, 56, 57, 97, 98, 99, 100, 101, 102, 103, 104, 105, 106, 107, 108, 109, 110, 111, 112, 113, 114, 115, 116, 117, 118, 119, 120, 121, 122]) s160.1
      bif inB x166 65 then
        bif a3 then
          let x168 := iSub .i64 x166 1
          bif inB x168 65 then
            bif a4 then
              bif inS x168 ((65 : Nat) : Int) 65 then none else none
            else
            bif inS x168 ((65 : Nat) : Int) 65 then
              some ((([] : (List Int)), (ofBytes (List.take (65 - x168.toNat) (List.drop x168.toNat ([Vec.getD 65 (Vec.set 65 (Vec.set 65 s160.2.2.1 x166.toNat x167) x168.toNat (45 : Int)) 0 (0 : Int), Vec.getD 65 (Vec.set 65 (Vec.set 65 s160.2.2.1 x166.toNat x167) x168.toNat (45 : Int)) 1 (0 : Int), Vec.getD 65 (Vec.set 65 (Vec.set 65 s160.2.2.1 x166.toNat x167) x168.toNat (45 : Int)) 2 (0 : Int), Vec.getD 65 (Vec.set 65 (Vec.set 65 s160.2.2.1 x166.toNat x167) x168.toNat (45 : Int)) 3 (0 : Int), Vec.getD 65 (Vec.set 65 (Vec.set 65 s160.2.2.1 x166.toNat x167) x168.toNat (45 : Int)) 4 (0 : Int), Vec.getD 65 (Vec.set 65 (Vec.set 65 s160.2.2.1 x166.toNat x167) x168.toNat (45 : Int)) 5 (0 : Int), Vec.getD 65 (Vec.set 65 (Vec.set 65 s160.2.2.1 x166.toNat x167) x168.toNat (45 : Int)) 6 (0 : Int), Vec.getD 65 (Vec.set 65 (Vec.set 65 s160.2.2.1 x166.toNat x167) x168.toNat (45 : Int)) 7 (0 : Int), Vec.getD 65 (Vec.set 65 (Vec.set 65 s160.2.2.1 x166.toNat x167) x168.toNat (45 : Int)) 8 (0 : Int), Vec.getD 65 (Vec.set 65 (Vec.set 65 s160.2.2.1 x166.toNat x167) x168.toNat (45 : Int)) 9 (0 : Int), Vec.getD 65 (Vec.set 65 (Vec.set 65 s160.2.2.1 x166.toNat x167) x168.toNat (45 : Int)) 10 (0 : Int), Vec.getD 65 (Vec.set 65 (Vec.set 65 s160.2.2.1 x166.toNat x167) x168.toNat (45 : Int)) 11 (0 : Int), Vec.getD 65 (Vec.set 65 (Vec.set 65 s160.2.2.1 x166.toNat x167) x168.toNat (45 : Int)) 12 (0 : Int), Vec.getD 65 (Vec.set 65 (Vec.set 65 s160.2.2.1 x166.toNat x167) x168.toNat (45 : Int)) 13 (0 : Int), Vec.getD 65 (Vec.set 65 (Vec.set 65 s160.2.2.1 x166.toNat x167) x168.toNat (45 : Int)) 14 (0 : Int), Vec.getD 65 (Vec.set 65 (Vec.set 65 s160.2.2.1 x166.toNat x167) x168.toNat (45 : Int)) 15 (0 : Int), Vec.getD 65 (Vec.set 65 (Vec.set 65 s160.2.2.1 x166.toNat x167) x168.toNat (45 : Int)) 16 (0 : Int), Vec.getD 65 (Vec.set 65 (Vec.set 65 s160.2.2.1 x166.toNat x167) x168.toNat (45 : Int)) 17 (0 : Int), Vec.getD 65 (Vec.set 65 (Vec.set 65 s160.2.2.1 x166.toNat x167) x168.toNat (45 : Int)) 18 (0 : Int), Vec.getD 65 (Vec.set 65 (Vec.set 65 s160.2.2.1 x166.toNat x167) x168.toNat (45 : Int)) 19 (0 : Int), Vec.getD 65 (Vec.set 65 (Vec.set 65 s160.2.2.1 x166.toNat x167) x168.toNat (45 : Int)) 20 (0 : Int), Vec.getD 65 (Vec.set 65 (Vec.set 65 s160.2.2.1 x166.toNat x167) x168.toNat (45 : Int)) 21 (0 : Int), Vec.getD 65 (Vec.set 65 (Vec.set 65 s160.2.2.1 x166.toNat x167) x168.toNat (45 : Int)) 22 (0 : Int), Vec.getD 65 (Vec.set 65 (Vec.set 65 s160.2.2.1 x166.toNat x167) x168.toNat (45 : Int)) 23 (0 : Int), Vec.getD 65 (Vec.set 65 (Vec.set 65 s160.2.2.1 x166.toNat x167) x168.toNat (45 : Int)) 24 (0 : Int), Vec.getD 65 (Vec.set 65 (Vec.set 65 s160.2.2.1 x166.toNat x167) x168.toNat (45 : Int)) 25 (0 : Int), Vec.getD 65 (Vec.set 65 (Vec.set 65 s160.2.2.1 x166.toNat x167) x168.toNat (45 : Int)) 26 (0 : Int), Vec.getD 65 (Vec.set 65 (Vec.set 65 s160.2.2.1 x166.toNat x167) x168.toNat (45 : Int)) 27 (0 : Int), Vec.getD 65 (Vec.set 65 (Vec.set 65 s160.2.2.1 x166.toNat x167) x168.toNat (45 : Int)) 28 (0 : Int), Vec.getD 65 (Vec.set 65 (Vec.set 65 s160.2.2.1 x166.toNat x167) x168.toNat (45 : Int)) 29 (0 : Int), Vec.getD 65 (Vec.set 65 (Vec.set 65 s160.2.2.1 x166.toNat x167) x168.toNat (45 : Int)) 30 (0 : Int), Vec.getD 65 (Vec.set 65 (Vec.set 65 s160.2.2.1 x166.toNat x167) x168.toNat (45 : Int)) 31 (0 : Int), Vec.getD 65 (Vec.set 65 (Vec.set 65 s160.2.2.1 x166.toNat x167) x168.toNat (45 : Int)) 32 (0 : Int), Vec.getD 65 (Vec.set 65 (Vec.set 65 s160.2.2.1 x166.toNat x167) x168.toNat (45 : Int)) 33 (0 : Int), Vec.getD 65 (Vec.set 65 (Vec.set 65 s160.2.2.1 x166.toNat x167) x168.toNat (45 : Int)) 34 (0 : Int), Vec.getD 65 (Vec.set 65 (Vec.set 65 s160.2.2.1 x166.toNat x167) x168.toNat (45 : Int)) 35 (0 : Int), Vec.getD 65 (Vec.set 65 (Vec.set 65 s160.2.2.1 x166.toNat x167) x168.toNat (45 : Int)) 36 (0 : Int), Vec.getD 65 (Vec.set 65 (Vec.set 65 s160.2.2.1 x166.toNat x167) x168.toNat (45 : Int)) 37 (0 : Int), Vec.getD 65 (Vec.set 65 (Vec.set 65 s160.2.2.1 x166.toNat x167) x168.toNat (45 : Int)) 38 (0 : Int), Vec.getD 65 (Vec.set 65 (Vec.set 65 s160.2.2.1 x166.toNat x167) x168.toNat (45 : Int)) 39 (0 : Int), Vec.getD 65 (Vec.set 65 (Vec.set 65 s160.2.2.1 x166.toNat x167) x168.toNat (45 : Int)) 40 (0 : Int), Vec.getD 65 (Vec.set 65 (Vec.set 65 s160.2.2.1 x166.toNat x167) x168.toNat (45 : Int)) 41 (0 : Int), Vec.getD 65 (Vec.set 65 (Vec.set 65 s160.2.2.1 x166.toNat x167) x168.toNat (45 : Int)) 42 (0 : Int), Vec.getD 65 (Vec.set 65 (Vec.set 65 s160.2.2.1 x166.toNat x167) x168.toNat (45 : Int)) 43 (0 : Int), Vec.getD 65 (Vec.set 65 (Vec.set 65 s160.2.2.1 x166.toNat x167) x168.toNat (45 : Int)) 44 (0 : Int), Vec.getD 65 (Vec.set 65 (Vec.set 65 s160.2.2.1 x166.toNat x167) x168.toNat (45 : Int)) 45 (0 : Int), Vec.getD 65 (Vec.set 65 (Vec.set 65 s160.2.2.1 x166.toNat x167) x168.toNat (45 : Int)) 46 (0 : Int), Vec.getD 65 (Vec.set 65 (Vec.set 65 s160.2.2.1 x166.toNat x167) x168.toNat (45 : Int)) 47 (0 : Int), Vec.getD 65 (Vec.set 65 (Vec.set 65 s160.2.2.1 x166.toNat x167) x168.toNat (45 : Int)) 48 (0 : Int), Vec.getD 65 (Vec.set 65 (Vec.set 65 s160.2.2.1 x166.toNat x167) x168.toNat (45 : Int)) 49 (0 : Int), Vec.getD 65 (Vec.set 65 (Vec.set 65 s160.2.2.1 x166.toNat x167) x168.toNat (45 : Int)) 50 (0 : Int), Vec.getD 65 (Vec.set 65 (Vec.set 65 s160.2.2.1 x166.toNat x167) x168.toNat (45 : Int)) 51 (0 : Int), Vec.getD 65 (Vec.set 65 (Vec.set 65 s160.2.2.1 x166.toNat x167) x168.toNat (45 : Int)) 52 (0 : Int), Vec.getD 65 (Vec.set 65 (Vec.set 65 s160.2.2.1 x166.toNat x167) x168.toNat (45 : Int)) 53 (0 : Int), Vec.getD 65 (Vec.set 65 (Vec.set 65 s160.2.2.1 x166.toNat x167) x168.toNat (45 : Int)) 54 (0 : Int), Vec.getD 65 (Vec.set 65 (Vec.set 65 s160.2.2.1 x166.toNat x167) x168.toNat (45 : Int)) 55 (0 : Int), Vec.getD 65 (Vec.set 65 (Vec.set 65 s160.2.2.1 x166.toNat x167) x168.toNat (45 : Int)) 56 (0 : Int), Vec.getD 65 (Vec.set 65 (Vec.set 65 s160.2.2.1 x166.toNat x167) x168.toNat (45 : Int)) 57 (0 : Int), Vec.getD 65 (Vec.set 65 (Vec.set 65 s160.2.2.1 x166.toNat x167) x168.toNat (45 : Int)) 58 (0 : Int), Vec.getD 65 (Vec.set 65 (Vec.set 65 s160.2.2.1 x166.toNat x167) x168.toNat (45 : Int)) 59 (0 : Int), Vec.getD 65 (Vec.set 65 (Vec.set 65 s160.2.2.1 x166.toNat x167) x168.toNat (45 : Int)) 60 (0 : Int), Vec.getD 65 (Vec.set 65 (Vec.set 65 s160.2.2.1 x166.toNat x167) x168.toNat (45 : Int)) 61 (0 : Int), Vec.getD 65 (Vec.set 65 (Vec.set 65 s160.2.2.1 x166.toNat x167) x168.toNat (45 : Int)) 62 (0 : Int), Vec.getD 65 (Vec.set 65 (Vec.set 65 s160.2.2.1 x166.toNat x167) x168.toNat (45 : Int)) 63 (0 : Int), Vec.getD 65 (Vec.set 65 (Vec.set 65 s160.2.2.1 x166.toNat x167) x168.toNat (45 : Int)) 64 (0 : Int)] : (List Int))))), ()), ())
            else none
          else none
        else
        bif a4 then
          bif inS x166 ((65 : Nat) : Int) 65 then none else none
        else
        bif inS x166 ((65 : Nat) : Int) 65 then
          some ((([] : (List Int)), (ofBytes (List.take (65 - x166.toNat) (List.drop x166.toNat ([Vec.getD 65 (Vec.set 65 s160.2.2.1 x166.toNat x167) 0 (0 : Int), Vec.getD 65 (Vec.set 65 s160.2.2.1 x166.toNat x167) 1 (0 : Int), Vec.getD 65 (Vec.set 65 s160.2.2.1 x166.toNat x167) 2 (0 : Int), Vec.getD 65 (Vec.set 65 s160.2.2.1 x166.toNat x167) 3 (0 : Int), Vec.getD 65 (Vec.set 65 s160.2.2.1 x166.toNat x167) 4 (0 : Int), Vec.getD 65 (Vec.set 65 s160.2.2.1 x166.toNat x167) 5 (0 : Int), Vec.getD 65 (Vec.set 65 s160.2.2.1 x166.toNat x167) 6 (0 : Int), Vec.getD 65 (Vec.set 65 s160.2.2.1 x166.toNat x167) 7 (0 : Int), Vec.getD 65 (Vec.set 65 s160.2.2.1 x166.toNat x167) 8 (0 : Int), Vec.getD 65 (Vec.set 65 s160.2.2.1 x166.toNat x167) 9 (0 : Int), Vec.getD 65 (Vec.set 65 s160.2.2.1 x166.toNat x167) 10 (0 : Int), Vec.getD 65 (Vec.set 65 s160.2.2.1 x166.toNat x167) 11 (0 : Int), Vec.getD 65 (Vec.set 65 s160.2.2.1 x166.toNat x167) 12 (0 : Int), Vec.getD 65 (Vec.set 65 s160.2.2.1 x166.toNat x167) 13 (0 : Int), Vec.getD 65 (Vec.set 65 s160.2.2.1 x166.toNat x167) 14 (0 : Int), Vec.getD 65 (Vec.set 65 s160.2.2.1 x166.toNat x167) 15 (0 : Int), Vec.getD 65 (Vec.set 65 s160.2.2.1 x166.toNat x167) 16 (0 : Int), Vec.getD 65 (Vec.set 65 s160.2.2.1 x166.toNat x167) 17 (0 : Int), Vec.getD 65 (Vec.set 65 s160.2.2.1 x166.toNat x167) 18 (0 : Int), Vec.getD 65 (Vec.set 65 s160.2.2.1 x166.toNat x167) 19 (0 : Int), Vec.getD 65 (Vec.set 65 s160.2.2.1 x166.toNat x167) 20 (0 : Int), Vec.getD 65 (Vec.set 65 s160.2.2.1 x166.toNat x167) 21 (0 : Int), Vec.getD 65 (Vec.set 65 s160.2.2.1 x166.toNat x167) 22 (0 : Int), Vec.getD 65 (Vec.set 65 s160.2.2.1 x166.toNat x167) 23 (0 : Int), Vec.getD 65 (Vec.set 65 s160.2.2.1 x166.toNat x167) 24 (0 : Int), Vec.getD 65 (Vec.set 65 s160.2.2.1 x166.toNat x167) 25 (0 : Int), Vec.getD 65 (Vec.set 65 s160.2.2.1 x166.toNat x167) 26 (0 : Int), Vec.getD 65 (Vec.set 65 s160.2.2.1 x166.toNat x167) 27 (0 : Int), Vec.getD 65 (Vec.set 65 s160.2.2.1 x166.toNat x167) 28 (0 : Int), Vec.getD 65 (Vec.set 65 s160.2.2.1 x166.toNat x167) 29 (0 : Int), Vec.getD 65 (Vec.set 65 s160.2.2.1 x166.toNat x167) 30 (0 : Int), Vec.getD 65 (Vec.set 65 s160.2.2.1 x166.toNat x167) 31 (0 : Int), Vec.getD 65 (Vec.set 65 s160.2.2.1 x166.toNat x167) 32 (0 : Int), Vec.getD 65 (Vec.set 65 s160.2.2.1 x166.toNat x167) 33 (0 : Int), Vec.getD 65 (Vec.set 65 s160.2.2.1 x166.toNat x167) 34 (0 : Int), Vec.getD 65 (Vec.set 65 s160.2.2.1 x166.toNat x167) 35 (0 : Int), Vec.getD 65 (Vec.set 65 s160.2.2.1 x166.toNat x167) 36 (0 : Int), Vec.getD 65 (Vec.set 65 s160.2.2.1 x166.toNat x167) 37 (0 : Int), Vec.getD 65 (Vec.set 65 s160.2.2.1 x166.toNat x167) 38 (0 : Int), Vec.getD 65 (Vec.set 65 s160.2.2.1 x166.toNat x167) 39 (0 : Int), Vec.getD 65 (Vec.set 65 s160.2.2.1 x166.toNat x167) 40 (0 : Int), Vec.getD 65 (Vec.set 65 s160.2.2.1 x166.toNat x167) 41 (0 : Int), Vec.getD 65 (Vec.set 65 s160.2.2.1 x166.toNat x167) 42 (0 : Int), Vec.getD 65 (Vec.set 65 s160.2.2.1 x166.toNat x167) 43 (0 : Int), Vec.getD 65 (Vec.set 65 s160.2.2.1 x166.toNat x167) 44 (0 : Int), Vec.getD 65 (Vec.set 65 s160.2.2.1 x166.toNat x167) 45 (0 : Int), Vec.getD 65 (Vec.set 65 s160.2.2.1 x166.toNat x167) 46 (0 : Int), Vec.getD 65 (Vec.set 65 s160.2.2.1 x166.toNat x167) 47 (0 : Int), Vec.getD 65 (Vec.set 65 s160.2.2.1 x166.toNat x167) 48 (0 : Int), Vec.getD 65 (Vec.set 65 s160.2.2.1 x166.toNat x167) 49 (0 : Int), Vec.getD 65 (Vec.set 65 s160.2.2.1 x166.toNat x167) 50 (0 : Int), Vec.getD 65 (Vec.set 65 s160.2.2.1 x166.toNat x167) 51 (0 : Int), Vec.getD 65 (Vec.set 65 s160.2.2.1 x166.toNat x167) 52 (0 : Int), Vec.getD 65 (Vec.set 65 s160.2.2.1 x166.toNat x167) 53 (0 : Int), Vec.getD 65 (Vec.set 65 s160.2.2.1 x166.toNat x167) 54 (0 : Int), Vec.getD 65 (Vec.set 65 s160.2.2.1 x166.toNat x167) 55 (0 : Int), Vec.getD 65 (Vec.set 65 s160.2.2.1 x166.toNat x167) 56 (0 : Int), Vec.getD 65 (Vec.set 65 s160.2.2.1 x166.toNat x167) 57 (0 : Int), Vec.getD 65 (Vec.set 65 s160.2.2.1 x166.toNat x167) 58 (0 : Int), Vec.getD 65 (Vec.set 65 s160.2.2.1 x166.toNat x167) 59 (0 : Int), Vec.getD 65 (Vec.set 65 s160.2.2.1 x166.toNat x167) 60 (0 : Int), Vec.getD 65 (Vec.set 65 s160.2.2.1 x166.toNat x167) 61 (0 : Int), Vec.getD 65 (Vec.set 65 s160.2.2.1 x166.toNat x167) 62 (0 : Int), Vec.getD 65 (Vec.set 65 s160.2.2.1 x166.toNat x167) 63 (0 : Int), Vec.getD 65 (Vec.set 65 s160.2.2.1 x166.toNat x167) 64 (0 : Int)] : (List Int))))), ()), ())
        else none
      else none
    else none)
noncomputable def internal_strconv_formatBits_l18_2 (x171 : Int) (a3 : Bool) (a4 : Bool) (s179 : (Int × Int × (Vec 65 Int) × Unit)) : Option ((Int × Int × (Vec 65 Int) × Unit) ⊕ (((List Int) × List UInt8 × Unit) × Unit)) :=
  bif (iLe x171 s179.1) then
    let x181 := iSub .i64 s179.2.1 1
    bif iEq x171 0 then none else
    let x182 := iQuo .u64 s179.1 x171
    let x184 := iSub .u64 s179.1 (iMul .u64 x182 x171)
    bif inB x184 (List.length ([48, 49, 50, 51, 52, 53, 54, 55, 56, 57, 97, 98, 99, 100, 101, 102, 103, 104, 105, 106, 107, 108, 109, 110, 111, 112, 113, 114, 115, 116, 117, 118, 119, 120, 121, 122])) then
      bif inB x181 65 then some (Sum.inl (x182, x181, Vec.set 65 s179.2.2.1 x181.toNat (strAt ([48, 49, 50, 51, 52, 53, 54, 55, 56, 57, 97, 98, 99, 100, 101, 102, 103, 104, 105, 106, 107, 108, 109, 110, 111, 112, 113, 114, 115, 116, 117, 118, 119, 120, 121, 122]) x184), ())) else none
    else none
  else
  Option.map Sum.inr (
    let x186 := iSub .i64 s179.2.1 1
    bif inB s179.1 (List.length ([48, 49, 50, 51, 52, 53, 54, 55, 56, 57, 97, 98, 99, 100, 101, 102, 103, 104, 105, 106, 107, 108, 109, 110, 111, 112, 113, 114, 115, 116, 117, 118, 119, 120, 121, 122])) then
      let x187 := strAt ([48, 49, 50, 51, 52, 53, 54, 55, 56, 57, 97, 98, 99, 100, 101, 102, 103, 104, 105, 106, 107, 108, 109, 110, 111, 112, 113, 114, 115, 116, 117, 118, 119, 120, 121, 122]) s179.1
      bif inB x186 65 then
        bif a3 then
          let x188 := iSub .i64 x186 1
          bif inB x188 65 then
            bif a4 then
              bif inS x188 ((65 : Nat) : Int) 65 then none else none
            else
            bif inS x188 ((65 : Nat) : Int) 65 then
              some ((([] : (List Int)), (ofBytes (List.take (65 - x188.toNat) (List.drop x188.toNat ([Vec.getD 65 (Vec.set 65 (Vec.set 65 s179.2.2.1 x186.toNat x187) x188.toNat (45 : Int)) 0 (0 : Int), Vec.getD 65 (Vec.set 65 (Vec.set 65 s179.2.2.1 x186.toNat x187) x188.toNat (45 : Int)) 1 (0 : Int), Vec.getD 65 (Vec.set 65 (Vec.set 65 s179.2.2.1 x186.toNat x187) x188.toNat (45 : Int)) 2 (0 : Int), Vec.getD 65 (Vec.set 65 (Vec.set 65 s179.2.2.1 x186.toNat x187) x188.toNat (45 : Int)) 3 (0 : Int), Vec.getD 65 (Vec.set 65 (Vec.set 65 s179.2.2.1 x186.toNat x187) x188.toNat (45 : Int)) 4 (0 : Int), Vec.getD 65 (Vec.set 65 (Vec.set 65 s179.2.2.1 x186.toNat x187) x188.toNat (45 : Int)) 5 (0 : Int), Vec.getD 65 (Vec.set 65 (Vec.set 65 s179.2.2.1 x186.toNat x187) x188.toNat (45 : Int)) 6 (0 : Int), Vec.getD 65 (Vec.set 65 (Vec.set 65 s179.2.2.1 x186.toNat x187) x188.toNat (45 : Int)) 7 (0 : Int), Vec.getD 65 (Vec.set 65 (Vec.set 65 s179.2.2.1 x186.toNat x187) x188.toNat (45 : Int)) 8 (0 : Int), Vec.getD 65 (Vec.set 65 (Vec.set 65 s179.2.2.1 x186.toNat x187) x188.toNat (45 : Int)) 9 (0 : Int), Vec.getD 65 (Vec.set 65 (Vec.set 65 s179.2.2.1 x186.toNat x187) x188.toNat (45 : Int)) 10 (0 : Int), Vec.getD 65 (Vec.set 65 (Vec.set 65 s179.2.2.1 x186.toNat x187) x188.toNat (45 : Int)) 11 (0 : Int), Vec.getD 65 (Vec.set 65 (Vec.set 65 s179.2.2.1 x186.toNat x187) x188.toNat (45 : Int)) 12 (0 : Int), Vec.getD 65 (Vec.set 65 (Vec.set 65 s179.2.2.1 x186.toNat x187) x188.toNat (45 : Int)) 13 (0 : Int), Vec.getD 65 (Vec.set 65 (Vec.set 65 s179.2.2.1 x186.toNat x187) x188.toNat (45 : Int)) 14 (0 : Int), Vec.getD 65 (Vec.set 65 (Vec.set 65 s179.2.2.1 x186.toNat x187) x188.toNat (45 : Int)) 15 (0 : Int), Vec.getD 65 (Vec.set 65 (Vec.set 65 s179.2.2.1 x186.toNat x187) x188.toNat (45 : Int)) 16 (0 : Int), Vec.getD 65 (Vec.set 65 (Vec.set 65 s179.2.2.1 x186.toNat x187) x188.toNat (45 : Int)) 17 (0 : Int), Vec.getD 65 (Vec.set 65 (Vec.set 65 s179.2.2.1 x186.toNat x187) x188.toNat (45 : Int)) 18 (0 : Int), Vec.getD 65 (Vec.set 65 (Vec.set 65 s179.2.2.1 x186.toNat x187) x188.toNat (45 : Int)) 19 (0 : Int), Vec.getD 65 (Vec.set 65 (Vec.set 65 s179.2.2.1 x186.toNat x187) x188.toNat (45 : Int)) 20 (0 : Int), Vec.getD 65 (Vec.set 65 (Vec.set 65 s179.2.2.1 x186.toNat x187) x188.toNat (45 : Int)) 21 (0 : Int), Vec.getD 65 (Vec.set 65 (Vec.set 65 s179.2.2.1 x186.toNat x187) x188.toNat (45 : Int)) 22 (0 : Int), Vec.getD 65 (Vec.set 65 (Vec.set 65 s179.2.2.1 x186.toNat x187) x188.toNat (45 : Int)) 23 (0 : Int), Vec.getD 65 (Vec.set 65 (Vec.set 65 s179.2.2.1 x186.toNat x187) x188.toNat (45 : Int)) 24 (0 : Int), Vec.getD 65 (Vec.set 65 (Vec.set 65 s179.2.2.1 x186.toNat x187) x188.toNat (45 : Int)) 25 (0 : Int), Vec.getD 65 (Vec.set 65 (Vec.set 65 s179.2.2.1 x186.toNat x187) x188.toNat (45 : Int)) 26 (0 : Int), Vec.getD 65 (Vec.set 65 (Vec.set 65 s179.2.2.1 x186.toNat x187) x188.toNat (45 : Int)) 27 (0 : Int), Vec.getD 65 (Vec.set 65 (Vec.set 65 s179.2.2.1 x186.toNat x187) x188.toNat (45 : Int)) 28 (0 : Int), Vec.getD 65 (Vec.set 65 (Vec.set 65 s179.2.2.1 x186.toNat x187) x188.toNat (45 : Int)) 29 (0 : Int), Vec.getD 65 (Vec.set 65 (Vec.set 65 s179.2.2.1 x186.toNat x187) x188.toNat (45 : Int)) 30 (0 : Int), Vec.getD 65 (Vec.set 65 (Vec.set 65 s179.2.2.1 x186.toNat x187) x188.toNat (45 : Int)) 31 (0 : Int), Vec.getD 65 (Vec.set 65 (Vec.set 65 s179.2.2.1 x186.toNat x187) x188.toNat (45 : Int)) 32 (0 : Int), Vec.getD 65 (Vec.set 65 (Vec.set 65 s179.2.2.1 x186.toNat x187) x188.toNat (45 : Int)) 33 (0 : Int), Vec.getD 65 (Vec.set 65 (Vec.set 65 s179.2.2.1 x186.toNat x187) x188.toNat (45 : Int)) 34 (0 : Int), Vec.getD 65 (Vec.set 65 (Vec.set 65 s179.2.2.1 x186.toNat x187) x188.toNat (45 : Int)) 35 (0 : Int), Vec.getD 65 (Vec.set 65 (Vec.set 65 s179.2.2.1 x186.toNat x187) x188.toNat (45 : Int)) 36 (0 : Int), Vec.getD 65 (Vec.set 65 (Vec.set 65 s179.2.2.1 x186.toNat x187) x188.toNat (45 : Int)) 37 (0 : Int), Vec.getD 65 (Vec.set 65 (Vec.set 65 s179.2.2.1 x186.toNat x187) x188.toNat (45 : Int)) 38 (0 : Int), Vec.getD 65 (Vec.set 65 (Vec.set 65 s179.2.2.1 x186.toNat x187) x188.toNat (45 : Int)) 39 (0 : Int), Vec.getD 65 (Vec.set 65 (Vec.set 65 s179.2.2.1 x186.toNat x187) x188.toNat (45 : Int)) 40 (0 : Int), Vec.getD 65 (Vec.set 65 (Vec.set 65 s179.2.2.1 x186.toNat x187) x188.toNat (45 : Int)) 41 (0 : Int), Vec.getD 65 (Vec.set 65 (Vec.set 65 s179.2.2.1 x186.toNat x187) x188.toNat (45 : Int)) 42 (0 : Int), Vec.getD 65 (Vec.set 65 (Vec.set 65 s179.2.2.1 x186.toNat x187) x188.toNat (45 : Int)) 43 (0 : Int), Vec.getD 65 (Vec.set 65 (Vec.set 65 s179.2.2.1 x186.toNat x187) x188.toNat (45 : Int)) 44 (0 : Int), Vec.getD 65 (Vec.set 65 (Vec.set 65 s179.2.2.1 x186.toNat x187) x188.toNat (45 : Int)) 45 (0 : Int), Vec.getD 65 (Vec.set 65 (Vec.set 65 s179.2.2.1 x186.toNat x187) x188.toNat (45 : Int)) 46 (0 : Int), Vec.getD 65 (Vec.set 65 (Vec.set 65 s179.2.2.1 x186.toNat x187) x188.toNat (45 : Int)) 47 (0 : Int), Vec.getD 65 (Vec.set 65 (Vec.set 65 s179.2.2.1 x186.toNat x187) x188.toNat (45 : Int)) 48 (0 : Int), Vec.getD 65 (Vec.set 65 (Vec.set 65 s179.2.2.1 x186.toNat x187) x188.toNat (45 : Int)) 49 (0 : Int), Vec.getD 65 (Vec.set 65 (Vec.set 65 s179.2.2.1 x186.toNat x187) x188.toNat (45 : Int)) 50 (0 : Int), Vec.getD 65 (Vec.set 65 (Vec.set 65 s179.2.2.1 x186.toNat x187) x188.toNat (45 : Int)) 51 (0 : Int), Vec.getD 65 (Vec.set 65 (Vec.set 65 s179.2.2.1 x186.toNat x187) x188.toNat (45 : Int)) 52 (0 : Int), Vec.getD 65 (Vec.set 65 (Vec.set 65 s179.2.2.1 x186.toNat x187) x188.toNat (45 : Int)) 53 (0 : Int), Vec.getD 65 (Vec.set 65 (Vec.set 65 s179.2.2.1 x186.toNat x187) x188.toNat (45 : Int)) 54 (0 : Int), Vec.getD 65 (Vec.set 65 (Vec.set 65 s179.2.2.1 x186.toNat x187) x188.toNat (45 : Int)) 55 (0 : Int), Vec.getD 65 (Vec.set 65 (Vec.set 65 s179.2.2.1 x186.toNat x187) x188.toNat (45 : Int)) 56 (0 : Int), Vec.getD 65 (Vec.set 65 (Vec.set 65 s179.2.2.1 x186.toNat x187) x188.toNat (45 : Int)) 57 (0 : Int), Vec.getD 65 (Vec.set 65 (Vec.set 65 s179.2.2.1 x186.toNat x187) x188.toNat (45 : Int)) 58 (0 : Int), Vec.getD 65 (Vec.set 65 (Vec.set 65 s179.2.2.1 x186.toNat x187) x188.toNat (45 : Int)) 59 (0 : Int), Vec.getD 65 (Vec.set 65 (Vec.set 65 s179.2.2.1 x186.toNat x187) x188.toNat (45 : Int)) 60 (0 : Int), Vec.getD 65 (Vec.set 65 (Vec.set 65 s179.2.2.1 x186.toNat x187) x188.toNat (45 : Int)) 61 (0 : Int), Vec.getD 65 (Vec.set 65 (Vec.set 65 s179.2.2.1 x186.toNat x187) x188.toNat (45 : Int)) 62 (0 : Int), Vec.getD 65 (Vec.set 65 (Vec.set 65 s179.2.2.1 x186.toNat x187) x188.toNat (45 : Int)) 63 (0 : Int), Vec.getD 65 (Vec.set 65 (Vec.set 65 s179.2.2.1 x186.toNat x187) x188.toNat (45 : Int)) 64 (0 : Int)] : (List Int))))), ()), ())
            else none
          else none
        else
        bif a4 then
          bif inS x186 ((65 : Nat) : Int) 65 then none else none
        else
        bif inS x186 ((65 : Nat) : Int) 65 then
          some ((([] : (List Int)), (ofBytes (List.take (65 - x186.toNat) (List.drop x186.toNat ([Vec.getD 65 (Vec.set 65 s179.2.2.1 x186.toNat x187) 0 (0 : Int), Vec.getD 65 (Vec.set 65 s179.2.2.1 x186.toNat x187) 1 (0 : Int), Vec.getD 65 (Vec.set 65 s179.2.2.1 x186.toNat x187) 2 (0 : Int), Vec.getD 65 (Vec.set 65 s179.2.2.1 x186.toNat x187) 3 (0 : Int), Vec.getD 65 (Vec.set 65 s179.2.2.1 x186.toNat x187) 4 (0 : Int), Vec.getD 65 (Vec.set 65 s179.2.2.1 x186.toNat x187) 5 (0 : Int), Vec.getD 65 (Vec.set 65 s179.2.2.1 x186.toNat x187) 6 (0 : Int), Vec.getD 65 (Vec.set 65 s179.2.2.1 x186.toNat x187) 7 (0 : Int), Vec.getD 65 (Vec.set 65 s179.2.2.1 x186.toNat x187) 8 (0 : Int), Vec.getD 65 (Vec.set 65 s179.2.2.1 x186.toNat x187) 9 (0 : Int), Vec.getD 65 (Vec.set 65 s179.2.2.1 x186.toNat x187) 10 (0 : Int), Vec.getD 65 (Vec.set 65 s179.2.2.1 x186.toNat x187) 11 (0 : Int), Vec.getD 65 (Vec.set 65 s179.2.2.1 x186.toNat x187) 12 (0 : Int), Vec.getD 65 (Vec.set 65 s179.2.2.1 x186.toNat x187) 13 (0 : Int), Vec.getD 65 (Vec.set 65 s179.2.2.1 x186.toNat x187) 14 (0 : Int), Vec.getD 65 (Vec.set 65 s179.2.2.1 x186.toNat x187) 15 (0 : Int), Vec.getD 65 (Vec.set 65 s179.2.2.1 x186.toNat x187) 16 (0 : Int), Vec.getD 65 (Vec.set 65 s179.2.2.1 x186.toNat x187) 17 (0 : Int), Vec.getD 65 (Vec.set 65 s179.2.2.1 x186.toNat x187) 18 (0 : Int), Vec.getD 65 (Vec.set 65 s179.2.2.1 x186.toNat x187) 19 (0 : Int), Vec.getD 65 (Vec.set 65 s179.2.2.1 x186.toNat x187) 20 (0 : Int), Vec.getD 65 (Vec.set 65 s179.2.2.1 x186.toNat x187) 21 (0 : Int), Vec.getD 65 (Vec.set 65 s179.2.2.1 x186.toNat x187) 22 (0 : Int), Vec.getD 65 (Vec.set 65 s179.2.2.1 x186.toNat x187) 23 (0 : Int), Vec.getD 65 (Vec.set 65 s179.2.2.1 x186.toNat x187) 24 (0 : Int), Vec.getD 65 (Vec.set 65 s179.2.2.1 x186.toNat x187) 25 (0 : Int), Vec.getD 65 (Vec.set 65 s179.2.2.1 x186.toNat x187) 26 (0 : Int), Vec.getD 65 (Vec.set 65 s179.2.2.1 x186.toNat x187) 27 (0 : Int), Vec.getD 65 (Vec.set 65 s179.2.2.1 x186.toNat x187) 28 (0 : Int), Vec.getD 65 (Vec.set 65 s179.2.2.1 x186.toNat x187) 29 (0 : Int), Vec.getD 65 (Vec.set 65 s179.2.2.1 x186.toNat x187) 30 (0 : Int), Vec.getD 65 (Vec.set 65 s179.2.2.1 x186.toNat x187) 31 (0 : Int), Vec.getD 65 (Vec.set 65 s179.2.2.1 x186.toNat x187) 32 (0 : Int), Vec.getD 65 (Vec.set 65 s179.2.2.1 x186.toNat x187) 33 (0 : Int), Vec.getD 65 (Vec.set 65 s179.2.2.1 x186.toNat x187) 34 (0 : Int), Vec.getD 65 (Vec.set 65 s179.2.2.1 x186.toNat x187) 35 (0 : Int), Vec.getD 65 (Vec.set 65 s179.2.2.1 x186.toNat x187) 36 (0 : Int), Vec.getD 65 (Vec.set 65 s179.2.2.1 x186.toNat x187) 37 (0 : Int), Vec.getD 65 (Vec.set 65 s179.2.2.1 x186.toNat x187) 38 (0 : Int), Vec.getD 65 (Vec.set 65 s179.2.2.1 x186.toNat x187) 39 (0 : Int), Vec.getD 65 (Vec.set 65 s179.2.2.1 x186.toNat x187) 40 (0 : Int), Vec.getD 65 (Vec.set 65 s179.2.2.1 x186.toNat x187) 41 (0 : Int), Vec.getD 65 (Vec.set 65 s179.2.2.1 x186.toNat x187) 42 (0 : Int), Vec.getD 65 (Vec.set 65 s179.2.2.1 x186.toNat x187) 43 (0 : Int), Vec.getD 65 (Vec.set 65 s179.2.2.1 x186.toNat x187) 44 (0 : Int), Vec.getD 65 (Vec.set 65 s179.2.2.1 x186.toNat x187) 45 (0 : Int), Vec.getD 65 (Vec.set 65 s179.2.2.1 x186.toNat x187) 46 (0 : Int), Vec.getD 65 (Vec.set 65 s179.2.2.1 x186.toNat x187) 47 (0 : Int), Vec.getD 65 (Vec.set 65 s179.2.2.1 x186.toNat x187) 48 (0 : Int), Vec.getD 65 (Vec.set 65 s179.2.2.1 x186.toNat x187) 49 (0 : Int), Vec.getD 65 (Vec.set 65 s179.2.2.1 x186.toNat x187) 50 (0 : Int), Vec.getD 65 (Vec.set 65 s179.2.2.1 x186.toNat x187) 51 (0 : Int), Vec.getD 65 (Vec.set 65 s179.2.2.1 x186.toNat x187) 52 (0 : Int), Vec.getD 65 (Vec.set 65 s179.2.2.1 x186.toNat x187) 53 (0 : Int), Vec.getD 65 (Vec.set 65 s179.2.2.1 x186.toNat x187) 54 (0 : Int), Vec.getD 65 (Vec.set 65 s179.2.2.1 x186.toNat x187) 55 (0 : Int), Vec.getD 65 (Vec.set 65 s179.2.2.1 x186.toNat x187) 56 (0 : Int), Vec.getD 65 (Vec.set 65 s179.2.2.1 x186.toNat x187) 57 (0 : Int), Vec.getD 65 (Vec.set 65 s179.2.2.1 x186.toNat x187) 58 (0 : Int), Vec.getD 65 (Vec.set 65 s179.2.2.1 x186.toNat x187) 59 (0 : Int), Vec.getD 65 (Vec.set 65 s179.2.2.1 x186.toNat x187) 60 (0 : Int), Vec.getD 65 (Vec.set 65 s179.2.2.1 x186.toNat x187) 61 (0 : Int), Vec.getD 65 (Vec.set 65 s179.2.2.1 x186.toNat x187) 62 (0 : Int), Vec.getD 65 (Vec.set 65 s179.2.2.1 x186.toNat x187) 63 (0 : Int), Vec.getD 65 (Vec.set 65 s179.2.2.1 x186.toNat x187) 64 (0 : Int)] : (List Int))))), ()), ())
        else none
      else none
    else none)
noncomputable def internal_strconv_formatBits (a0 : (List Int)) (a1 : Int) (a2 : Int) (a3 : Bool) (a4 : Bool) : Option (((List Int) × List UInt8 × Unit) × Unit) :=
  bif (iLt a2 2) then none else
  bif (iEq a2 10) then none else
  bif (iLt 36 a2) then none else
  bif a3 then
    let x102 := iSub .u64 0 a1
    (internal_strconv_isPowerOfTwo a2).bind fun y103 =>
    bif y103.1.1 then
      (math_bits_TrailingZeros (iWrap .u64 a2)).bind fun y105 =>
      let x106 := iWrap .u64 y105.1.1
      let x107 := iWrap .u64 a2
      let x109 := iSub .u64 (iWrap .u64 a2) 1
      run (internal_strconv_formatBits_l11 x107 x109 x106 a3 a4) (x102, (65 : Int), ((0, 0, 0, 0, 0, 0, 0, 0, 0, 0, 0, 0, 0, 0, 0, 0, 0, 0, 0, 0, 0, 0, 0, 0, 0, 0, 0, 0, 0, 0, 0, 0, 0, 0, 0, 0, 0, 0, 0, 0, 0, 0, 0, 0, 0, 0, 0, 0, 0, 0, 0, 0, 0, 0, 0, 0, 0, 0, 0, 0, 0, 0, 0, 0, 0, ()) : (Vec 65 Int)), ())
    else
    let x127 := iWrap .u64 a2
    run (internal_strconv_formatBits_l18 x127 a3 a4) (x102, (65 : Int), ((0, 0, 0, 0, 0, 0, 0, 0, 0, 0, 0, 0, 0, 0, 0, 0, 0, 0, 0, 0, 0, 0, 0, 0, 0, 0, 0, 0, 0, 0, 0, 0, 0, 0, 0, 0, 0, 0, 0, 0, 0, 0, 0, 0, 0, 0, 0, 0, 0, 0, 0, 0, 0, 0, 0, 0, 0, 0, 0, 0, 0, 0, 0, 0, 0, ()) : (Vec 65 Int)), ())
  else
  (internal_strconv_isPowerOfTwo a2).bind fun y147 =>
  bif y147.1.1 then
    (math_bits_TrailingZeros (iWrap .u64 a2)).bind fun y149 =>
    let x150 := iWrap .u64 y149.1.1
    let x151 := iWrap .u64 a2
    let x153 := iSub .u64 (iWrap .u64 a2) 1
    run (internal_strconv_formatBits_l11_2 x151 x153 x150 a3 a4) (a1, (65 : Int), ((0, 0, 0, 0, 0, 0, 0, 0, 0, 0, 0, 0, 0, 0, 0, 0, 0, 0, 0, 0, 0, 0, 0, 0, 0, 0, 0, 0, 0, 0, 0, 0, 0, 0, 0, 0, 0, 0, 0, 0, 0, 0, 0, 0, 0, 0, 0, 0, 0, 0, 0, 0, 0, 0, 0, 0, 0, 0, 0, 0, 0, 0, 0, 0, 0, ()) : (Vec 65 Int)), ())
  else
  let x171 := iWrap .u64 a2
  run (internal_strconv_formatBits_l18_2 x171 a3 a4) (a1, (65 : Int), ((0, 0, 0, 0, 0, 0, 0, 0, 0, 0, 0, 0, 0, 0, 0, 0, 0, 0, 0, 0, 0, 0, 0, 0, 0, 0, 0, 0, 0, 0, 0, 0, 0, 0, 0, 0, 0, 0, 0, 0, 0, 0, 0, 0, 0, 0, 0, 0, 0, 0, 0, 0, 0, 0, 0, 0, 0, 0, 0, 0, 0, 0, 0, 0, 0, ()) : (Vec 65 Int)), ())
noncomputable def internal_strconv_formatBits_sg : Sig := ⟨[.v (.list (.int .u8)), .v (.int .u64), .v (.int .i64), .v (.bool), .v (.bool)], [.v (.rows (.int .u8)), .v (.val (.str))], false⟩
noncomputable def internal_strconv_formatBits_en : Entry := ⟨internal_strconv_formatBits_sg, fun x => internal_strconv_formatBits x.1 x.2.1 x.2.2.1 x.2.2.2.1 x.2.2.2.2.1⟩
theorem internal_strconv_formatBits_eq {G : List (Nat × Obj)} (x : internal_strconv_formatBits_sg.dom) : body (env G [(237, internal_strconv_isPowerOfTwo_en), (238, math_bits_TrailingZeros_en)]) [(11, .vary [(1, .sc (.int .u64)), (13, .sc (.int .i64)), (12, .box (.val (.arr 65 (.int .u8))))]), (18, .vary [(1, .sc (.int .u64)), (13, .sc (.int .i64)), (12, .box (.val (.arr 65 (.int .u8))))])] Tryz.f229 internal_strconv_formatBits_sg x = internal_strconv_formatBits x.1 x.2.1 x.2.2.1 x.2.2.2.1 x.2.2.2.2.1 := by kernel_rfl
theorem internal_strconv_formatBits_so {G : List (Nat × Obj)} (db : GDeb Tryz.prog G) : Sound Tryz.prog G 229 internal_strconv_formatBits_en := sound_of_body (envS (l := [(237, internal_strconv_isPowerOfTwo_en), (238, math_bits_TrailingZeros_en)]) (⟨(internal_strconv_isPowerOfTwo_so), (math_bits_TrailingZeros_so db), trivial⟩)) Tryz.func229 (by kernel_rfl) rfl (fun x y h => (internal_strconv_formatBits_eq (G := G) x).trans h)

-- internal/strconv.FormatUint
noncomputable def internal_strconv_FormatUint (a0 : Int) (a1 : Int) : Option ((List UInt8 × Unit) × Unit) :=
  bif (iEq a1 10) then
    bif (iLt a0 100) then
      none
    else none
  else
  (internal_strconv_formatBits ([] : (List Int)) a0 a1 false false).bind fun y98 =>
  some ((y98.1.2.1, ()), ())
noncomputable def internal_strconv_FormatUint_sg : Sig := ⟨[.v (.int .u64), .v (.int .i64)], [.v (.val (.str))], false⟩
noncomputable def internal_strconv_FormatUint_en : Entry := ⟨internal_strconv_FormatUint_sg, fun x => internal_strconv_FormatUint x.1 x.2.1⟩
theorem internal_strconv_FormatUint_eq {G : List (Nat × Obj)} (x : internal_strconv_FormatUint_sg.dom) : body (env G [(229, internal_strconv_formatBits_en)]) [] Tryz.f239 internal_strconv_FormatUint_sg x = internal_strconv_FormatUint x.1 x.2.1 := by kernel_rfl
theorem internal_strconv_FormatUint_so {G : List (Nat × Obj)} (db : GDeb Tryz.prog G) : Sound Tryz.prog G 239 internal_strconv_FormatUint_en := sound_of_body (envS (l := [(229, internal_strconv_formatBits_en)]) (⟨(internal_strconv_formatBits_so db), trivial⟩)) Tryz.func239 (by kernel_rfl) rfl (fun x y h => (internal_strconv_FormatUint_eq (G := G) x).trans h)

-- strconv.FormatUint
noncomputable def strconv_FormatUint (a0 : Int) (a1 : Int) : Option ((List UInt8 × Unit) × Unit) :=
  (internal_strconv_FormatUint a0 a1).bind fun y94 =>
  some ((y94.1.1, ()), ())
noncomputable def strconv_FormatUint_sg : Sig := ⟨[.v (.int .u64), .v (.int .i64)], [.v (.val (.str))], false⟩
noncomputable def strconv_FormatUint_en : Entry := ⟨strconv_FormatUint_sg, fun x => strconv_FormatUint x.1 x.2.1⟩
theorem strconv_FormatUint_eq {G : List (Nat × Obj)} (x : strconv_FormatUint_sg.dom) : body (env G [(239, internal_strconv_FormatUint_en)]) [] Tryz.f230 strconv_FormatUint_sg x = strconv_FormatUint x.1 x.2.1 := by kernel_rfl
theorem strconv_FormatUint_so {G : List (Nat × Obj)} (db : GDeb Tryz.prog G) : Sound Tryz.prog G 230 strconv_FormatUint_en := sound_of_body (envS (l := [(239, internal_strconv_FormatUint_en)]) (⟨(internal_strconv_FormatUint_so db), trivial⟩)) Tryz.func230 (by kernel_rfl) rfl (fun x y h => (strconv_FormatUint_eq (G := G) x).trans h)

-- loop.example/g01204/impl.NumberText
noncomputable def impl_NumberText_l4 (s90 : (List UInt8 × Unit)) : Option ((List UInt8 × Unit) ⊕ ((List UInt8 × Unit) × Unit)) :=
  bif (iLt (lenI s90.1) 8) then
    bif strRoom ([48]) s90.1 then
      some (Sum.inl ((strCat ([48]) s90.1), ()))
    else none
  else
  Option.map Sum.inr (some ((s90.1, ()), ()))
noncomputable def impl_NumberText (a0 : Nat) : Option ((List UInt8 × Unit) × Unit) :=
  (impl_isNaN a0).bind fun y85 =>
  bif y85.1.1 then some ((([55, 102, 99, 48, 48, 48, 48, 48] : List UInt8), ()), ()) else
  allSame fun (q86 : Nat) =>
  (strconv_FormatUint (iWrap .u64 (bitsF .f32 a0 q86)) (16 : Int)).bind fun y89 =>
  run (impl_NumberText_l4) (y89.1.1, ())
noncomputable def impl_NumberText_sg : Sig := ⟨[.v (.flt .f32)], [.v (.val (.str))], false⟩
noncomputable def impl_NumberText_en : Entry := ⟨impl_NumberText_sg, fun x => impl_NumberText x.1⟩
theorem impl_NumberText_eq {G : List (Nat × Obj)} (x : impl_NumberText_sg.dom) : body (env G [(168, impl_isNaN_en), (230, strconv_FormatUint_en)]) [(4, .vary [(3, .sc (.str))])] Tryz.f208 impl_NumberText_sg x = impl_NumberText x.1 := by kernel_rfl
theorem impl_NumberText_so {G : List (Nat × Obj)} (db : GDeb Tryz.prog G) : Sound Tryz.prog G 208 impl_NumberText_en := sound_of_body (envS (l := [(168, impl_isNaN_en), (230, strconv_FormatUint_en)]) (⟨(impl_isNaN_so), (strconv_FormatUint_so db), trivial⟩)) Tryz.func208 (by kernel_rfl) rfl (fun x y h => (impl_NumberText_eq (G := G) x).trans h)

theorem math_Float32frombits_so {G : List (Nat × Obj)} : Sound Tryz.prog G 174 math_Float32frombits_en := math_Float32frombits_sound Tryz.func174 (by kernel_rfl) (by kernel_rfl) (by kernel_rfl) (by kernel_rfl)

theorem strconv_ParseUint_so {G : List (Nat × Obj)} (sy : GErr 2 G) (ra : GErr 3 G) : Sound Tryz.prog G 207 strconv_ParseUint_en := parseUint_sound Tryz.func207 (by kernel_rfl) (by kernel_rfl) sy ra Tryz.hex_call

-- loop.example/g01204/impl.ReadNumber
noncomputable def impl_ReadNumber (a0 : List UInt8) : Option ((Nat × Int × Unit) × Unit) :=
  (strconv_ParseUint a0 (16 : Int) (32 : Int)).bind fun y79 =>
  (math_Float32frombits (iWrap .u32 y79.1.1)).bind fun y81 =>
  bif (! y79.1.2.1) then some (((0 : Nat), (5 : Int), ()), ()) else
  (impl_NumberText y81.1.1).bind fun y83 =>
  bif (! (sEq y83.1.1 a0)) then some (((0 : Nat), (5 : Int), ()), ()) else some ((y81.1.1, (0 : Int), ()), ())
noncomputable def impl_ReadNumber_sg : Sig := ⟨[.v (.str)], [.v (.val (.flt .f32)), .v (.val (.int .i64))], false⟩
noncomputable def impl_ReadNumber_en : Entry := ⟨impl_ReadNumber_sg, fun x => impl_ReadNumber x.1⟩
theorem impl_ReadNumber_eq {G : List (Nat × Obj)} (x : impl_ReadNumber_sg.dom) : body (env G [(174, math_Float32frombits_en), (207, strconv_ParseUint_en), (208, impl_NumberText_en)]) [] Tryz.f180 impl_ReadNumber_sg x = impl_ReadNumber x.1 := by kernel_rfl
theorem impl_ReadNumber_so {G : List (Nat × Obj)} (sy : GErr 2 G) (ra : GErr 3 G) (db : GDeb Tryz.prog G) : Sound Tryz.prog G 180 impl_ReadNumber_en := sound_of_body (envS (l := [(174, math_Float32frombits_en), (207, strconv_ParseUint_en), (208, impl_NumberText_en)]) (⟨(math_Float32frombits_so), (strconv_ParseUint_so sy ra), (impl_NumberText_so db), trivial⟩)) Tryz.func180 (by kernel_rfl) rfl (fun x y h => (impl_ReadNumber_eq (G := G) x).trans h)

-- (*loop.example/g01204/impl.lineReader).number
noncomputable def impl_lineReader_number (a0 : ((List (List UInt8)) × (Bool × Unit))) : Option ((Nat × Unit) × (((List (List UInt8)) × (Bool × Unit)) × Unit)) :=
  (impl_lineReader_word ((a0.1, a0.2) : ((List (List UInt8)) × (Bool × Unit)))).bind fun y76 =>
  (impl_ReadNumber y76.1.1).bind fun y77 =>
  bif y76.2.1.2.1 then some ((y77.1.1, ()), (((y76.2.1.1, true, y76.2.1.2.2) : ((List (List UInt8)) × (Bool × Unit))), ())) else
  some ((y77.1.1, ()), (((y76.2.1.1, (! (iEq y77.1.2.1 0)), y76.2.1.2.2) : ((List (List UInt8)) × (Bool × Unit))), ()))
noncomputable def impl_lineReader_number_sg : Sig := ⟨[.io (.pair (.rows (.str)) (.val (.pair (.bool) (.unit))))], [.v (.val (.flt .f32))], false⟩
noncomputable def impl_lineReader_number_en : Entry := ⟨impl_lineReader_number_sg, fun x => impl_lineReader_number x.1⟩
theorem impl_lineReader_number_eq {G : List (Nat × Obj)} (x : impl_lineReader_number_sg.dom) : body (env G [(97, impl_lineReader_word_en), (180, impl_ReadNumber_en)]) [] Tryz.f146 impl_lineReader_number_sg x = impl_lineReader_number x.1 := by kernel_rfl
theorem impl_lineReader_number_so {G : List (Nat × Obj)} (sy : GErr 2 G) (ra : GErr 3 G) (db : GDeb Tryz.prog G) : Sound Tryz.prog G 146 impl_lineReader_number_en := sound_of_body (envS (l := [(97, impl_lineReader_word_en), (180, impl_ReadNumber_en)]) (⟨(impl_lineReader_word_so), (impl_ReadNumber_so sy ra db), trivial⟩)) Tryz.func146 (by kernel_rfl) rfl (fun x y h => (impl_lineReader_number_eq (G := G) x).trans h)

-- (*loop.example/g01204/impl.lineReader).three
noncomputable def impl_lineReader_three (a0 : ((List (List UInt8)) × (Bool × Unit))) : Option (((Vec 3 Nat) × Unit) × (((List (List UInt8)) × (Bool × Unit)) × Unit)) :=
  (impl_lineReader_number ((a0.1, a0.2) : ((List (List UInt8)) × (Bool × Unit)))).bind fun y73 =>
  (impl_lineReader_number ((y73.2.1.1, y73.2.1.2) : ((List (List UInt8)) × (Bool × Unit)))).bind fun y74 =>
  (impl_lineReader_number ((y74.2.1.1, y74.2.1.2) : ((List (List UInt8)) × (Bool × Unit)))).bind fun y75 =>
  some ((((y73.1.1, y74.1.1, y75.1.1, ()) : (Vec 3 Nat)), ()), (((y75.2.1.1, y75.2.1.2) : ((List (List UInt8)) × (Bool × Unit))), ()))
noncomputable def impl_lineReader_three_sg : Sig := ⟨[.io (.pair (.rows (.str)) (.val (.pair (.bool) (.unit))))], [.v (.val (.arr 3 (.flt .f32)))], false⟩
noncomputable def impl_lineReader_three_en : Entry := ⟨impl_lineReader_three_sg, fun x => impl_lineReader_three x.1⟩
theorem impl_lineReader_three_eq {G : List (Nat × Obj)} (x : impl_lineReader_three_sg.dom) : body (env G [(146, impl_lineReader_number_en)]) [(3, .unroll 4)] Tryz.f95 impl_lineReader_three_sg x = impl_lineReader_three x.1 := by kernel_rfl
theorem impl_lineReader_three_so {G : List (Nat × Obj)} (sy : GErr 2 G) (ra : GErr 3 G) (db : GDeb Tryz.prog G) : Sound Tryz.prog G 95 impl_lineReader_three_en := sound_of_body (envS (l := [(146, impl_lineReader_number_en)]) (⟨(impl_lineReader_number_so sy ra db), trivial⟩)) Tryz.func95 (by kernel_rfl) rfl (fun x y h => (impl_lineReader_three_eq (G := G) x).trans h)

-- loop.example/g01204/impl.isFinite
noncomputable def impl_isFinite_l2 (a0 : (List Nat)) (s221 : (Int × Unit)) : Option ((Int × Unit) ⊕ ((Bool × Unit) × Unit)) :=
  bif (iLt s221.1 (lenI a0)) then
    bif inB s221.1 (List.length a0) then
      let x223 := List.getD a0 s221.1.toNat (0 : Nat)
      bif (! (fEq .f32 (fSub .f32 x223 x223) 0)) then
        Option.map Sum.inr (some ((false, ()), ()))
      else
      some (Sum.inl ((iAdd .i64 s221.1 1), ()))
    else none
  else
  Option.map Sum.inr (some ((true, ()), ()))
noncomputable def impl_isFinite (a0 : (List Nat)) : Option ((Bool × Unit) × Unit) :=
  run (impl_isFinite_l2 a0) ((0 : Int), ())
noncomputable def impl_isFinite_sg : Sig := ⟨[.v (.list (.flt .f32))], [.v (.val (.bool))], false⟩
noncomputable def impl_isFinite_en : Entry := ⟨impl_isFinite_sg, fun x => impl_isFinite x.1⟩
theorem impl_isFinite_eq {G : List (Nat × Obj)} (x : impl_isFinite_sg.dom) : body (env G []) [(2, .vary [(7, .sc (.int .i64))])] Tryz.f59 impl_isFinite_sg x = impl_isFinite x.1 := by kernel_rfl
theorem impl_isFinite_so {G : List (Nat × Obj)} : Sound Tryz.prog G 59 impl_isFinite_en := sound_of_body (envS (l := []) (trivial)) Tryz.func59 (by kernel_rfl) rfl (fun x y h => (impl_isFinite_eq (G := G) x).trans h)

-- loop.example/g01204/impl.IsFiniteVec
noncomputable def impl_IsFiniteVec (a0 : (Vec 3 Nat)) : Option ((Bool × Unit) × Unit) :=
  (impl_isFinite ([Vec.getD 3 a0 0 (0 : Nat), Vec.getD 3 a0 1 (0 : Nat), Vec.getD 3 a0 2 (0 : Nat)] : (List Nat))).bind fun y220 =>
  some ((y220.1.1, ()), ())
noncomputable def impl_IsFiniteVec_sg : Sig := ⟨[.v (.arr 3 (.flt .f32))], [.v (.val (.bool))], false⟩
noncomputable def impl_IsFiniteVec_en : Entry := ⟨impl_IsFiniteVec_sg, fun x => impl_IsFiniteVec x.1⟩
theorem impl_IsFiniteVec_eq {G : List (Nat × Obj)} (x : impl_IsFiniteVec_sg.dom) : body (env G [(59, impl_isFinite_en)]) [] Tryz.f72 impl_IsFiniteVec_sg x = impl_IsFiniteVec x.1 := by kernel_rfl
theorem impl_IsFiniteVec_so {G : List (Nat × Obj)} : Sound Tryz.prog G 72 impl_IsFiniteVec_en := sound_of_body (envS (l := [(59, impl_isFinite_en)]) (⟨(impl_isFinite_so), trivial⟩)) Tryz.func72 (by kernel_rfl) rfl (fun x y h => (impl_IsFiniteVec_eq (G := G) x).trans h)

-- loop.example/g01204/impl.SameNumber
noncomputable def impl_SameNumber (a0 : Nat) (a1 : Nat) : Option ((Bool × Unit) × Unit) :=
  (impl_isNaN a0).bind fun y232 =>
  bif y232.1.1 then
    (impl_isNaN a1).bind fun y233 =>
    bif y233.1.1 then some ((true, ()), ()) else
    allSame fun (q234 : Nat) =>
    allSame fun (q236 : Nat) =>
    some (((iEq (bitsF .f32 a0 q234) (bitsF .f32 a1 q236)), ()), ())
  else
  allSame fun (q239 : Nat) =>
  allSame fun (q241 : Nat) =>
  some (((iEq (bitsF .f32 a0 q239) (bitsF .f32 a1 q241)), ()), ())
noncomputable def impl_SameNumber_sg : Sig := ⟨[.v (.flt .f32), .v (.flt .f32)], [.v (.val (.bool))], false⟩
noncomputable def impl_SameNumber_en : Entry := ⟨impl_SameNumber_sg, fun x => impl_SameNumber x.1 x.2.1⟩
theorem impl_SameNumber_eq {G : List (Nat × Obj)} (x : impl_SameNumber_sg.dom) : body (env G [(168, impl_isNaN_en)]) [] Tryz.f132 impl_SameNumber_sg x = impl_SameNumber x.1 x.2.1 := by kernel_rfl
theorem impl_SameNumber_so {G : List (Nat × Obj)} : Sound Tryz.prog G 132 impl_SameNumber_en := sound_of_body (envS (l := [(168, impl_isNaN_en)]) (⟨(impl_isNaN_so), trivial⟩)) Tryz.func132 (by kernel_rfl) rfl (fun x y h => (impl_SameNumber_eq (G := G) x).trans h)

-- loop.example/g01204/impl.SameVec
noncomputable def impl_SameVec (a0 : (Vec 3 Nat)) (a1 : (Vec 3 Nat)) : Option ((Bool × Unit) × Unit) :=
  (impl_SameNumber (Vec.getD 3 a0 0 (0 : Nat)) (Vec.getD 3 a1 0 (0 : Nat))).bind fun y246 =>
  bif (! y246.1.1) then some ((false, ()), ()) else
  (impl_SameNumber (Vec.getD 3 a0 1 (0 : Nat)) (Vec.getD 3 a1 1 (0 : Nat))).bind fun y250 =>
  bif (! y250.1.1) then some ((false, ()), ()) else
  (impl_SameNumber (Vec.getD 3 a0 2 (0 : Nat)) (Vec.getD 3 a1 2 (0 : Nat))).bind fun y254 =>
  bif (! y254.1.1) then some ((false, ()), ()) else some ((true, ()), ())
noncomputable def impl_SameVec_sg : Sig := ⟨[.v (.arr 3 (.flt .f32)), .v (.arr 3 (.flt .f32))], [.v (.val (.bool))], false⟩
noncomputable def impl_SameVec_en : Entry := ⟨impl_SameVec_sg, fun x => impl_SameVec x.1 x.2.1⟩
theorem impl_SameVec_eq {G : List (Nat × Obj)} (x : impl_SameVec_sg.dom) : body (env G [(132, impl_SameNumber_en)]) [(2, .unroll 4)] Tryz.f74 impl_SameVec_sg x = impl_SameVec x.1 x.2.1 := by kernel_rfl
theorem impl_SameVec_so {G : List (Nat × Obj)} : Sound Tryz.prog G 74 impl_SameVec_en := sound_of_body (envS (l := [(132, impl_SameNumber_en)]) (⟨(impl_SameNumber_so), trivial⟩)) Tryz.func74 (by kernel_rfl) rfl (fun x y h => (impl_SameVec_eq (G := G) x).trans h)

-- loop.example/g01204/impl.sameEntry
noncomputable def impl_sameEntry (a0 : (Int × ((Vec 3 Nat) × ((Vec 3 Int) × (Int × (Nat × Unit)))))) (a1 : (Int × ((Vec 3 Nat) × ((Vec 3 Int) × (Int × (Nat × Unit)))))) : Option ((Bool × Unit) × Unit) :=
  bif (iEq a0.1 a1.1) then
    (impl_SameVec a0.2.1 a1.2.1).bind fun y228 =>
    bif y228.1.1 then
      bif (iEq (Vec.getD 3 a0.2.2.1 0 (0 : Int)) (Vec.getD 3 a1.2.2.1 0 (0 : Int)) && (iEq (Vec.getD 3 a0.2.2.1 1 (0 : Int)) (Vec.getD 3 a1.2.2.1 1 (0 : Int)) && (iEq (Vec.getD 3 a0.2.2.1 2 (0 : Int)) (Vec.getD 3 a1.2.2.1 2 (0 : Int)) && true))) then
        bif (iEq a0.2.2.2.1 a1.2.2.2.1) then
          (impl_SameNumber a0.2.2.2.2.1 a1.2.2.2.2.1).bind fun y231 =>
          some ((y231.1.1, ()), ())
        else some ((false, ()), ())
      else some ((false, ()), ())
    else some ((false, ()), ())
  else some ((false, ()), ())
noncomputable def impl_sameEntry_sg : Sig := ⟨[.v (.pair (.int .i64) (.pair (.arr 3 (.flt .f32)) (.pair (.arr 3 (.int .i16)) (.pair (.int .i64) (.pair (.flt .f32) (.unit)))))), .v (.pair (.int .i64) (.pair (.arr 3 (.flt .f32)) (.pair (.arr 3 (.int .i16)) (.pair (.int .i64) (.pair (.flt .f32) (.unit))))))], [.v (.val (.bool))], false⟩
noncomputable def impl_sameEntry_en : Entry := ⟨impl_sameEntry_sg, fun x => impl_sameEntry x.1 x.2.1⟩
theorem impl_sameEntry_eq {G : List (Nat × Obj)} (x : impl_sameEntry_sg.dom) : body (env G [(74, impl_SameVec_en), (132, impl_SameNumber_en)]) [] Tryz.f182 impl_sameEntry_sg x = impl_sameEntry x.1 x.2.1 := by kernel_rfl
theorem impl_sameEntry_so {G : List (Nat × Obj)} : Sound Tryz.prog G 182 impl_sameEntry_en := sound_of_body (envS (l := [(74, impl_SameVec_en), (132, impl_SameNumber_en)]) (⟨(impl_SameVec_so), (impl_SameNumber_so), trivial⟩)) Tryz.func182 (by kernel_rfl) rfl (fun x y h => (impl_sameEntry_eq (G := G) x).trans h)

-- loop.example/g01204/impl.within
noncomputable def impl_within (a0 : Int) (a1 : Int) (a2 : Int) : Option ((Bool × Unit) × Unit) :=
  bif (iLe a1 a0) then
    some (((iLe a0 a2), ()), ())
  else some ((false, ()), ())
noncomputable def impl_within_sg : Sig := ⟨[.v (.int .i64), .v (.int .i64), .v (.int .i64)], [.v (.val (.bool))], false⟩
noncomputable def impl_within_en : Entry := ⟨impl_within_sg, fun x => impl_within x.1 x.2.1 x.2.2.1⟩
theorem impl_within_eq {G : List (Nat × Obj)} (x : impl_within_sg.dom) : body (env G []) [] Tryz.f45 impl_within_sg x = impl_within x.1 x.2.1 x.2.2.1 := by kernel_rfl
theorem impl_within_so {G : List (Nat × Obj)} : Sound Tryz.prog G 45 impl_within_en := sound_of_body (envS (l := []) (trivial)) Tryz.func45 (by kernel_rfl) rfl (fun x y h => (impl_within_eq (G := G) x).trans h)

-- loop.example/g01204/impl.validEntry
noncomputable def impl_validEntry (a0 : (Int × ((Vec 3 Nat) × ((Vec 3 Int) × (Int × (Nat × Unit)))))) (a1 : Int) : Option ((Bool × Unit) × Unit) :=
  bif (iEq a0.1 1) then
    (impl_sameEntry a0 ((a0.1, (0, 0, 0, ()), (0, 0, 0, ()), 0, 0, ()) : (Int × ((Vec 3 Nat) × ((Vec 3 Int) × (Int × (Nat × Unit))))))).bind fun y202 =>
    bif y202.1.1 then
      (impl_IsFiniteVec a0.2.1).bind fun y203 =>
      bif y203.1.1 then
        (impl_isFinite ([a0.2.2.2.2.1] : (List Nat))).bind fun y204 =>
        some ((y204.1.1, ()), ())
      else some ((false, ()), ())
    else some ((false, ()), ())
  else
  bif (iEq a0.1 2) then
    (impl_sameEntry a0 ((a0.1, a0.2.1, (0, 0, 0, ()), 0, 0, ()) : (Int × ((Vec 3 Nat) × ((Vec 3 Int) × (Int × (Nat × Unit))))))).bind fun y206 =>
    bif y206.1.1 then
      (impl_IsFiniteVec a0.2.1).bind fun y207 =>
      bif y207.1.1 then
        (impl_isFinite ([a0.2.2.2.2.1] : (List Nat))).bind fun y208 =>
        some ((y208.1.1, ()), ())
      else some ((false, ()), ())
    else some ((false, ()), ())
  else
  bif (iEq a0.1 3) then
    (impl_sameEntry a0 ((a0.1, (0, 0, 0, ()), a0.2.2.1, 0, 0, ()) : (Int × ((Vec 3 Nat) × ((Vec 3 Int) × (Int × (Nat × Unit))))))).bind fun y210 =>
    bif y210.1.1 then
      (impl_IsFiniteVec a0.2.1).bind fun y211 =>
      bif y211.1.1 then
        (impl_isFinite ([a0.2.2.2.2.1] : (List Nat))).bind fun y212 =>
        some ((y212.1.1, ()), ())
      else some ((false, ()), ())
    else some ((false, ()), ())
  else
  bif (iEq a0.1 4) then
    (impl_within a0.2.2.2.1 (0 : Int) (iSub .i64 a1 1)).bind fun y215 =>
    bif (! y215.1.1) then some ((false, ()), ()) else
    (impl_sameEntry a0 ((a0.1, (0, 0, 0, ()), (0, 0, 0, ()), a0.2.2.2.1, a0.2.2.2.2.1, ()) : (Int × ((Vec 3 Nat) × ((Vec 3 Int) × (Int × (Nat × Unit))))))).bind fun y217 =>
    bif y217.1.1 then
      (impl_IsFiniteVec a0.2.1).bind fun y218 =>
      bif y218.1.1 then
        (impl_isFinite ([a0.2.2.2.2.1] : (List Nat))).bind fun y219 =>
        some ((y219.1.1, ()), ())
      else some ((false, ()), ())
    else some ((false, ()), ())
  else some ((false, ()), ())
noncomputable def impl_validEntry_sg : Sig := ⟨[.v (.pair (.int .i64) (.pair (.arr 3 (.flt .f32)) (.pair (.arr 3 (.int .i16)) (.pair (.int .i64) (.pair (.flt .f32) (.unit)))))), .v (.int .i64)], [.v (.val (.bool))], false⟩
noncomputable def impl_validEntry_en : Entry := ⟨impl_validEntry_sg, fun x => impl_validEntry x.1 x.2.1⟩
theorem impl_validEntry_eq {G : List (Nat × Obj)} (x : impl_validEntry_sg.dom) : body (env G [(45, impl_within_en), (59, impl_isFinite_en), (72, impl_IsFiniteVec_en), (182, impl_sameEntry_en)]) [] Tryz.f149 impl_validEntry_sg x = impl_validEntry x.1 x.2.1 := by kernel_rfl
theorem impl_validEntry_so {G : List (Nat × Obj)} : Sound Tryz.prog G 149 impl_validEntry_en := sound_of_body (envS (l := [(45, impl_within_en), (59, impl_isFinite_en), (72, impl_IsFiniteVec_en), (182, impl_sameEntry_en)]) (⟨(impl_within_so), (impl_isFinite_so), (impl_IsFiniteVec_so), (impl_sameEntry_so), trivial⟩)) Tryz.func149 (by kernel_rfl) rfl (fun x y h => (impl_validEntry_eq (G := G) x).trans h)

-- loop.example/g01204/impl.ValidLog$1
noncomputable def impl_ValidLog_1 (a0 : (Int × ((Vec 3 Nat) × ((Vec 3 Int) × (Int × (Nat × Unit)))))) (a1 : (Int × ((Vec 3 Nat) × ((List (Vec 3 Nat)) × ((List (Int × ((Vec 3 Nat) × ((Vec 3 Int) × (Int × (Nat × Unit)))))) × Unit))))) : Option ((Bool × Unit) × Unit) :=
  (impl_validEntry a0 (lenI a1.2.2.1)).bind fun y199 =>
  some (((! y199.1.1), ()), ())
noncomputable def impl_ValidLog_1_sg : Sig := ⟨[.v (.pair (.int .i64) (.pair (.arr 3 (.flt .f32)) (.pair (.arr 3 (.int .i16)) (.pair (.int .i64) (.pair (.flt .f32) (.unit)))))), .ro (.pair (.int .i64) (.pair (.arr 3 (.flt .f32)) (.pair (.list (.arr 3 (.flt .f32))) (.pair (.list (.pair (.int .i64) (.pair (.arr 3 (.flt .f32)) (.pair (.arr 3 (.int .i16)) (.pair (.int .i64) (.pair (.flt .f32) (.unit))))))) (.unit)))))], [.v (.val (.bool))], false⟩
noncomputable def impl_ValidLog_1_en : Entry := ⟨impl_ValidLog_1_sg, fun x => impl_ValidLog_1 x.1 x.2.1⟩
theorem impl_ValidLog_1_eq {G : List (Nat × Obj)} (x : impl_ValidLog_1_sg.dom) : body (env G [(149, impl_validEntry_en)]) [] Tryz.f148 impl_ValidLog_1_sg x = impl_ValidLog_1 x.1 x.2.1 := by kernel_rfl
theorem impl_ValidLog_1_so {G : List (Nat × Obj)} : Sound Tryz.prog G 148 impl_ValidLog_1_en := sound_of_body (envS (l := [(149, impl_validEntry_en)]) (⟨(impl_validEntry_so), trivial⟩)) Tryz.func148 (by kernel_rfl) rfl (fun x y h => (impl_ValidLog_1_eq (G := G) x).trans h)

-- loop.example/g01204/impl.validFrame$1
noncomputable def impl_validFrame_1 (a0 : (Vec 3 Nat)) : Option ((Bool × Unit) × Unit) :=
  (impl_IsFiniteVec a0).bind fun y264 =>
  some (((! y264.1.1), ()), ())
noncomputable def impl_validFrame_1_sg : Sig := ⟨[.v (.arr 3 (.flt .f32))], [.v (.val (.bool))], false⟩
noncomputable def impl_validFrame_1_en : Entry := ⟨impl_validFrame_1_sg, fun x => impl_validFrame_1 x.1⟩
theorem impl_validFrame_1_eq {G : List (Nat × Obj)} (x : impl_validFrame_1_sg.dom) : body (env G [(72, impl_IsFiniteVec_en)]) [] Tryz.f131 impl_validFrame_1_sg x = impl_validFrame_1 x.1 := by kernel_rfl
theorem impl_validFrame_1_so {G : List (Nat × Obj)} : Sound Tryz.prog G 131 impl_validFrame_1_en := sound_of_body (envS (l := [(72, impl_IsFiniteVec_en)]) (⟨(impl_IsFiniteVec_so), trivial⟩)) Tryz.func131 (by kernel_rfl) rfl (fun x y h => (impl_validFrame_1_eq (G := G) x).trans h)

-- slices.IndexFunc[[]loop.example/g01204/impl.Vec,loop.example/g01204/impl.Vec]
noncomputable def slices_IndexFunc_impl_Vec_l2 (a0 : (List (Vec 3 Nat))) (a1 : (((Vec 3 Nat) × Unit) → Option Bool)) (s268 : (Int × Unit)) : Option ((Int × Unit) ⊕ ((Int × Unit) × Unit)) :=
  bif (iLt s268.1 (lenI a0)) then
    bif inB s268.1 (List.length a0) then
      (a1 ((List.getD a0 s268.1.toNat ((0, 0, 0, ()) : (Vec 3 Nat))), ())).bind fun y271 =>
      bif y271 then
        Option.map Sum.inr (some ((s268.1, ()), ()))
      else
      some (Sum.inl ((iAdd .i64 s268.1 1), ()))
    else none
  else
  Option.map Sum.inr (some ((((-1 : Int) : Int), ()), ()))
noncomputable def slices_IndexFunc_impl_Vec (a0 : (List (Vec 3 Nat))) (a1 : (((Vec 3 Nat) × Unit) → Option Bool)) : Option ((Int × Unit) × Unit) :=
  run (slices_IndexFunc_impl_Vec_l2 a0 a1) ((0 : Int), ())
noncomputable def slices_IndexFunc_impl_Vec_sg : Sig := ⟨[.v (.list (.arr 3 (.flt .f32))), .fn ⟨[.arr 3 (.flt .f32)], .bool⟩], [.v (.val (.int .i64))], false⟩
noncomputable def slices_IndexFunc_impl_Vec_en : Entry := ⟨slices_IndexFunc_impl_Vec_sg, fun x => slices_IndexFunc_impl_Vec x.1 x.2.1⟩
theorem slices_IndexFunc_impl_Vec_eq {G : List (Nat × Obj)} (x : slices_IndexFunc_impl_Vec_sg.dom) : body (env G []) [(2, .vary [(8, .sc (.int .i64))])] Tryz.f167 slices_IndexFunc_impl_Vec_sg x = slices_IndexFunc_impl_Vec x.1 x.2.1 := by kernel_rfl
theorem slices_IndexFunc_impl_Vec_so {G : List (Nat × Obj)} : Sound Tryz.prog G 167 slices_IndexFunc_impl_Vec_en := sound_of_body (envS (l := []) (trivial)) Tryz.func167 (by kernel_rfl) rfl (fun x y h => (slices_IndexFunc_impl_Vec_eq (G := G) x).trans h)

-- slices.ContainsFunc[[]loop.example/g01204/impl.Vec,loop.example/g01204/impl.Vec]
noncomputable def slices_ContainsFunc_impl_Vec (a0 : (List (Vec 3 Nat))) (a1 : (((Vec 3 Nat) × Unit) → Option Bool)) : Option ((Bool × Unit) × Unit) :=
  (slices_IndexFunc_impl_Vec a0 a1).bind fun y266 =>
  some (((iLe 0 y266.1.1), ()), ())
noncomputable def slices_ContainsFunc_impl_Vec_sg : Sig := ⟨[.v (.list (.arr 3 (.flt .f32))), .fn ⟨[.arr 3 (.flt .f32)], .bool⟩], [.v (.val (.bool))], false⟩
noncomputable def slices_ContainsFunc_impl_Vec_en : Entry := ⟨slices_ContainsFunc_impl_Vec_sg, fun x => slices_ContainsFunc_impl_Vec x.1 x.2.1⟩
theorem slices_ContainsFunc_impl_Vec_eq {G : List (Nat × Obj)} (x : slices_ContainsFunc_impl_Vec_sg.dom) : body (env G [(167, slices_IndexFunc_impl_Vec_en)]) [] Tryz.f130 slices_ContainsFunc_impl_Vec_sg x = slices_ContainsFunc_impl_Vec x.1 x.2.1 := by kernel_rfl
theorem slices_ContainsFunc_impl_Vec_so {G : List (Nat × Obj)} : Sound Tryz.prog G 130 slices_ContainsFunc_impl_Vec_en := sound_of_body (envS (l := [(167, slices_IndexFunc_impl_Vec_en)]) (⟨(slices_IndexFunc_impl_Vec_so), trivial⟩)) Tryz.func130 (by kernel_rfl) rfl (fun x y h => (slices_ContainsFunc_impl_Vec_eq (G := G) x).trans h)

-- loop.example/g01204/impl.validFrame
noncomputable def impl_validFrame (a0 : Int) (a1 : (Vec 3 Nat)) (a2 : (List (Vec 3 Nat))) : Option ((Bool × Unit) × Unit) :=
  (impl_within a0 (1 : Int) (64 : Int)).bind fun y258 =>
  bif y258.1.1 then
    (impl_IsFiniteVec a1).bind fun y259 =>
    bif y259.1.1 then
      bif (iLe (lenI a2) 6) then
        (slices_ContainsFunc_impl_Vec a2 (fun (z261 : ((Vec 3 Nat) × Unit)) => (impl_validFrame_1 z261.1).map fun y => y.1.1)).bind fun y262 =>
        some (((! y262.1.1), ()), ())
      else some ((false, ()), ())
    else some ((false, ()), ())
  else some ((false, ()), ())
noncomputable def impl_validFrame_sg : Sig := ⟨[.v (.int .i64), .v (.arr 3 (.flt .f32)), .v (.list (.arr 3 (.flt .f32)))], [.v (.val (.bool))], false⟩
noncomputable def impl_validFrame_en : Entry := ⟨impl_validFrame_sg, fun x => impl_validFrame x.1 x.2.1 x.2.2.1⟩
theorem impl_validFrame_eq {G : List (Nat × Obj)} (x : impl_validFrame_sg.dom) : body (env G [(45, impl_within_en), (72, impl_IsFiniteVec_en), (130, slices_ContainsFunc_impl_Vec_en), (131, impl_validFrame_1_en)]) [] Tryz.f71 impl_validFrame_sg x = impl_validFrame x.1 x.2.1 x.2.2.1 := by kernel_rfl
theorem impl_validFrame_so {G : List (Nat × Obj)} : Sound Tryz.prog G 71 impl_validFrame_en := sound_of_body (envS (l := [(45, impl_within_en), (72, impl_IsFiniteVec_en), (130, slices_ContainsFunc_impl_Vec_en), (131, impl_validFrame_1_en)]) (⟨(impl_within_so), (impl_IsFiniteVec_so), (slices_ContainsFunc_impl_Vec_so), (impl_validFrame_1_so), trivial⟩)) Tryz.func71 (by kernel_rfl) rfl (fun x y h => (impl_validFrame_eq (G := G) x).trans h)

-- slices.IndexFunc[[]loop.example/g01204/impl.Entry,loop.example/g01204/impl.Entry]
noncomputable def slices_IndexFunc_impl_Entry_l2 (a0 : (List (Int × ((Vec 3 Nat) × ((Vec 3 Int) × (Int × (Nat × Unit))))))) (a1 : (((Int × ((Vec 3 Nat) × ((Vec 3 Int) × (Int × (Nat × Unit))))) × Unit) → Option Bool)) (s275 : (Int × Unit)) : Option ((Int × Unit) ⊕ ((Int × Unit) × Unit)) :=
  bif (iLt s275.1 (lenI a0)) then
    bif inB s275.1 (List.length a0) then
      (a1 ((List.getD a0 s275.1.toNat ((0, (0, 0, 0, ()), (0, 0, 0, ()), 0, 0, ()) : (Int × ((Vec 3 Nat) × ((Vec 3 Int) × (Int × (Nat × Unit))))))), ())).bind fun y278 =>
      bif y278 then
        Option.map Sum.inr (some ((s275.1, ()), ()))
      else
      some (Sum.inl ((iAdd .i64 s275.1 1), ()))
    else none
  else
  Option.map Sum.inr (some ((((-1 : Int) : Int), ()), ()))
noncomputable def slices_IndexFunc_impl_Entry (a0 : (List (Int × ((Vec 3 Nat) × ((Vec 3 Int) × (Int × (Nat × Unit))))))) (a1 : (((Int × ((Vec 3 Nat) × ((Vec 3 Int) × (Int × (Nat × Unit))))) × Unit) → Option Bool)) : Option ((Int × Unit) × Unit) :=
  run (slices_IndexFunc_impl_Entry_l2 a0 a1) ((0 : Int), ())
noncomputable def slices_IndexFunc_impl_Entry_sg : Sig := ⟨[.v (.list (.pair (.int .i64) (.pair (.arr 3 (.flt .f32)) (.pair (.arr 3 (.int .i16)) (.pair (.int .i64) (.pair (.flt .f32) (.unit))))))), .fn ⟨[.pair (.int .i64) (.pair (.arr 3 (.flt .f32)) (.pair (.arr 3 (.int .i16)) (.pair (.int .i64) (.pair (.flt .f32) (.unit)))))], .bool⟩], [.v (.val (.int .i64))], false⟩
noncomputable def slices_IndexFunc_impl_Entry_en : Entry := ⟨slices_IndexFunc_impl_Entry_sg, fun x => slices_IndexFunc_impl_Entry x.1 x.2.1⟩
theorem slices_IndexFunc_impl_Entry_eq {G : List (Nat × Obj)} (x : slices_IndexFunc_impl_Entry_sg.dom) : body (env G []) [(2, .vary [(8, .sc (.int .i64))])] Tryz.f181 slices_IndexFunc_impl_Entry_sg x = slices_IndexFunc_impl_Entry x.1 x.2.1 := by kernel_rfl
theorem slices_IndexFunc_impl_Entry_so {G : List (Nat × Obj)} : Sound Tryz.prog G 181 slices_IndexFunc_impl_Entry_en := sound_of_body (envS (l := []) (trivial)) Tryz.func181 (by kernel_rfl) rfl (fun x y h => (slices_IndexFunc_impl_Entry_eq (G := G) x).trans h)

-- slices.ContainsFunc[[]loop.example/g01204/impl.Entry,loop.example/g01204/impl.Entry]
noncomputable def slices_ContainsFunc_impl_Entry (a0 : (List (Int × ((Vec 3 Nat) × ((Vec 3 Int) × (Int × (Nat × Unit))))))) (a1 : (((Int × ((Vec 3 Nat) × ((Vec 3 Int) × (Int × (Nat × Unit))))) × Unit) → Option Bool)) : Option ((Bool × Unit) × Unit) :=
  (slices_IndexFunc_impl_Entry a0 a1).bind fun y273 =>
  some (((iLe 0 y273.1.1), ()), ())
noncomputable def slices_ContainsFunc_impl_Entry_sg : Sig := ⟨[.v (.list (.pair (.int .i64) (.pair (.arr 3 (.flt .f32)) (.pair (.arr 3 (.int .i16)) (.pair (.int .i64) (.pair (.flt .f32) (.unit))))))), .fn ⟨[.pair (.int .i64) (.pair (.arr 3 (.flt .f32)) (.pair (.arr 3 (.int .i16)) (.pair (.int .i64) (.pair (.flt .f32) (.unit)))))], .bool⟩], [.v (.val (.bool))], false⟩
noncomputable def slices_ContainsFunc_impl_Entry_en : Entry := ⟨slices_ContainsFunc_impl_Entry_sg, fun x => slices_ContainsFunc_impl_Entry x.1 x.2.1⟩
theorem slices_ContainsFunc_impl_Entry_eq {G : List (Nat × Obj)} (x : slices_ContainsFunc_impl_Entry_sg.dom) : body (env G [(181, slices_IndexFunc_impl_Entry_en)]) [] Tryz.f147 slices_ContainsFunc_impl_Entry_sg x = slices_ContainsFunc_impl_Entry x.1 x.2.1 := by kernel_rfl
theorem slices_ContainsFunc_impl_Entry_so {G : List (Nat × Obj)} : Sound Tryz.prog G 147 slices_ContainsFunc_impl_Entry_en := sound_of_body (envS (l := [(181, slices_IndexFunc_impl_Entry_en)]) (⟨(slices_IndexFunc_impl_Entry_so), trivial⟩)) Tryz.func147 (by kernel_rfl) rfl (fun x y h => (slices_ContainsFunc_impl_Entry_eq (G := G) x).trans h)

-- loop.example/g01204/impl.ValidLog
noncomputable def impl_ValidLog (a0 : (Int × ((Vec 3 Nat) × ((List (Vec 3 Nat)) × ((List (Int × ((Vec 3 Nat) × ((Vec 3 Int) × (Int × (Nat × Unit)))))) × Unit))))) : Option ((Bool × Unit) × Unit) :=
  (impl_validFrame a0.1 a0.2.1 a0.2.2.1).bind fun y194 =>
  bif y194.1.1 then
    bif (iLe (lenI a0.2.2.2.1) 1200) then
      (slices_ContainsFunc_impl_Entry a0.2.2.2.1 (fun (z196 : ((Int × ((Vec 3 Nat) × ((Vec 3 Int) × (Int × (Nat × Unit))))) × Unit)) => (impl_ValidLog_1 z196.1 a0).map fun y => y.1.1)).bind fun y197 =>
      some (((! y197.1.1), ()), ())
    else some ((false, ()), ())
  else some ((false, ()), ())
noncomputable def impl_ValidLog_sg : Sig := ⟨[.v (.pair (.int .i64) (.pair (.arr 3 (.flt .f32)) (.pair (.list (.arr 3 (.flt .f32))) (.pair (.list (.pair (.int .i64) (.pair (.arr 3 (.flt .f32)) (.pair (.arr 3 (.int .i16)) (.pair (.int .i64) (.pair (.flt .f32) (.unit))))))) (.unit)))))], [.v (.val (.bool))], false⟩
noncomputable def impl_ValidLog_en : Entry := ⟨impl_ValidLog_sg, fun x => impl_ValidLog x.1⟩
theorem impl_ValidLog_eq {G : List (Nat × Obj)} (x : impl_ValidLog_sg.dom) : body (env G [(71, impl_validFrame_en), (147, slices_ContainsFunc_impl_Entry_en), (148, impl_ValidLog_1_en)]) [] Tryz.f99 impl_ValidLog_sg x = impl_ValidLog x.1 := by kernel_rfl
theorem impl_ValidLog_so {G : List (Nat × Obj)} : Sound Tryz.prog G 99 impl_ValidLog_en := sound_of_body (envS (l := [(71, impl_validFrame_en), (147, slices_ContainsFunc_impl_Entry_en), (148, impl_ValidLog_1_en)]) (⟨(impl_validFrame_so), (slices_ContainsFunc_impl_Entry_so), (impl_ValidLog_1_so), trivial⟩)) Tryz.func99 (by kernel_rfl) rfl (fun x y h => (impl_ValidLog_eq (G := G) x).trans h)

theorem strings_Split_so {G : List (Nat × Obj)} (mx : GMax 1 G) : Sound Tryz.prog G 108 strings_Split_en := split_sound Tryz.func108 (by kernel_rfl) (by kernel_rfl) mx (fun s sep m w h1 h2 h3 => Tryz.strings_Split s sep m w h1 h2 h3)

-- loop.example/g01204/impl.linesOf
noncomputable def impl_linesOf (a0 : List UInt8) : Option (((List (List UInt8)) × Bool × Unit) × Unit) :=
  (strings_Split a0 ([10] : List UInt8)).bind fun y280 =>
  let x281 := iSub .i64 (lenI y280.1.1) 1
  bif inS 0 x281 (List.length y280.1.1) then
    bif (iLt 0 x281) then
      bif inB x281 (List.length y280.1.1) then
        some ((List.take x281.toNat (List.drop 0 y280.1.1), (sEq (List.getD y280.1.1 x281.toNat ([] : List UInt8)) ([])), ()), ())
      else none
    else some ((List.take x281.toNat (List.drop 0 y280.1.1), false, ()), ())
  else none
noncomputable def impl_linesOf_sg : Sig := ⟨[.v (.str)], [.v (.rows (.str)), .v (.val (.bool))], false⟩
noncomputable def impl_linesOf_en : Entry := ⟨impl_linesOf_sg, fun x => impl_linesOf x.1⟩
theorem impl_linesOf_eq {G : List (Nat × Obj)} (x : impl_linesOf_sg.dom) : body (env G [(108, strings_Split_en)]) [] Tryz.f41 impl_linesOf_sg x = impl_linesOf x.1 := by kernel_rfl
theorem impl_linesOf_so {G : List (Nat × Obj)} (mx : GMax 1 G) : Sound Tryz.prog G 41 impl_linesOf_en := sound_of_body (envS (l := [(108, strings_Split_en)]) (⟨(strings_Split_so mx), trivial⟩)) Tryz.func41 (by kernel_rfl) rfl (fun x y h => (impl_linesOf_eq (G := G) x).trans h)

-- loop.example/g01204/impl.readEntry
noncomputable def impl_readEntry (a0 : ((List (List UInt8)) × (Bool × Unit))) (a1 : List UInt8) : Option (((Int × ((Vec 3 Nat) × ((Vec 3 Int) × (Int × (Nat × Unit))))) × Unit) × (((List (List UInt8)) × (Bool × Unit)) × Unit)) :=
  bif (sEq a1 ([116, 105, 99, 107])) then some ((((1, (0, 0, 0, ()), (0, 0, 0, ()), 0, 0, ()) : (Int × ((Vec 3 Nat) × ((Vec 3 Int) × (Int × (Nat × Unit)))))), ()), (((a0.1, a0.2) : ((List (List UInt8)) × (Bool × Unit))), ())) else
  bif (sEq a1 ([109, 111, 118, 101])) then
    (impl_lineReader_three ((a0.1, a0.2) : ((List (List UInt8)) × (Bool × Unit)))).bind fun y287 =>
    some ((((2, y287.1.1, (0, 0, 0, ()), 0, 0, ()) : (Int × ((Vec 3 Nat) × ((Vec 3 Int) × (Int × (Nat × Unit)))))), ()), (((y287.2.1.1, y287.2.1.2) : ((List (List UInt8)) × (Bool × Unit))), ()))
  else
  bif (sEq a1 ([102, 105, 120])) then
    (impl_lineReader_integer ((a0.1, a0.2) : ((List (List UInt8)) × (Bool × Unit)))).bind fun y289 =>
    bif y289.2.1.2.1 then
      let x290 := iWrap .i16 y289.1.1
      (impl_lineReader_integer ((y289.2.1.1, true, y289.2.1.2.2) : ((List (List UInt8)) × (Bool × Unit)))).bind fun y291 =>
      bif y291.2.1.2.1 then
        let x292 := iWrap .i16 y291.1.1
        (impl_lineReader_integer ((y291.2.1.1, true, y291.2.1.2.2) : ((List (List UInt8)) × (Bool × Unit)))).bind fun y293 =>
        bif y293.2.1.2.1 then
          some ((((3, (0, 0, 0, ()), (x290, x292, (iWrap .i16 y293.1.1), ()), 0, 0, ()) : (Int × ((Vec 3 Nat) × ((Vec 3 Int) × (Int × (Nat × Unit)))))), ()), (((y293.2.1.1, true, y293.2.1.2.2) : ((List (List UInt8)) × (Bool × Unit))), ()))
        else
        (impl_within y293.1.1 ((-32768 : Int) : Int) (32767 : Int)).bind fun y295 =>
        some ((((3, (0, 0, 0, ()), (x290, x292, (iWrap .i16 y293.1.1), ()), 0, 0, ()) : (Int × ((Vec 3 Nat) × ((Vec 3 Int) × (Int × (Nat × Unit)))))), ()), (((y293.2.1.1, (! y295.1.1), y293.2.1.2.2) : ((List (List UInt8)) × (Bool × Unit))), ()))
      else
      (impl_within y291.1.1 ((-32768 : Int) : Int) (32767 : Int)).bind fun y298 =>
      let x300 := iWrap .i16 y291.1.1
      (impl_lineReader_integer ((y291.2.1.1, (! y298.1.1), y291.2.1.2.2) : ((List (List UInt8)) × (Bool × Unit)))).bind fun y301 =>
      bif y301.2.1.2.1 then
        some ((((3, (0, 0, 0, ()), (x290, x300, (iWrap .i16 y301.1.1), ()), 0, 0, ()) : (Int × ((Vec 3 Nat) × ((Vec 3 Int) × (Int × (Nat × Unit)))))), ()), (((y301.2.1.1, true, y301.2.1.2.2) : ((List (List UInt8)) × (Bool × Unit))), ()))
      else
      (impl_within y301.1.1 ((-32768 : Int) : Int) (32767 : Int)).bind fun y303 =>
      some ((((3, (0, 0, 0, ()), (x290, x300, (iWrap .i16 y301.1.1), ()), 0, 0, ()) : (Int × ((Vec 3 Nat) × ((Vec 3 Int) × (Int × (Nat × Unit)))))), ()), (((y301.2.1.1, (! y303.1.1), y301.2.1.2.2) : ((List (List UInt8)) × (Bool × Unit))), ()))
    else
    (impl_within y289.1.1 ((-32768 : Int) : Int) (32767 : Int)).bind fun y306 =>
    let x308 := iWrap .i16 y289.1.1
    (impl_lineReader_integer ((y289.2.1.1, (! y306.1.1), y289.2.1.2.2) : ((List (List UInt8)) × (Bool × Unit)))).bind fun y309 =>
    bif y309.2.1.2.1 then
      let x310 := iWrap .i16 y309.1.1
      (impl_lineReader_integer ((y309.2.1.1, true, y309.2.1.2.2) : ((List (List UInt8)) × (Bool × Unit)))).bind fun y311 =>
      bif y311.2.1.2.1 then
        some ((((3, (0, 0, 0, ()), (x308, x310, (iWrap .i16 y311.1.1), ()), 0, 0, ()) : (Int × ((Vec 3 Nat) × ((Vec 3 Int) × (Int × (Nat × Unit)))))), ()), (((y311.2.1.1, true, y311.2.1.2.2) : ((List (List UInt8)) × (Bool × Unit))), ()))
      else
      (impl_within y311.1.1 ((-32768 : Int) : Int) (32767 : Int)).bind fun y313 =>
      some ((((3, (0, 0, 0, ()), (x308, x310, (iWrap .i16 y311.1.1), ()), 0, 0, ()) : (Int × ((Vec 3 Nat) × ((Vec 3 Int) × (Int × (Nat × Unit)))))), ()), (((y311.2.1.1, (! y313.1.1), y311.2.1.2.2) : ((List (List UInt8)) × (Bool × Unit))), ()))
    else
    (impl_within y309.1.1 ((-32768 : Int) : Int) (32767 : Int)).bind fun y316 =>
    let x318 := iWrap .i16 y309.1.1
    (impl_lineReader_integer ((y309.2.1.1, (! y316.1.1), y309.2.1.2.2) : ((List (List UInt8)) × (Bool × Unit)))).bind fun y319 =>
    bif y319.2.1.2.1 then
      some ((((3, (0, 0, 0, ()), (x308, x318, (iWrap .i16 y319.1.1), ()), 0, 0, ()) : (Int × ((Vec 3 Nat) × ((Vec 3 Int) × (Int × (Nat × Unit)))))), ()), (((y319.2.1.1, true, y319.2.1.2.2) : ((List (List UInt8)) × (Bool × Unit))), ()))
    else
    (impl_within y319.1.1 ((-32768 : Int) : Int) (32767 : Int)).bind fun y321 =>
    some ((((3, (0, 0, 0, ()), (x308, x318, (iWrap .i16 y319.1.1), ()), 0, 0, ()) : (Int × ((Vec 3 Nat) × ((Vec 3 Int) × (Int × (Nat × Unit)))))), ()), (((y319.2.1.1, (! y321.1.1), y319.2.1.2.2) : ((List (List UInt8)) × (Bool × Unit))), ()))
  else
  bif (sEq a1 ([114, 97, 110, 103, 101])) then
    (impl_lineReader_integer ((a0.1, a0.2) : ((List (List UInt8)) × (Bool × Unit)))).bind fun y325 =>
    (impl_lineReader_number ((y325.2.1.1, y325.2.1.2) : ((List (List UInt8)) × (Bool × Unit)))).bind fun y326 =>
    some ((((4, (0, 0, 0, ()), (0, 0, 0, ()), y325.1.1, y326.1.1, ()) : (Int × ((Vec 3 Nat) × ((Vec 3 Int) × (Int × (Nat × Unit)))))), ()), (((y326.2.1.1, y326.2.1.2) : ((List (List UInt8)) × (Bool × Unit))), ()))
  else some ((((0, (0, 0, 0, ()), (0, 0, 0, ()), 0, 0, ()) : (Int × ((Vec 3 Nat) × ((Vec 3 Int) × (Int × (Nat × Unit)))))), ()), (((a0.1, a0.2) : ((List (List UInt8)) × (Bool × Unit))), ()))
noncomputable def impl_readEntry_sg : Sig := ⟨[.io (.pair (.rows (.str)) (.val (.pair (.bool) (.unit)))), .v (.str)], [.v (.val (.pair (.int .i64) (.pair (.arr 3 (.flt .f32)) (.pair (.arr 3 (.int .i16)) (.pair (.int .i64) (.pair (.flt .f32) (.unit)))))))], false⟩
noncomputable def impl_readEntry_en : Entry := ⟨impl_readEntry_sg, fun x => impl_readEntry x.1 x.2.1⟩
theorem impl_readEntry_eq {G : List (Nat × Obj)} (x : impl_readEntry_sg.dom) : body (env G [(45, impl_within_en), (94, impl_lineReader_integer_en), (95, impl_lineReader_three_en), (146, impl_lineReader_number_en)]) [(10, .unroll 4)] Tryz.f98 impl_readEntry_sg x = impl_readEntry x.1 x.2.1 := by kernel_rfl
theorem impl_readEntry_so {G : List (Nat × Obj)} (tb : GTab Tryz.prog G) (sy : GErr 2 G) (ra : GErr 3 G) (db : GDeb Tryz.prog G) : Sound Tryz.prog G 98 impl_readEntry_en := sound_of_body (envS (l := [(45, impl_within_en), (94, impl_lineReader_integer_en), (95, impl_lineReader_three_en), (146, impl_lineReader_number_en)]) (⟨(impl_within_so), (impl_lineReader_integer_so tb sy ra), (impl_lineReader_three_so sy ra db), (impl_lineReader_number_so sy ra db), trivial⟩)) Tryz.func98 (by kernel_rfl) rfl (fun x y h => (impl_readEntry_eq (G := G) x).trans h)

-- loop.example/g01204/impl.readLine
noncomputable def impl_readLine (a0 : List UInt8) : Option ((((List (List UInt8)) × (Bool × Unit)) × Unit) × Unit) :=
  (strings_Split a0 ([32] : List UInt8)).bind fun y327 =>
  some ((((y327.1.1, false, ()) : ((List (List UInt8)) × (Bool × Unit))), ()), ())
noncomputable def impl_readLine_sg : Sig := ⟨[.v (.str)], [.p (.pair (.rows (.str)) (.val (.pair (.bool) (.unit))))], false⟩
noncomputable def impl_readLine_en : Entry := ⟨impl_readLine_sg, fun x => impl_readLine x.1⟩
theorem impl_readLine_eq {G : List (Nat × Obj)} (x : impl_readLine_sg.dom) : body (env G [(108, strings_Split_en)]) [] Tryz.f92 impl_readLine_sg x = impl_readLine x.1 := by kernel_rfl
theorem impl_readLine_so {G : List (Nat × Obj)} (mx : GMax 1 G) : Sound Tryz.prog G 92 impl_readLine_en := sound_of_body (envS (l := [(108, strings_Split_en)]) (⟨(strings_Split_so mx), trivial⟩)) Tryz.func92 (by kernel_rfl) rfl (fun x y h => (impl_readLine_eq (G := G) x).trans h)

-- loop.example/g01204/impl.ReadLog
noncomputable def impl_ReadLog_l11 (y18 : (((List (List UInt8)) × Bool × Unit) × Unit)) (s37 : (Int × (Int × ((Vec 3 Nat) × ((List (Vec 3 Nat)) × ((List (Int × ((Vec 3 Nat) × ((Vec 3 Int) × (Int × (Nat × Unit)))))) × Unit)))) × Unit)) : Option ((Int × (Int × ((Vec 3 Nat) × ((List (Vec 3 Nat)) × ((List (Int × ((Vec 3 Nat) × ((Vec 3 Int) × (Int × (Nat × Unit)))))) × Unit)))) × Unit) ⊕ (((Int × ((Vec 3 Nat) × ((List (Vec 3 Nat)) × ((List (Int × ((Vec 3 Nat) × ((Vec 3 Int) × (Int × (Nat × Unit)))))) × Unit)))) × Int × Unit) × Unit)) :=
  bif (iLt s37.1 (((List.length y18.1.1) - 1 : Nat) : Int)) then
    bif inB s37.1 ((List.length y18.1.1) - 1) then
      (impl_readLine (List.getD y18.1.1 (1 + s37.1.toNat) ([] : List UInt8))).bind fun y40 =>
      (impl_lineReader_word ((y40.1.1.1, y40.1.1.2) : ((List (List UInt8)) × (Bool × Unit)))).bind fun y41 =>
      bif (sEq y41.1.1 ([98, 101, 97, 99, 111, 110])) then
        bif (iEq (lenI s37.2.1.2.2.2.1) 0) then
          (impl_lineReader_three ((y41.2.1.1, y41.2.1.2) : ((List (List UInt8)) × (Bool × Unit)))).bind fun y44 =>
          bif room (List.length s37.2.1.2.2.1 + 1) 12 then
            (impl_lineReader_ended ((y44.2.1.1, y44.2.1.2) : ((List (List UInt8)) × (Bool × Unit)))).bind fun y46 =>
            bif (! y46.1.1) then
              Option.map Sum.inr (some ((((0, (0, 0, 0, ()), [], [], ()) : (Int × ((Vec 3 Nat) × ((List (Vec 3 Nat)) × ((List (Int × ((Vec 3 Nat) × ((Vec 3 Int) × (Int × (Nat × Unit)))))) × Unit))))), (5 : Int), ()), ()))
            else
            some (Sum.inl ((iAdd .i64 s37.1 1), ((s37.2.1.1, s37.2.1.2.1, (s37.2.1.2.2.1 ++ ([y44.1.1] : (List (Vec 3 Nat)))), s37.2.1.2.2.2.1, s37.2.1.2.2.2.2) : (Int × ((Vec 3 Nat) × ((List (Vec 3 Nat)) × ((List (Int × ((Vec 3 Nat) × ((Vec 3 Int) × (Int × (Nat × Unit)))))) × Unit))))), ()))
          else none
        else
        (impl_readEntry ((y41.2.1.1, y41.2.1.2) : ((List (List UInt8)) × (Bool × Unit))) y41.1.1).bind fun y49 =>
        bif room (List.length s37.2.1.2.2.2.1 + 1) 48 then
          (impl_lineReader_ended ((y49.2.1.1, y49.2.1.2) : ((List (List UInt8)) × (Bool × Unit)))).bind fun y51 =>
          bif (! y51.1.1) then
            Option.map Sum.inr (some ((((0, (0, 0, 0, ()), [], [], ()) : (Int × ((Vec 3 Nat) × ((List (Vec 3 Nat)) × ((List (Int × ((Vec 3 Nat) × ((Vec 3 Int) × (Int × (Nat × Unit)))))) × Unit))))), (5 : Int), ()), ()))
          else
          some (Sum.inl ((iAdd .i64 s37.1 1), ((s37.2.1.1, s37.2.1.2.1, s37.2.1.2.2.1, (s37.2.1.2.2.2.1 ++ ([y49.1.1] : (List (Int × ((Vec 3 Nat) × ((Vec 3 Int) × (Int × (Nat × Unit)))))))), s37.2.1.2.2.2.2) : (Int × ((Vec 3 Nat) × ((List (Vec 3 Nat)) × ((List (Int × ((Vec 3 Nat) × ((Vec 3 Int) × (Int × (Nat × Unit)))))) × Unit))))), ()))
        else none
      else
      (impl_readEntry ((y41.2.1.1, y41.2.1.2) : ((List (List UInt8)) × (Bool × Unit))) y41.1.1).bind fun y54 =>
      bif room (List.length s37.2.1.2.2.2.1 + 1) 48 then
        (impl_lineReader_ended ((y54.2.1.1, y54.2.1.2) : ((List (List UInt8)) × (Bool × Unit)))).bind fun y56 =>
        bif (! y56.1.1) then
          Option.map Sum.inr (some ((((0, (0, 0, 0, ()), [], [], ()) : (Int × ((Vec 3 Nat) × ((List (Vec 3 Nat)) × ((List (Int × ((Vec 3 Nat) × ((Vec 3 Int) × (Int × (Nat × Unit)))))) × Unit))))), (5 : Int), ()), ()))
        else
        some (Sum.inl ((iAdd .i64 s37.1 1), ((s37.2.1.1, s37.2.1.2.1, s37.2.1.2.2.1, (s37.2.1.2.2.2.1 ++ ([y54.1.1] : (List (Int × ((Vec 3 Nat) × ((Vec 3 Int) × (Int × (Nat × Unit)))))))), s37.2.1.2.2.2.2) : (Int × ((Vec 3 Nat) × ((List (Vec 3 Nat)) × ((List (Int × ((Vec 3 Nat) × ((Vec 3 Int) × (Int × (Nat × Unit)))))) × Unit))))), ()))
      else none
    else none
  else
  Option.map Sum.inr (
    (impl_ValidLog ((s37.2.1.1, s37.2.1.2.1, s37.2.1.2.2.1, s37.2.1.2.2.2.1, s37.2.1.2.2.2.2) : (Int × ((Vec 3 Nat) × ((List (Vec 3 Nat)) × ((List (Int × ((Vec 3 Nat) × ((Vec 3 Int) × (Int × (Nat × Unit)))))) × Unit)))))).bind fun y59 =>
    bif (! y59.1.1) then some ((((0, (0, 0, 0, ()), [], [], ()) : (Int × ((Vec 3 Nat) × ((List (Vec 3 Nat)) × ((List (Int × ((Vec 3 Nat) × ((Vec 3 Int) × (Int × (Nat × Unit)))))) × Unit))))), (5 : Int), ()), ()) else
    some ((((s37.2.1.1, s37.2.1.2.1, s37.2.1.2.2.1, s37.2.1.2.2.2.1, s37.2.1.2.2.2.2) : (Int × ((Vec 3 Nat) × ((List (Vec 3 Nat)) × ((List (Int × ((Vec 3 Nat) × ((Vec 3 Int) × (Int × (Nat × Unit)))))) × Unit))))), (0 : Int), ()), ()))
noncomputable def impl_ReadLog (a0 : List UInt8) : Option (((Int × ((Vec 3 Nat) × ((List (Vec 3 Nat)) × ((List (Int × ((Vec 3 Nat) × ((Vec 3 Int) × (Int × (Nat × Unit)))))) × Unit)))) × Int × Unit) × Unit) :=
  (impl_linesOf a0).bind fun y18 =>
  bif (! y18.1.2.1) then some ((((0, (0, 0, 0, ()), [], [], ()) : (Int × ((Vec 3 Nat) × ((List (Vec 3 Nat)) × ((List (Int × ((Vec 3 Nat) × ((Vec 3 Int) × (Int × (Nat × Unit)))))) × Unit))))), (5 : Int), ()), ()) else
  bif inB 0 (List.length y18.1.1) then
    (impl_readLine (List.getD y18.1.1 0 ([] : List UInt8))).bind fun y21 =>
    (impl_lineReader_need ((y21.1.1.1, y21.1.1.2) : ((List (List UInt8)) × (Bool × Unit))) ([108, 111, 103] : List UInt8)).bind fun y22 =>
    (impl_lineReader_integer ((y22.2.1.1, y22.2.1.2) : ((List (List UInt8)) × (Bool × Unit)))).bind fun y23 =>
    (impl_lineReader_three ((y23.2.1.1, y23.2.1.2) : ((List (List UInt8)) × (Bool × Unit)))).bind fun y24 =>
    (impl_lineReader_ended ((y24.2.1.1, y24.2.1.2) : ((List (List UInt8)) × (Bool × Unit)))).bind fun y25 =>
    bif (! y25.1.1) then some ((((0, (0, 0, 0, ()), [], [], ()) : (Int × ((Vec 3 Nat) × ((List (Vec 3 Nat)) × ((List (Int × ((Vec 3 Nat) × ((Vec 3 Int) × (Int × (Nat × Unit)))))) × Unit))))), (5 : Int), ()), ()) else
    bif inS 1 ((List.length y18.1.1 : Nat) : Int) (List.length y18.1.1) then
      run (impl_ReadLog_l11 y18) ((0 : Int), ((y23.1.1, y24.1.1, [], [], ()) : (Int × ((Vec 3 Nat) × ((List (Vec 3 Nat)) × ((List (Int × ((Vec 3 Nat) × ((Vec 3 Int) × (Int × (Nat × Unit)))))) × Unit))))), ())
    else none
  else none
noncomputable def impl_ReadLog_sg : Sig := ⟨[.v (.str)], [.v (.pair (.val (.int .i64)) (.pair (.val (.arr 3 (.flt .f32))) (.pair (.rows (.arr 3 (.flt .f32))) (.pair (.rows (.pair (.int .i64) (.pair (.arr 3 (.flt .f32)) (.pair (.arr 3 (.int .i16)) (.pair (.int .i64) (.pair (.flt .f32) (.unit))))))) (.val (.unit)))))), .v (.val (.int .i64))], false⟩
noncomputable def impl_ReadLog_en : Entry := ⟨impl_ReadLog_sg, fun x => impl_ReadLog x.1⟩
theorem impl_ReadLog_eq {G : List (Nat × Obj)} (x : impl_ReadLog_sg.dom) : body (env G [(41, impl_linesOf_en), (92, impl_readLine_en), (93, impl_lineReader_need_en), (94, impl_lineReader_integer_en), (95, impl_lineReader_three_en), (96, impl_lineReader_ended_en), (97, impl_lineReader_word_en), (98, impl_readEntry_en), (99, impl_ValidLog_en)]) [(11, .vary [(39, .sc (.int .i64)), (7, .box (.pair (.val (.int .i64)) (.pair (.val (.arr 3 (.flt .f32))) (.pair (.rows (.arr 3 (.flt .f32))) (.pair (.rows (.pair (.int .i64) (.pair (.arr 3 (.flt .f32)) (.pair (.arr 3 (.int .i16)) (.pair (.int .i64) (.pair (.flt .f32) (.unit))))))) (.val (.unit)))))))])] Tryz.f34 impl_ReadLog_sg x = impl_ReadLog x.1 := by kernel_rfl
theorem impl_ReadLog_so {G : List (Nat × Obj)} (mx : GMax 1 G) (tb : GTab Tryz.prog G) (sy : GErr 2 G) (ra : GErr 3 G) (db : GDeb Tryz.prog G) : Sound Tryz.prog G 34 impl_ReadLog_en := sound_of_body (envS (l := [(41, impl_linesOf_en), (92, impl_readLine_en), (93, impl_lineReader_need_en), (94, impl_lineReader_integer_en), (95, impl_lineReader_three_en), (96, impl_lineReader_ended_en), (97, impl_lineReader_word_en), (98, impl_readEntry_en), (99, impl_ValidLog_en)]) (⟨(impl_linesOf_so mx), (impl_readLine_so mx), (impl_lineReader_need_so), (impl_lineReader_integer_so tb sy ra), (impl_lineReader_three_so sy ra db), (impl_lineReader_ended_so), (impl_lineReader_word_so), (impl_readEntry_so tb sy ra db), (impl_ValidLog_so), trivial⟩)) Tryz.func34 (by kernel_rfl) rfl (fun x y h => (impl_ReadLog_eq (G := G) x).trans h)

-- loop.example/g01204/laws.eqCounts
noncomputable def laws_eqCounts (a0 : (Vec 3 Int)) (a1 : (Vec 3 Int)) : Option ((Bool × Unit) × Unit) :=
  bif (! (iEq (Vec.getD 3 a0 0 (0 : Int)) (Vec.getD 3 a1 0 (0 : Int)))) then some ((false, ()), ()) else
  bif (! (iEq (Vec.getD 3 a0 1 (0 : Int)) (Vec.getD 3 a1 1 (0 : Int)))) then some ((false, ()), ()) else
  bif (! (iEq (Vec.getD 3 a0 2 (0 : Int)) (Vec.getD 3 a1 2 (0 : Int)))) then some ((false, ()), ()) else some ((true, ()), ())
noncomputable def laws_eqCounts_sg : Sig := ⟨[.v (.arr 3 (.int .i16)), .v (.arr 3 (.int .i16))], [.v (.val (.bool))], false⟩
noncomputable def laws_eqCounts_en : Entry := ⟨laws_eqCounts_sg, fun x => laws_eqCounts x.1 x.2.1⟩
theorem laws_eqCounts_eq {G : List (Nat × Obj)} (x : laws_eqCounts_sg.dom) : body (env G []) [(2, .unroll 4)] Tryz.f183 laws_eqCounts_sg x = laws_eqCounts x.1 x.2.1 := by kernel_rfl
theorem laws_eqCounts_so {G : List (Nat × Obj)} : Sound Tryz.prog G 183 laws_eqCounts_en := sound_of_body (envS (l := []) (trivial)) Tryz.func183 (by kernel_rfl) rfl (fun x y h => (laws_eqCounts_eq (G := G) x).trans h)

-- loop.example/g01204/laws.sameFloat
noncomputable def laws_sameFloat (a0 : Nat) (a1 : Nat) : Option ((Bool × Unit) × Unit) :=
  bif (! (fEq .f64 a0 a0)) then
    bif (! (fEq .f64 a0 a0)) then
      some (((! (fEq .f64 a1 a1)), ()), ())
    else some ((false, ()), ())
  else
  bif (! (fEq .f64 a1 a1)) then
    bif (! (fEq .f64 a0 a0)) then
      some (((! (fEq .f64 a1 a1)), ()), ())
    else some ((false, ()), ())
  else
  bif (fEq .f64 a0 0) then
    bif (fEq .f64 a1 0) then
      some (((bEq (fLt .f64 0 (fDiv .f64 4607182418800017408 a0)) (fLt .f64 0 (fDiv .f64 4607182418800017408 a1))), ()), ())
    else
    some (((fEq .f64 a0 a1), ()), ())
  else
  some (((fEq .f64 a0 a1), ()), ())
noncomputable def laws_sameFloat_sg : Sig := ⟨[.v (.flt .f64), .v (.flt .f64)], [.v (.val (.bool))], false⟩
noncomputable def laws_sameFloat_en : Entry := ⟨laws_sameFloat_sg, fun x => laws_sameFloat x.1 x.2.1⟩
theorem laws_sameFloat_eq {G : List (Nat × Obj)} (x : laws_sameFloat_sg.dom) : body (env G []) [] Tryz.f150 laws_sameFloat_sg x = laws_sameFloat x.1 x.2.1 := by kernel_rfl
theorem laws_sameFloat_so {G : List (Nat × Obj)} : Sound Tryz.prog G 150 laws_sameFloat_en := sound_of_body (envS (l := []) (trivial)) Tryz.func150 (by kernel_rfl) rfl (fun x y h => (laws_sameFloat_eq (G := G) x).trans h)

-- loop.example/g01204/laws.eqVec
noncomputable def laws_eqVec (a0 : (Vec 3 Nat)) (a1 : (Vec 3 Nat)) : Option ((Bool × Unit) × Unit) :=
  (fConv .f32 .f64 (Vec.getD 3 a0 0 (0 : Nat))).bind fun y363 =>
  (fConv .f32 .f64 (Vec.getD 3 a1 0 (0 : Nat))).bind fun y365 =>
  (laws_sameFloat y363 y365).bind fun y366 =>
  bif (! y366.1.1) then some ((false, ()), ()) else
  (fConv .f32 .f64 (Vec.getD 3 a0 1 (0 : Nat))).bind fun y369 =>
  (fConv .f32 .f64 (Vec.getD 3 a1 1 (0 : Nat))).bind fun y371 =>
  (laws_sameFloat y369 y371).bind fun y372 =>
  bif (! y372.1.1) then some ((false, ()), ()) else
  (fConv .f32 .f64 (Vec.getD 3 a0 2 (0 : Nat))).bind fun y375 =>
  (fConv .f32 .f64 (Vec.getD 3 a1 2 (0 : Nat))).bind fun y377 =>
  (laws_sameFloat y375 y377).bind fun y378 =>
  bif (! y378.1.1) then some ((false, ()), ()) else some ((true, ()), ())
noncomputable def laws_eqVec_sg : Sig := ⟨[.v (.arr 3 (.flt .f32)), .v (.arr 3 (.flt .f32))], [.v (.val (.bool))], false⟩
noncomputable def laws_eqVec_en : Entry := ⟨laws_eqVec_sg, fun x => laws_eqVec x.1 x.2.1⟩
theorem laws_eqVec_eq {G : List (Nat × Obj)} (x : laws_eqVec_sg.dom) : body (env G [(150, laws_sameFloat_en)]) [(2, .unroll 4)] Tryz.f100 laws_eqVec_sg x = laws_eqVec x.1 x.2.1 := by kernel_rfl
theorem laws_eqVec_so {G : List (Nat × Obj)} : Sound Tryz.prog G 100 laws_eqVec_en := sound_of_body (envS (l := [(150, laws_sameFloat_en)]) (⟨(laws_sameFloat_so), trivial⟩)) Tryz.func100 (by kernel_rfl) rfl (fun x y h => (laws_eqVec_eq (G := G) x).trans h)

-- loop.example/g01204/laws.eqEntry
noncomputable def laws_eqEntry (a0 : (Int × ((Vec 3 Nat) × ((Vec 3 Int) × (Int × (Nat × Unit)))))) (a1 : (Int × ((Vec 3 Nat) × ((Vec 3 Int) × (Int × (Nat × Unit)))))) : Option ((Bool × Unit) × Unit) :=
  bif (! (iEq a0.1 a1.1)) then some ((false, ()), ()) else
  (laws_eqVec a0.2.1 a1.2.1).bind fun y344 =>
  bif (! y344.1.1) then some ((false, ()), ()) else
  (laws_eqCounts a0.2.2.1 a1.2.2.1).bind fun y346 =>
  bif (! y346.1.1) then some ((false, ()), ()) else
  bif (! (iEq a0.2.2.2.1 a1.2.2.2.1)) then some ((false, ()), ()) else
  (fConv .f32 .f64 a0.2.2.2.2.1).bind fun y349 =>
  (fConv .f32 .f64 a1.2.2.2.2.1).bind fun y350 =>
  (laws_sameFloat y349 y350).bind fun y351 =>
  bif (! y351.1.1) then some ((false, ()), ()) else some ((true, ()), ())
noncomputable def laws_eqEntry_sg : Sig := ⟨[.v (.pair (.int .i64) (.pair (.arr 3 (.flt .f32)) (.pair (.arr 3 (.int .i16)) (.pair (.int .i64) (.pair (.flt .f32) (.unit)))))), .v (.pair (.int .i64) (.pair (.arr 3 (.flt .f32)) (.pair (.arr 3 (.int .i16)) (.pair (.int .i64) (.pair (.flt .f32) (.unit))))))], [.v (.val (.bool))], false⟩
noncomputable def laws_eqEntry_en : Entry := ⟨laws_eqEntry_sg, fun x => laws_eqEntry x.1 x.2.1⟩
theorem laws_eqEntry_eq {G : List (Nat × Obj)} (x : laws_eqEntry_sg.dom) : body (env G [(100, laws_eqVec_en), (150, laws_sameFloat_en), (183, laws_eqCounts_en)]) [] Tryz.f151 laws_eqEntry_sg x = laws_eqEntry x.1 x.2.1 := by kernel_rfl
theorem laws_eqEntry_so {G : List (Nat × Obj)} : Sound Tryz.prog G 151 laws_eqEntry_en := sound_of_body (envS (l := [(100, laws_eqVec_en), (150, laws_sameFloat_en), (183, laws_eqCounts_en)]) (⟨(laws_eqVec_so), (laws_sameFloat_so), (laws_eqCounts_so), trivial⟩)) Tryz.func151 (by kernel_rfl) rfl (fun x y h => (laws_eqEntry_eq (G := G) x).trans h)

-- loop.example/g01204/laws.eqEntryS
noncomputable def laws_eqEntryS_l4 (a0 : (List (Int × ((Vec 3 Nat) × ((Vec 3 Int) × (Int × (Nat × Unit))))))) (a1 : (List (Int × ((Vec 3 Nat) × ((Vec 3 Int) × (Int × (Nat × Unit))))))) (s336 : (Int × Unit)) : Option ((Int × Unit) ⊕ ((Bool × Unit) × Unit)) :=
  bif (iLt s336.1 (lenI a0)) then
    bif inB s336.1 (List.length a0) then
      bif inB s336.1 (List.length a1) then
        (laws_eqEntry (List.getD a0 s336.1.toNat ((0, (0, 0, 0, ()), (0, 0, 0, ()), 0, 0, ()) : (Int × ((Vec 3 Nat) × ((Vec 3 Int) × (Int × (Nat × Unit))))))) (List.getD a1 s336.1.toNat ((0, (0, 0, 0, ()), (0, 0, 0, ()), 0, 0, ()) : (Int × ((Vec 3 Nat) × ((Vec 3 Int) × (Int × (Nat × Unit)))))))).bind fun y340 =>
        bif (! y340.1.1) then
          Option.map Sum.inr (some ((false, ()), ()))
        else
        some (Sum.inl ((iAdd .i64 s336.1 1), ()))
      else none
    else none
  else
  Option.map Sum.inr (some ((true, ()), ()))
noncomputable def laws_eqEntryS (a0 : (List (Int × ((Vec 3 Nat) × ((Vec 3 Int) × (Int × (Nat × Unit))))))) (a1 : (List (Int × ((Vec 3 Nat) × ((Vec 3 Int) × (Int × (Nat × Unit))))))) : Option ((Bool × Unit) × Unit) :=
  bif (! (iEq (lenI a0) (lenI a1))) then some ((false, ()), ()) else run (laws_eqEntryS_l4 a0 a1) ((0 : Int), ())
noncomputable def laws_eqEntryS_sg : Sig := ⟨[.v (.list (.pair (.int .i64) (.pair (.arr 3 (.flt .f32)) (.pair (.arr 3 (.int .i16)) (.pair (.int .i64) (.pair (.flt .f32) (.unit))))))), .v (.list (.pair (.int .i64) (.pair (.arr 3 (.flt .f32)) (.pair (.arr 3 (.int .i16)) (.pair (.int .i64) (.pair (.flt .f32) (.unit)))))))], [.v (.val (.bool))], false⟩
noncomputable def laws_eqEntryS_en : Entry := ⟨laws_eqEntryS_sg, fun x => laws_eqEntryS x.1 x.2.1⟩
theorem laws_eqEntryS_eq {G : List (Nat × Obj)} (x : laws_eqEntryS_sg.dom) : body (env G [(151, laws_eqEntry_en)]) [(4, .vary [(5, .sc (.int .i64))])] Tryz.f102 laws_eqEntryS_sg x = laws_eqEntryS x.1 x.2.1 := by kernel_rfl
theorem laws_eqEntryS_so {G : List (Nat × Obj)} : Sound Tryz.prog G 102 laws_eqEntryS_en := sound_of_body (envS (l := [(151, laws_eqEntry_en)]) (⟨(laws_eqEntry_so), trivial⟩)) Tryz.func102 (by kernel_rfl) rfl (fun x y h => (laws_eqEntryS_eq (G := G) x).trans h)

-- loop.example/g01204/laws.eqVecS
noncomputable def laws_eqVecS_l4 (a0 : (List (Vec 3 Nat))) (a1 : (List (Vec 3 Nat))) (s396 : (Int × Unit)) : Option ((Int × Unit) ⊕ ((Bool × Unit) × Unit)) :=
  bif (iLt s396.1 (lenI a0)) then
    bif inB s396.1 (List.length a0) then
      bif inB s396.1 (List.length a1) then
        (laws_eqVec (List.getD a0 s396.1.toNat ((0, 0, 0, ()) : (Vec 3 Nat))) (List.getD a1 s396.1.toNat ((0, 0, 0, ()) : (Vec 3 Nat)))).bind fun y400 =>
        bif (! y400.1.1) then
          Option.map Sum.inr (some ((false, ()), ()))
        else
        some (Sum.inl ((iAdd .i64 s396.1 1), ()))
      else none
    else none
  else
  Option.map Sum.inr (some ((true, ()), ()))
noncomputable def laws_eqVecS (a0 : (List (Vec 3 Nat))) (a1 : (List (Vec 3 Nat))) : Option ((Bool × Unit) × Unit) :=
  bif (! (iEq (lenI a0) (lenI a1))) then some ((false, ()), ()) else run (laws_eqVecS_l4 a0 a1) ((0 : Int), ())
noncomputable def laws_eqVecS_sg : Sig := ⟨[.v (.list (.arr 3 (.flt .f32))), .v (.list (.arr 3 (.flt .f32)))], [.v (.val (.bool))], false⟩
noncomputable def laws_eqVecS_en : Entry := ⟨laws_eqVecS_sg, fun x => laws_eqVecS x.1 x.2.1⟩
theorem laws_eqVecS_eq {G : List (Nat × Obj)} (x : laws_eqVecS_sg.dom) : body (env G [(100, laws_eqVec_en)]) [(4, .vary [(5, .sc (.int .i64))])] Tryz.f101 laws_eqVecS_sg x = laws_eqVecS x.1 x.2.1 := by kernel_rfl
theorem laws_eqVecS_so {G : List (Nat × Obj)} : Sound Tryz.prog G 101 laws_eqVecS_en := sound_of_body (envS (l := [(100, laws_eqVec_en)]) (⟨(laws_eqVec_so), trivial⟩)) Tryz.func101 (by kernel_rfl) rfl (fun x y h => (laws_eqVecS_eq (G := G) x).trans h)

end Go.Proofs.YtdmaamakckochaaGreatDoor
