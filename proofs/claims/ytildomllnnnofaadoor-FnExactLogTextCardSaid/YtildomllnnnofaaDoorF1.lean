import Derived.Test.YtildomllnnnofaaDoorE
/- Functions on typed data: what the evaluation of each Go function is, and that it is sound. -/
namespace Go.Proofs.YtildomllnnnofaaDoor
open Go Go.Tm
set_option linter.unusedVariables false
set_option maxRecDepth 100000
variable {G : List (Nat × Obj)}
theorem strings_Builder_copyCheck_so : Sound Tryd.prog G 36 strings_Builder_copyCheck_en := copyCheck_sound (by decide) Tryd.func36 (by kernel_rfl) (by kernel_rfl) (Any.Builder_copyCheck_fresh Tryd.lays240 Tryd.Builder_X72_240) (Any.Builder_copyCheck_used Tryd.lays240 Tryd.Builder_X72_240)

-- (*strings.Builder).WriteString
noncomputable def strings_Builder_WriteString (a0 : (Unit × ((List Int) × Unit))) (a1 : List UInt8) : Option ((Int × Bool × Unit) × ((Unit × ((List Int) × Unit)) × Unit)) :=
  (strings_Builder_copyCheck ((a0.1, a0.2.1, a0.2.2) : (Unit × ((List Int) × Unit)))).bind fun y80 =>
  bif room (List.length y80.2.1.2.1 + List.length (bytesOf a1)) 1 then
    some ((lenI a1, true, ()), (((y80.2.1.1, (y80.2.1.2.1 ++ (bytesOf a1)), y80.2.1.2.2) : (Unit × ((List Int) × Unit))), ()))
  else none
noncomputable def strings_Builder_WriteString_en : Entry := ⟨⟨[.io (.pair (.val (.ref 50)) (.pair (.rows (.int .u8)) (.val (.unit)))), .v (.str)], [.v (.val (.int .i64)), .v (.val (.err))], true⟩, fun x => strings_Builder_WriteString x.1 x.2.1⟩
theorem strings_Builder_WriteString_so : Sound Tryd.prog G 17 strings_Builder_WriteString_en := so_of (envS (l := [(36, strings_Builder_copyCheck_en)]) ⟨(strings_Builder_copyCheck_so), trivial⟩) [] Tryd.func17 (by kernel_rfl) rfl fun _ => by kernel_rfl

-- loop.example/g01204/impl.isNaN
noncomputable def impl_isNaN (a0 : Nat) : Option ((Bool × Unit) × Unit) :=
  some (((! (fEq .f32 a0 a0)), ()), ())
noncomputable def impl_isNaN_en : Entry := ⟨⟨[.v (.flt .f32)], [.v (.val (.bool))], false⟩, fun x => impl_isNaN x.1⟩
theorem impl_isNaN_so : Sound Tryd.prog G 39 impl_isNaN_en := so_of (envS (l := []) trivial) [] Tryd.func39 (by kernel_rfl) rfl fun _ => by kernel_rfl

-- internal/strconv.isPowerOfTwo
noncomputable def internal_strconv_isPowerOfTwo (a0 : Int) : Option ((Bool × Unit) × Unit) :=
  some (((iEq (iAnd .i64 a0 (iSub .i64 a0 1)) 0), ()), ())
noncomputable def internal_strconv_isPowerOfTwo_en : Entry := ⟨⟨[.v (.int .i64)], [.v (.val (.bool))], false⟩, fun x => internal_strconv_isPowerOfTwo x.1⟩
theorem internal_strconv_isPowerOfTwo_so : Sound Tryd.prog G 77 internal_strconv_isPowerOfTwo_en := so_of (envS (l := []) trivial) [] Tryd.func77 (by kernel_rfl) rfl fun _ => by kernel_rfl

theorem math_bits_TrailingZeros_so (db : GDeb Tryd.prog G) : Sound Tryd.prog G 78 math_bits_TrailingZeros_en := trailing_sound Tryd.func78 (by kernel_rfl) (by kernel_rfl) db Tryd.trail

-- internal/strconv.formatBits
noncomputable def internal_strconv_formatBits_l11 (x104 : Int) (x106 : Int) (x103 : Int) (a3 : Bool) (a4 : Bool) (s113 : (Int × Int × (Vec 65 Int) × Unit)) : Option ((Int × Int × (Vec 65 Int) × Unit) ⊕ (((List Int) × List UInt8 × Unit) × Unit)) :=
  bif (iLe x104 s113.1) then
    let x115 := iSub .i64 s113.2.1 1
    let x116 := iAnd .u64 s113.1 x106
    bif inB x116 (List.length ([48, 49, 50, 51, 52, 53, 54, 55, 56, 57, 97, 98, 99, 100, 101, 102, 103, 104, 105, 106, 107, 108, 109, 110, 111, 112, 113, 114, 115, 116, 117, 118, 119, 120, 121, 122])) then
      bif inB x115 65 then
        bif iLe 0 x103 then
          some (Sum.inl ((iShr .u64 s113.1 x103), x115, Vec.set 65 s113.2.2.1 x115.toNat (strAt ([48, 49, 50, 51, 52, 53, 54, 55, 56, 57, 97, 98, 99, 100, 101, 102, 103, 104, 105, 106, 107, 108, 109, 110, 111, 112, 113, 114, 115, 116, 117, 118, 119, 120, 121, 122]) x116), ()))
        else none
      else none
    else none
  else
  Option.map Sum.inr (
    let x119 := iSub .i64 s113.2.1 1
    bif inB s113.1 (List.length ([48, 49, 50, 51, 52, 53, 54, 55, 56, 57, 97, 98, 99, 100, 101, 102, 103, 104, 105, 106, 107, 108, 109, 110, 111, 112, 113, 114, 115, 116, 117, 118, 119, 120, 121, 122])) then
      let x120 := strAt ([48, 49, 50, 51, 52, 53, 54, 55, 56, 57, 97, 98, 99, 100, 101, 102, 103, 104, 105, 106, 107, 108, 109, 110, 111, 112, 113, 114, 115, 116, 117, 118, 119, 120, 121, 122]) s113.1
      bif inB x119 65 then
        bif a3 then
          let x121 := iSub .i64 x119 1
          bif inB x121 65 then
            bif a4 then
              bif inS x121 ((65 : Nat) : Int) 65 then none else none
            else
            bif inS x121 ((65 : Nat) : Int) 65 then
              some ((([] : (List Int)), (ofBytes (List.take (65 - x121.toNat) (List.drop x121.toNat ([Vec.getD 65 (Vec.set 65 (Vec.set 65 s113.2.2.1 x119.toNat x120) x121.toNat (45 : Int)) 0 (0 : Int), Vec.getD 65 (Vec.set 65 (Vec.set 65 s113.2.2.1 x119.toNat x120) x121.toNat (45 : Int)) 1 (0 : Int), Vec.getD 65 (Vec.set 65 (Vec.set 65 s113.2.2.1 x119.toNat x120) x121.toNat (45 : Int)) 2 (0 : Int), Vec.getD 65 (Vec.set 65 (Vec.set 65 s113.2.2.1 x119.toNat x120) x121.toNat (45 : Int)) 3 (0 : Int), Vec.getD 65 (Vec.set 65 (Vec.set 65 s113.2.2.1 x119.toNat x120) x121.toNat (45 : Int)) 4 (0 : Int), Vec.getD 65 (Vec.set 65 (Vec.set 65 s113.2.2.1 x119.toNat x120) x121.toNat (45 : Int)) 5 (0 : Int), Vec.getD 65 (Vec.set 65 (Vec.set 65 s113.2.2.1 x119.toNat x120) x121.toNat (45 : Int)) 6 (0 : Int), Vec.getD 65 (Vec.set 65 (Vec.set 65 s113.2.2.1 x119.toNat x120) x121.toNat (45 : Int)) 7 (0 : Int), Vec.getD 65 (Vec.set 65 (Vec.set 65 s113.2.2.1 x119.toNat x120) x121.toNat (45 : Int)) 8 (0 : Int), Vec.getD 65 (Vec.set 65 (Vec.set 65 s113.2.2.1 x119.toNat x120) x121.toNat (45 : Int)) 9 (0 : Int), Vec.getD 65 (Vec.set 65 (Vec.set 65 s113.2.2.1 x119.toNat x120) x121.toNat (45 : Int)) 10 (0 : Int), Vec.getD 65 (Vec.set 65 (Vec.set 65 s113.2.2.1 x119.toNat x120) x121.toNat (45 : Int)) 11 (0 : Int), Vec.getD 65 (Vec.set 65 (Vec.set 65 s113.2.2.1 x119.toNat x120) x121.toNat (45 : Int)) 12 (0 : Int), Vec.getD 65 (Vec.set 65 (Vec.set 65 s113.2.2.1 x119.toNat x120) x121.toNat (45 : Int)) 13 (0 : Int), Vec.getD 65 (Vec.set 65 (Vec.set 65 s113.2.2.1 x119.toNat x120) x121.toNat (45 : Int)) 14 (0 : Int), Vec.getD 65 (Vec.set 65 (Vec.set 65 s113.2.2.1 x119.toNat x120) x121.toNat (45 : Int)) 15 (0 : Int), Vec.getD 65 (Vec.set 65 (Vec.set 65 s113.2.2.1 x119.toNat x120) x121.toNat (45 : Int)) 16 (0 : Int), Vec.getD 65 (Vec.set 65 (Vec.set 65 s113.2.2.1 x119.toNat x120) x121.toNat (45 : Int)) 17 (0 : Int), Vec.getD 65 (Vec.set 65 (Vec.set 65 s113.2.2.1 x119.toNat x120) x121.toNat (45 : Int)) 18 (0 : Int), Vec.getD 65 (Vec.set 65 (Vec.set 65 s113.2.2.1 x119.toNat x120) x121.toNat (45 : Int)) 19 (0 : Int), Vec.getD 65 (Vec.set 65 (Vec.set 65 s113.2.2.1 x119.toNat x120) x121.toNat (45 : Int)) 20 (0 : Int), Vec.getD 65 (Vec.set 65 (Vec.set 65 s113.2.2.1 x119.toNat x120) x121.toNat (45 : Int)) 21 (0 : Int), Vec.getD 65 (Vec.set 65 (Vec.set 65 s113.2.2.1 x119.toNat x120) x121.toNat (45 : Int)) 22 (0 : Int), Vec.getD 65 (Vec.set 65 (Vec.set 65 s113.2.2.1 x119.toNat x120) x121.toNat (45 : Int)) 23 (0 : Int), Vec.getD 65 (Vec.set 65 (Vec.set 65 s113.2.2.1 x119.toNat x120) x121.toNat (45 : Int)) 24 (0 : Int), Vec.getD 65 (Vec.set 65 (Vec.set 65 s113.2.2.1 x119.toNat x120) x121.toNat (45 : Int)) 25 (0 : Int), Vec.getD 65 (Vec.set 65 (Vec.set 65 s113.2.2.1 x119.toNat x120) x121.toNat (45 : Int)) 26 (0 : Int), Vec.getD 65 (Vec.set 65 (Vec.set 65 s113.2.2.1 x119.toNat x120) x121.toNat (45 : Int)) 27 (0 : Int), Vec.getD 65 (Vec.set 65 (Vec.set 65 s113.2.2.1 x119.toNat x120) x121.toNat (45 : Int)) 28 (0 : Int), Vec.getD 65 (Vec.set 65 (Vec.set 65 s113.2.2.1 x119.toNat x120) x121.toNat (45 : Int)) 29 (0 : Int), Vec.getD 65 (Vec.set 65 (Vec.set 65 s113.2.2.1 x119.toNat x120) x121.toNat (45 : Int)) 30 (0 : Int), Vec.getD 65 (Vec.set 65 (Vec.set 65 s113.2.2.1 x119.toNat x120) x121.toNat (45 : Int)) 31 (0 : Int), Vec.getD 65 (Vec.set 65 (Vec.set 65 s113.2.2.1 x119.toNat x120) x121.toNat (45 : Int)) 32 (0 : Int), Vec.getD 65 (Vec.set 65 (Vec.set 65 s113.2.2.1 x119.toNat x120) x121.toNat (45 : Int)) 33 (0 : Int), Vec.getD 65 (Vec.set 65 (Vec.set 65 s113.2.2.1 x119.toNat x120) x121.toNat (45 : Int)) 34 (0 : Int), Vec.getD 65 (Vec.set 65 (Vec.set 65 s113.2.2.1 x119.toNat x120) x121.toNat (45 : Int)) 35 (0 : Int), Vec.getD 65 (Vec.set 65 (Vec.set 65 s113.2.2.1 x119.toNat x120) x121.toNat (45 : Int)) 36 (0 : Int), Vec.getD 65 (Vec.set 65 (Vec.set 65 s113.2.2.1 x119.toNat x120) x121.toNat (45 : Int)) 37 (0 : Int), Vec.getD 65 (Vec.set 65 (Vec.set 65 s113.2.2.1 x119.toNat x120) x121.toNat (45 : Int)) 38 (0 : Int), Vec.getD 65 (Vec.set 65 (Vec.set 65 s113.2.2.1 x119.toNat x120) x121.toNat (45 : Int)) 39 (0 : Int), Vec.getD 65 (Vec.set 65 (Vec.set 65 s113.2.2.1 x119.toNat x120) x121.toNat (45 : Int)) 40 (0 : Int), Vec.getD 65 (Vec.set 65 (Vec.set 65 s113.2.2.1 x119.toNat x120) x121.toNat (45 : Int)) 41 (0 : Int), Vec.getD 65 (Vec.set 65 (Vec.set 65 s113.2.2.1 x119.toNat x120) x121.toNat (45 : Int)) 42 (0 : Int), Vec.getD 65 (Vec.set 65 (Vec.set 65 s113.2.2.1 x119.toNat x120) x121.toNat (45 : Int)) 43 (0 : Int), Vec.getD 65 (Vec.set 65 (Vec.set 65 s113.2.2.1 x119.toNat x120) x121.toNat (45 : Int)) 44 (0 : Int), Vec.getD 65 (Vec.set 65 (Vec.set 65 s113.2.2.1 x119.toNat x120) x121.toNat (45 : Int)) 45 (0 : Int), Vec.getD 65 (Vec.set 65 (Vec.set 65 s113.2.2.1 x119.toNat x120) x121.toNat (45 : Int)) 46 (0 : Int), Vec.getD 65 (Vec.set 65 (Vec.set 65 s113.2.2.1 x119.toNat x120) x121.toNat (45 : Int)) 47 (0 : Int), Vec.getD 65 (Vec.set 65 (Vec.set 65 s113.2.2.1 x119.toNat x120) x121.toNat (45 : Int)) 48 (0 : Int), Vec.getD 65 (Vec.set 65 (Vec.set 65 s113.2.2.1 x119.toNat x120) x121.toNat (45 : Int)) 49 (0 : Int), Vec.getD 65 (Vec.set 65 (Vec.set 65 s113.2.2.1 x119.toNat x120) x121.toNat (45 : Int)) 50 (0 : Int), Vec.getD 65 (Vec.set 65 (Vec.set 65 s113.2.2.1 x119.toNat x120) x121.toNat (45 : Int)) 51 (0 : Int), Vec.getD 65 (Vec.set 65 (Vec.set 65 s113.2.2.1 x119.toNat x120) x121.toNat (45 : Int)) 52 (0 : Int), Vec.getD 65 (Vec.set 65 (Vec.set 65 s113.2.2.1 x119.toNat x120) x121.toNat (45 : Int)) 53 (0 : Int), Vec.getD 65 (Vec.set 65 (Vec.set 65 s113.2.2.1 x119.toNat x120) x121.toNat (45 : Int)) 54 (0 : Int), Vec.getD 65 (Vec.set 65 (Vec.set 65 s113.2.2.1 x119.toNat x120) x121.toNat (45 : Int)) 55 (0 : Int), Vec.getD 65 (Vec.set 65 (Vec.set 65 s113.2.2.1 x119.toNat x120) x121.toNat (45 : Int)) 56 (0 : Int), Vec.getD 65 (Vec.set 65 (Vec.set 65 s113.2.2.1 x119.toNat x120) x121.toNat (45 : Int)) 57 (0 : Int), Vec.getD 65 (Vec.set 65 (Vec.set 65 s113.2.2.1 x119.toNat x120) x121.toNat (45 : Int)) 58 (0 : Int), Vec.getD 65 (Vec.set 65 (Vec.set 65 s113.2.2.1 x119.toNat x120) x121.toNat (45 : Int)) 59 (0 : Int), Vec.getD 65 (Vec.set 65 (Vec.set 65 s113.2.2.1 x119.toNat x120) x121.toNat (45 : Int)) 60 (0 : Int), Vec.getD 65 (Vec.set 65 (Vec.set 65 s113.2.2.1 x119.toNat x120) x121.toNat (45 : Int)) 61 (0 : Int), Vec.getD 65 (Vec.set 65 (Vec.set 65 s113.2.2.1 x119.toNat x120) x121.toNat (45 : Int)) 62 (0 : Int), Vec.getD 65 (Vec.set 65 (Vec.set 65 s113.2.2.1 x119.toNat x120) x121.toNat (45 : Int)) 63 (0 : Int), Vec.getD 65 (Vec.set 65 (Vec.set 65 s113.2.2.1 x119.toNat x120) x121.toNat (45 : Int)) 64 (0 : Int)] : (List Int))))), ()), ())
            else none
          else none
        else
        bif a4 then
          bif inS x119 ((65 : Nat) : Int) 65 then none else none
        else
        bif inS x119 ((65 : Nat) : Int) 65 then
          some ((([] : (List Int)), (ofBytes (List.take (65 - x119.toNat) (List.drop x119.toNat ([Vec.getD 65 (Vec.set 65 s113.2.2.1 x119.toNat x120) 0 (0 : Int), Vec.getD 65 (Vec.set 65 s113.2.2.1 x119.toNat x120) 1 (0 : Int), Vec.getD 65 (Vec.set 65 s113.2.2.1 x119.toNat x120) 2 (0 : Int), Vec.getD 65 (Vec.set 65 s113.2.2.1 x119.toNat x120) 3 (0 : Int), Vec.getD 65 (Vec.set 65 s113.2.2.1 x119.toNat x120) 4 (0 : Int), Vec.getD 65 (Vec.set 65 s113.2.2.1 x119.toNat x120) 5 (0 : Int), Vec.getD 65 (Vec.set 65 s113.2.2.1 x119.toNat x120) 6 (0 : Int), Vec.getD 65 (Vec.set 65 s113.2.2.1 x119.toNat x120) 7 (0 : Int), Vec.getD 65 (Vec.set 65 s113.2.2.1 x119.toNat x120) 8 (0 : Int), Vec.getD 65 (Vec.set 65 s113.2.2.1 x119.toNat x120) 9 (0 : Int), Vec.getD 65 (Vec.set 65 s113.2.2.1 x119.toNat x120) 10 (0 : Int), Vec.getD 65 (Vec.set 65 s113.2.2.1 x119.toNat x120) 11 (0 : Int), Vec.getD 65 (Vec.set 65 s113.2.2.1 x119.toNat x120) 12 (0 : Int), Vec.getD 65 (Vec.set 65 s113.2.2.1 x119.toNat x120) 13 (0 : Int), Vec.getD 65 (Vec.set 65 s113.2.2.1 x119.toNat x120) 14 (0 : Int), Vec.getD 65 (Vec.set 65 s113.2.2.1 x119.toNat x120) 15 (0 : Int), Vec.getD 65 (Vec.set 65 s113.2.2.1 x119.toNat x120) 16 (0 : Int), Vec.getD 65 (Vec.set 65 s113.2.2.1 x119.toNat x120) 17 (0 : Int), Vec.getD 65 (Vec.set 65 s113.2.2.1 x119.toNat x120) 18 (0 : Int), Vec.getD 65 (Vec.set 65 s113.2.2.1 x119.toNat x120) 19 (0 : Int), Vec.getD 65 (Vec.set 65 s113.2.2.1 x119.toNat x120) 20 (0 : Int), Vec.getD 65 (Vec.set 65 s113.2.2.1 x119.toNat x120) 21 (0 : Int), Vec.getD 65 (Vec.set 65 s113.2.2.1 x119.toNat x120) 22 (0 : Int), Vec.getD 65 (Vec.set 65 s113.2.2.1 x119.toNat x120) 23 (0 : Int), Vec.getD 65 (Vec.set 65 s113.2.2.1 x119.toNat x120) 24 (0 : Int), Vec.getD 65 (Vec.set 65 s113.2.2.1 x119.toNat x120) 25 (0 : Int), Vec.getD 65 (Vec.set 65 s113.2.2.1 x119.toNat x120) 26 (0 : Int), Vec.getD 65 (Vec.set 65 s113.2.2.1 x119.toNat x120) 27 (0 : Int), Vec.getD 65 (Vec.set 65 s113.2.2.1 x119.toNat x120) 28 (0 : Int), Vec.getD 65 (Vec.set 65 s113.2.2.1 x119.toNat x120) 29 (0 : Int), Vec.getD 65 (Vec.set 65 s113.2.2.1 x119.toNat x120) 30 (0 : Int), Vec.getD 65 (Vec.set 65 s113.2.2.1 x119.toNat x120) 31 (0 : Int), Vec.getD 65 (Vec.set 65 s113.2.2.1 x119.toNat x120) 32 (0 : Int), Vec.getD 65 (Vec.set 65 s113.2.2.1 x119.toNat x120) 33 (0 : Int), Vec.getD 65 (Vec.set 65 s113.2.2.1 x119.toNat x120) 34 (0 : Int), Vec.getD 65 (Vec.set 65 s113.2.2.1 x119.toNat x120) 35 (0 : Int), Vec.getD 65 (Vec.set 65 s113.2.2.1 x119.toNat x120) 36 (0 : Int), Vec.getD 65 (Vec.set 65 s113.2.2.1 x119.toNat x120) 37 (0 : Int), Vec.getD 65 (Vec.set 65 s113.2.2.1 x119.toNat x120) 38 (0 : Int), Vec.getD 65 (Vec.set 65 s113.2.2.1 x119.toNat x120) 39 (0 : Int), Vec.getD 65 (Vec.set 65 s113.2.2.1 x119.toNat x120) 40 (0 : Int), Vec.getD 65 (Vec.set 65 s113.2.2.1 x119.toNat x120) 41 (0 : Int), Vec.getD 65 (Vec.set 65 s113.2.2.1 x119.toNat x120) 42 (0 : Int), Vec.getD 65 (Vec.set 65 s113.2.2.1 x119.toNat x120) 43 (0 : Int), Vec.getD 65 (Vec.set 65 s113.2.2.1 x119.toNat x120) 44 (0 : Int), Vec.getD 65 (Vec.set 65 s113.2.2.1 x119.toNat x120) 45 (0 : Int), Vec.getD 65 (Vec.set 65 s113.2.2.1 x119.toNat x120) 46 (0 : Int), Vec.getD 65 (Vec.set 65 s113.2.2.1 x119.toNat x120) 47 (0 : Int), Vec.getD 65 (Vec.set 65 s113.2.2.1 x119.toNat x120) 48 (0 : Int), Vec.getD 65 (Vec.set 65 s113.2.2.1 x119.toNat x120) 49 (0 : Int), Vec.getD 65 (Vec.set 65 s113.2.2.1 x119.toNat x120) 50 (0 : Int), Vec.getD 65 (Vec.set 65 s113.2.2.1 x119.toNat x120) 51 (0 : Int), Vec.getD 65 (Vec.set 65 s113.2.2.1 x119.toNat x120) 52 (0 : Int), Vec.getD 65 (Vec.set 65 s113.2.2.1 x119.toNat x120) 53 (0 : Int), Vec.getD 65 (Vec.set 65 s113.2.2.1 x119.toNat x120) 54 (0 : Int), Vec.getD 65 (Vec.set 65 s113.2.2.1 x119.toNat x120) 55 (0 : Int), Vec.getD 65 (Vec.set 65 s113.2.2.1 x119.toNat x120) 56 (0 : Int), Vec.getD 65 (Vec.set 65 s113.2.2.1 x119.toNat x120) 57 (0 : Int), Vec.getD 65 (Vec.set 65 s113.2.2.1 x119.toNat x120) 58 (0 : Int), Vec.getD 65 (Vec.set 65 s113.2.2.1 x119.toNat x120) 59 (0 : Int), Vec.getD 65 (Vec.set 65 s113.2.2.1 x119.toNat x120) 60 (0 : Int), Vec.getD 65 (Vec.set 65 s113.2.2.1 x119.toNat x120) 61 (0 : Int), Vec.getD 65 (Vec.set 65 s113.2.2.1 x119.toNat x120) 62 (0 : Int), Vec.getD 65 (Vec.set 65 s113.2.2.1 x119.toNat x120) 63 (0 : Int), Vec.getD 65 (Vec.set 65 s113.2.2.1 x119.toNat x120) 64 (0 : Int)] : (List Int))))), ()), ())
        else none
      else none
    else none)
noncomputable def internal_strconv_formatBits_l18 (x124 : Int) (a3 : Bool) (a4 : Bool) (s132 : (Int × Int × (Vec 65 Int) × Unit)) : Option ((Int × Int × (Vec 65 Int) × Unit) ⊕ (((List Int) × List UInt8 × Unit) × Unit)) :=
  bif (iLe x124 s132.1) then
    let x134 := iSub .i64 s132.2.1 1
    bif iEq x124 0 then none else
    let x135 := iQuo .u64 s132.1 x124
    let x137 := iSub .u64 s132.1 (iMul .u64 x135 x124)
    bif inB x137 (List.length ([48, 49, 50, 51, 52, 53, 54, 55, 56, 57, 97, 98, 99, 100, 101, 102, 103, 104, 105, 106, 107, 108, 109, 110, 111, 112, 113, 114, 115, 116, 117, 118, 119, 120, 121, 122])) then
      bif inB x134 65 then some (Sum.inl (x135, x134, Vec.set 65 s132.2.2.1 x134.toNat (strAt ([48, 49, 50, 51, 52, 53, 54, 55, 56, 57, 97, 98, 99, 100, 101, 102, 103, 104, 105, 106, 107, 108, 109, 110, 111, 112, 113, 114, 115, 116, 117, 118, 119, 120, 121, 122]) x137), ())) else none
    else none
  else
  Option.map Sum.inr (
    let x139 := iSub .i64 s132.2.1 1
    bif inB s132.1 (List.length ([48, 49, 50, 51, 52, 53, 54, 55, 56, 57, 97, 98, 99, 100, 101, 102, 103, 104, 105, 106, 107, 108, 109, 110, 111, 112, 113, 114, 115, 116, 117, 118, 119, 120, 121, 122])) then
      let x140 := strAt ([48, 49, 50, 51, 52, 53, 54, 55, 56, 57, 97, 98, 99, 100, 101, 102, 103, 104, 105, 106, 107, 108, 109, 110, 111, 112, 113, 114, 115, 116, 117, 118, 119, 120, 121, 122]) s132.1
      bif inB x139 65 then
        bif a3 then
          let x141 := iSub .i64 x139 1
          bif inB x141 65 then
            bif a4 then
              bif inS x141 ((65 : Nat) : Int) 65 then none else none
            else
            bif inS x141 ((65 : Nat) : Int) 65 then
              some ((([] : (List Int)), (ofBytes (List.take (65 - x141.toNat) (List.drop x141.toNat ([Vec.getD 65 (Vec.set 65 (Vec.set 65 s132.2.2.1 x139.toNat x140) x141.toNat (45 : Int)) 0 (0 : Int), Vec.getD 65 (Vec.set 65 (Vec.set 65 s132.2.2.1 x139.toNat x140) x141.toNat (45 : Int)) 1 (0 : Int), Vec.getD 65 (Vec.set 65 (Vec.set 65 s132.2.2.1 x139.toNat x140) x141.toNat (45 : Int)) 2 (0 : Int), Vec.getD 65 (Vec.set 65 (Vec.set 65 s132.2.2.1 x139.toNat x140) x141.toNat (45 : Int)) 3 (0 : Int), Vec.getD 65 (Vec.set 65 (Vec.set 65 s132.2.2.1 x139.toNat x140) x141.toNat (45 : Int)) 4 (0 : Int), Vec.getD 65 (Vec.set 65 (Vec.set 65 s132.2.2.1 x139.toNat x140) x141.toNat (45 : Int)) 5 (0 : Int), Vec.getD 65 (Vec.set 65 (Vec.set 65 s132.2.2.1 x139.toNat x140) x141.toNat (45 : Int)) 6 (0 : Int), Vec.getD 65 (Vec.set 65 (Vec.set 65 s132.2.2.1 x139.toNat x140) x141.toNat (45 : Int)) 7 (0 : Int), Vec.getD 65 (Vec.set 65 (Vec.set 65 s132.2.2.1 x139.toNat x140) x141.toNat (45 : Int)) 8 (0 : Int), Vec.getD 65 (Vec.set 65 (Vec.set 65 s132.2.2.1 x139.toNat x140) x141.toNat (45 : Int)) 9 (0 : Int), Vec.getD 65 (Vec.set 65 (Vec.set 65 s132.2.2.1 x139.toNat x140) x141.toNat (45 : Int)) 10 (0 : Int), Vec.getD 65 (Vec.set 65 (Vec.set 65 s132.2.2.1 x139.toNat x140) x141.toNat (45 : Int)) 11 (0 : Int), Vec.getD 65 (Vec.set 65 (Vec.set 65 s132.2.2.1 x139.toNat x140) x141.toNat (45 : Int)) 12 (0 : Int), Vec.getD 65 (Vec.set 65 (Vec.set 65 s132.2.2.1 x139.toNat x140) x141.toNat (45 : Int)) 13 (0 : Int), Vec.getD 65 (Vec.set 65 (Vec.set 65 s132.2.2.1 x139.toNat x140) x141.toNat (45 : Int)) 14 (0 : Int), Vec.getD 65 (Vec.set 65 (Vec.set 65 s132.2.2.1 x139.toNat x140) x141.toNat (45 : Int)) 15 (0 : Int), Vec.getD 65 (Vec.set 65 (Vec.set 65 s132.2.2.1 x139.toNat x140) x141.toNat (45 : Int)) 16 (0 : Int), Vec.getD 65 (Vec.set 65 (Vec.set 65 s132.2.2.1 x139.toNat x140) x141.toNat (45 : Int)) 17 (0 : Int), Vec.getD 65 (Vec.set 65 (Vec.set 65 s132.2.2.1 x139.toNat x140) x141.toNat (45 : Int)) 18 (0 : Int), Vec.getD 65 (Vec.set 65 (Vec.set 65 s132.2.2.1 x139.toNat x140) x141.toNat (45 : Int)) 19 (0 : Int), Vec.getD 65 (Vec.set 65 (Vec.set 65 s132.2.2.1 x139.toNat x140) x141.toNat (45 : Int)) 20 (0 : Int), Vec.getD 65 (Vec.set 65 (Vec.set 65 s132.2.2.1 x139.toNat x140) x141.toNat (45 : Int)) 21 (0 : Int), Vec.getD 65 (Vec.set 65 (Vec.set 65 s132.2.2.1 x139.toNat x140) x141.toNat (45 : Int)) 22 (0 : Int), Vec.getD 65 (Vec.set 65 (Vec.set 65 s132.2.2.1 x139.toNat x140) x141.toNat (45 : Int)) 23 (0 : Int), Vec.getD 65 (Vec.set 65 (Vec.set 65 s132.2.2.1 x139.toNat x140) x141.toNat (45 : Int)) 24 (0 : Int), Vec.getD 65 (Vec.set 65 (Vec.set 65 s132.2.2.1 x139.toNat x140) x141.toNat (45 : Int)) 25 (0 : Int), Vec.getD 65 (Vec.set 65 (Vec.set 65 s132.2.2.1 x139.toNat x140) x141.toNat (45 : Int)) 26 (0 : Int), Vec.getD 65 (Vec.set 65 (Vec.set 65 s132.2.2.1 x139.toNat x140) x141.toNat (45 : Int)) 27 (0 : Int), Vec.getD 65 (Vec.set 65 (Vec.set 65 s132.2.2.1 x139.toNat x140) x141.toNat (45 : Int)) 28 (0 : Int), Vec.getD 65 (Vec.set 65 (Vec.set 65 s132.2.2.1 x139.toNat x140) x141.toNat (45 : Int)) 29 (0 : Int), Vec.getD 65 (Vec.set 65 (Vec.set 65 s132.2.2.1 x139.toNat x140) x141.toNat (45 : Int)) 30 (0 : Int), Vec.getD 65 (Vec.set 65 (Vec.set 65 s132.2.2.1 x139.toNat x140) x141.toNat (45 : Int)) 31 (0 : Int), Vec.getD 65 (Vec.set 65 (Vec.set 65 s132.2.2.1 x139.toNat x140) x141.toNat (45 : Int)) 32 (0 : Int), Vec.getD 65 (Vec.set 65 (Vec.set 65 s132.2.2.1 x139.toNat x140) x141.toNat (45 : Int)) 33 (0 : Int), Vec.getD 65 (Vec.set 65 (Vec.set 65 s132.2.2.1 x139.toNat x140) x141.toNat (45 : Int)) 34 (0 : Int), Vec.getD 65 (Vec.set 65 (Vec.set 65 s132.2.2.1 x139.toNat x140) x141.toNat (45 : Int)) 35 (0 : Int), Vec.getD 65 (Vec.set 65 (Vec.set 65 s132.2.2.1 x139.toNat x140) x141.toNat (45 : Int)) 36 (0 : Int), Vec.getD 65 (Vec.set 65 (Vec.set 65 s132.2.2.1 x139.toNat x140) x141.toNat (45 : Int)) 37 (0 : Int), Vec.getD 65 (Vec.set 65 (Vec.set 65 s132.2.2.1 x139.toNat x140) x141.toNat (45 : Int)) 38 (0 : Int), Vec.getD 65 (Vec.set 65 (Vec.set 65 s132.2.2.1 x139.toNat x140) x141.toNat (45 : Int)) 39 (0 : Int), Vec.getD 65 (Vec.set 65 (Vec.set 65 s132.2.2.1 x139.toNat x140) x141.toNat (45 : Int)) 40 (0 : Int), Vec.getD 65 (Vec.set 65 (Vec.set 65 s132.2.2.1 x139.toNat x140) x141.toNat (45 : Int)) 41 (0 : Int), Vec.getD 65 (Vec.set 65 (Vec.set 65 s132.2.2.1 x139.toNat x140) x141.toNat (45 : Int)) 42 (0 : Int), Vec.getD 65 (Vec.set 65 (Vec.set 65 s132.2.2.1 x139.toNat x140) x141.toNat (45 : Int)) 43 (0 : Int), Vec.getD 65 (Vec.set 65 (Vec.set 65 s132.2.2.1 x139.toNat x140) x141.toNat (45 : Int)) 44 (0 : Int), Vec.getD 65 (Vec.set 65 (Vec.set 65 s132.2.2.1 x139.toNat x140) x141.toNat (45 : Int)) 45 (0 : Int), Vec.getD 65 (Vec.set 65 (Vec.set 65 s132.2.2.1 x139.toNat x140) x141.toNat (45 : Int)) 46 (0 : Int), Vec.getD 65 (Vec.set 65 (Vec.set 65 s132.2.2.1 x139.toNat x140) x141.toNat (45 : Int)) 47 (0 : Int), Vec.getD 65 (Vec.set 65 (Vec.set 65 s132.2.2.1 x139.toNat x140) x141.toNat (45 : Int)) 48 (0 : Int), Vec.getD 65 (Vec.set 65 (Vec.set 65 s132.2.2.1 x139.toNat x140) x141.toNat (45 : Int)) 49 (0 : Int), Vec.getD 65 (Vec.set 65 (Vec.set 65 s132.2.2.1 x139.toNat x140) x141.toNat (45 : Int)) 50 (0 : Int), Vec.getD 65 (Vec.set 65 (Vec.set 65 s132.2.2.1 x139.toNat x140) x141.toNat (45 : Int)) 51 (0 : Int), Vec.getD 65 (Vec.set 65 (Vec.set 65 s132.2.2.1 x139.toNat x140) x141.toNat (45 : Int)) 52 (0 : Int), Vec.getD 65 (Vec.set 65 (Vec.set 65 s132.2.2.1 x139.toNat x140) x141.toNat (45 : Int)) 53 (0 : Int), Vec.getD 65 (Vec.set 65 (Vec.set 65 s132.2.2.1 x139.toNat x140) x141.toNat (45 : Int)) 54 (0 : Int), Vec.getD 65 (Vec.set 65 (Vec.set 65 s132.2.2.1 x139.toNat x140) x141.toNat (45 : Int)) 55 (0 : Int), Vec.getD 65 (Vec.set 65 (Vec.set 65 s132.2.2.1 x139.toNat x140) x141.toNat (45 : Int)) 56 (0 : Int), Vec.getD 65 (Vec.set 65 (Vec.set 65 s132.2.2.1 x139.toNat x140) x141.toNat (45 : Int)) 57 (0 : Int), Vec.getD 65 (Vec.set 65 (Vec.set 65 s132.2.2.1 x139.toNat x140) x141.toNat (45 : Int)) 58 (0 : Int), Vec.getD 65 (Vec.set 65 (Vec.set 65 s132.2.2.1 x139.toNat x140) x141.toNat (45 : Int)) 59 (0 : Int), Vec.getD 65 (Vec.set 65 (Vec.set 65 s132.2.2.1 x139.toNat x140) x141.toNat (45 : Int)) 60 (0 : Int), Vec.getD 65 (Vec.set 65 (Vec.set 65 s132.2.2.1 x139.toNat x140) x141.toNat (45 : Int)) 61 (0 : Int), Vec.getD 65 (Vec.set 65 (Vec.set 65 s132.2.2.1 x139.toNat x140) x141.toNat (45 : Int)) 62 (0 : Int), Vec.getD 65 (Vec.set 65 (Vec.set 65 s132.2.2.1 x139.toNat x140) x141.toNat (45 : Int)) 63 (0 : Int), Vec.getD 65 (Vec.set 65 (Vec.set 65 s132.2.2.1 x139.toNat x140) x141.toNat (45 : Int)) 64 (0 : Int)] : (List Int))))), ()), ())
            else none
          else none
        else
        bif a4 then
          bif inS x139 ((65 : Nat) : Int) 65 then none else none
        else
        bif inS x139 ((65 : Nat) : Int) 65 then
          some ((([] : (List Int)), (ofBytes (List.take (65 - x139.toNat) (List.drop x139.toNat ([Vec.getD 65 (Vec.set 65 s132.2.2.1 x139.toNat x140) 0 (0 : Int), Vec.getD 65 (Vec.set 65 s132.2.2.1 x139.toNat x140) 1 (0 : Int), Vec.getD 65 (Vec.set 65 s132.2.2.1 x139.toNat x140) 2 (0 : Int), Vec.getD 65 (Vec.set 65 s132.2.2.1 x139.toNat x140) 3 (0 : Int), Vec.getD 65 (Vec.set 65 s132.2.2.1 x139.toNat x140) 4 (0 : Int), Vec.getD 65 (Vec.set 65 s132.2.2.1 x139.toNat x140) 5 (0 : Int), Vec.getD 65 (Vec.set 65 s132.2.2.1 x139.toNat x140) 6 (0 : Int), Vec.getD 65 (Vec.set 65 s132.2.2.1 x139.toNat x140) 7 (0 : Int), Vec.getD 65 (Vec.set 65 s132.2.2.1 x139.toNat x140) 8 (0 : Int), Vec.getD 65 (Vec.set 65 s132.2.2.1 x139.toNat x140) 9 (0 : Int), Vec.getD 65 (Vec.set 65 s132.2.2.1 x139.toNat x140) 10 (0 : Int), Vec.getD 65 (Vec.set 65 s132.2.2.1 x139.toNat x140) 11 (0 : Int), Vec.getD 65 (Vec.set 65 s132.2.2.1 x139.toNat x140) 12 (0 : Int), Vec.getD 65 (Vec.set 65 s132.2.2.1 x139.toNat x140) 13 (0 : Int), Vec.getD 65 (Vec.set 65 s132.2.2.1 x139.toNat x140) 14 (0 : Int), Vec.getD 65 (Vec.set 65 s132.2.2.1 x139.toNat x140) 15 (0 : Int), Vec.getD 65 (Vec.set 65 s132.2.2.1 x139.toNat x140) 16 (0 : Int), Vec.getD 65 (Vec.set 65 s132.2.2.1 x139.toNat x140) 17 (0 : Int), Vec.getD 65 (Vec.set 65 s132.2.2.1 x139.toNat x140) 18 (0 : Int), Vec.getD 65 (Vec.set 65 s132.2.2.1 x139.toNat x140) 19 (0 : Int), Vec.getD 65 (Vec.set 65 s132.2.2.1 x139.toNat x140) 20 (0 : Int), Vec.getD 65 (Vec.set 65 s132.2.2.1 x139.toNat x140) 21 (0 : Int), Vec.getD 65 (Vec.set 65 s132.2.2.1 x139.toNat x140) 22 (0 : Int), Vec.getD 65 (Vec.set 65 s132.2.2.1 x139.toNat x140) 23 (0 : Int), Vec.getD 65 (Vec.set 65 s132.2.2.1 x139.toNat x140) 24 (0 : Int), Vec.getD 65 (Vec.set 65 s132.2.2.1 x139.toNat x140) 25 (0 : Int), Vec.getD 65 (Vec.set 65 s132.2.2.1 x139.toNat x140) 26 (0 : Int), Vec.getD 65 (Vec.set 65 s132.2.2.1 x139.toNat x140) 27 (0 : Int), Vec.getD 65 (Vec.set 65 s132.2.2.1 x139.toNat x140) 28 (0 : Int), Vec.getD 65 (Vec.set 65 s132.2.2.1 x139.toNat x140) 29 (0 : Int), Vec.getD 65 (Vec.set 65 s132.2.2.1 x139.toNat x140) 30 (0 : Int), Vec.getD 65 (Vec.set 65 s132.2.2.1 x139.toNat x140) 31 (0 : Int), Vec.getD 65 (Vec.set 65 s132.2.2.1 x139.toNat x140) 32 (0 : Int), Vec.getD 65 (Vec.set 65 s132.2.2.1 x139.toNat x140) 33 (0 : Int), Vec.getD 65 (Vec.set 65 s132.2.2.1 x139.toNat x140) 34 (0 : Int), Vec.getD 65 (Vec.set 65 s132.2.2.1 x139.toNat x140) 35 (0 : Int), Vec.getD 65 (Vec.set 65 s132.2.2.1 x139.toNat x140) 36 (0 : Int), Vec.getD 65 (Vec.set 65 s132.2.2.1 x139.toNat x140) 37 (0 : Int), Vec.getD 65 (Vec.set 65 s132.2.2.1 x139.toNat x140) 38 (0 : Int), Vec.getD 65 (Vec.set 65 s132.2.2.1 x139.toNat x140) 39 (0 : Int), Vec.getD 65 (Vec.set 65 s132.2.2.1 x139.toNat x140) 40 (0 : Int), Vec.getD 65 (Vec.set 65 s132.2.2.1 x139.toNat x140) 41 (0 : Int), Vec.getD 65 (Vec.set 65 s132.2.2.1 x139.toNat x140) 42 (0 : Int), Vec.getD 65 (Vec.set 65 s132.2.2.1 x139.toNat x140) 43 (0 : Int), Vec.getD 65 (Vec.set 65 s132.2.2.1 x139.toNat x140) 44 (0 : Int), Vec.getD 65 (Vec.set 65 s132.2.2.1 x139.toNat x140) 45 (0 : Int), Vec.getD 65 (Vec.set 65 s132.2.2.1 x139.toNat x140) 46 (0 : Int), Vec.getD 65 (Vec.set 65 s132.2.2.1 x139.toNat x140) 47 (0 : Int), Vec.getD 65 (Vec.set 65 s132.2.2.1 x139.toNat x140) 48 (0 : Int), Vec.getD 65 (Vec.set 65 s132.2.2.1 x139.toNat x140) 49 (0 : Int), Vec.getD 65 (Vec.set 65 s132.2.2.1 x139.toNat x140) 50 (0 : Int), Vec.getD 65 (Vec.set 65 s132.2.2.1 x139.toNat x140) 51 (0 : Int), Vec.getD 65 (Vec.set 65 s132.2.2.1 x139.toNat x140) 52 (0 : Int), Vec.getD 65 (Vec.set 65 s132.2.2.1 x139.toNat x140) 53 (0 : Int), Vec.getD 65 (Vec.set 65 s132.2.2.1 x139.toNat x140) 54 (0 : Int), Vec.getD 65 (Vec.set 65 s132.2.2.1 x139.toNat x140) 55 (0 : Int), Vec.getD 65 (Vec.set 65 s132.2.2.1 x139.toNat x140) 56 (0 : Int), Vec.getD 65 (Vec.set 65 s132.2.2.1 x139.toNat x140) 57 (0 : Int), Vec.getD 65 (Vec.set 65 s132.2.2.1 x139.toNat x140) 58 (0 : Int), Vec.getD 65 (Vec.set 65 s132.2.2.1 x139.toNat x140) 59 (0 : Int), Vec.getD 65 (Vec.set 65 s132.2.2.1 x139.toNat x140) 60 (0 : Int), Vec.getD 65 (Vec.set 65 s132.2.2.1 x139.toNat x140) 61 (0 : Int), Vec.getD 65 (Vec.set 65 s132.2.2.1 x139.toNat x140) 62 (0 : Int), Vec.getD 65 (Vec.set 65 s132.2.2.1 x139.toNat x140) 63 (0 : Int), Vec.getD 65 (Vec.set 65 s132.2.2.1 x139.toNat x140) 64 (0 : Int)] : (List Int))))), ()), ())
        else none
      else none
    else none)
noncomputable def internal_strconv_formatBits_l11_2 (x148 : Int) (x150 : Int) (x147 : Int) (a3 : Bool) (a4 : Bool) (s157 : (Int × Int × (Vec 65 Int) × Unit)) : Option ((Int × Int × (Vec 65 Int) × Unit) ⊕ (((List Int) × List UInt8 × Unit) × Unit)) :=
  bif (iLe x148 s157.1) then
    let x159 := iSub .i64 s157.2.1 1
    let x160 := iAnd .u64 s157.1 x150
    bif inB x160 (List.length ([48, 49, 50, 51, 52, 53, 54, 55, 56, 57, 97, 98, 99, 100, 101, 102, 103, 104, 105, 106, 107, 108, 109, 110, 111, 112, 113, 114, 115, 116, 117, 118, 119, 120, 121, 122])) then
      bif inB x159 65 then
        bif iLe 0 x147 then
          some (Sum.inl ((iShr .u64 s157.1 x147), x159, Vec.set 65 s157.2.2.1 x159.toNat (strAt ([48, 49, 50, 51, 52, 53, 54, 55, 56, 57, 97, 98, 99, 100, 101, 102, 103, 104, 105, 106, 107, 108, 109, 110, 111, 112, 113, 114, 115, 116, 117, 118, 119, 120, 121, 122]) x160), ()))
        else none
      else none
    else none
  else
  Option.map Sum.inr (
    let x163 := iSub .i64 s157.2.1 1
    bif inB s157.1 (List.length ([48, 49, 50, 51, 52, 53, 54, 55, 56, 57, 97, 98, 99, 100, 101, 102, 103, 104, 105, 106, 107, 108, 109, 110, 111, 112, 113, 114, 115, 116, 117, 118, 119, 120, 121, 122])) then
      let x164 := strAt ([48, 49, 50, 51, 52, 53, 54, 55, 56, 57, 97, 98, 99, 100, 101, 102, 103, 104, 105, 106, 107, 108, 109, 110, 111, 112, 113, 114, 115, 116, 117, 118, 119, 120, 121, 122]) s157.1
      bif inB x163 65 then
        bif a3 then
          let x165 := iSub .i64 x163 1
          bif inB x165 65 then
            bif a4 then
              bif inS x165 ((65 : Nat) : Int) 65 then none else none
            else
            bif inS x165 ((65 : Nat) : Int) 65 then
              some ((([] : (List Int)), (ofBytes (List.take (65 - x165.toNat) (List.drop x165.toNat ([Vec.getD 65 (Vec.set 65 (Vec.set 65 s157.2.2.1 x163.toNat x164) x165.toNat (45 : Int)) 0 (0 : Int), Vec.getD 65 (Vec.set 65 (Vec.set 65 s157.2.2.1 x163.toNat x164) x165.toNat (45 : Int)) 1 (0 : Int), Vec.getD 65 (Vec.set 65 (Vec.set 65 s157.2.2.1 x163.toNat x164) x165.toNat (45 : Int)) 2 (0 : Int), Vec.getD 65 (Vec.set 65 (Vec.set 65 s157.2.2.1 x163.toNat x164) x165.toNat (45 : Int)) 3 (0 : Int), Vec.getD 65 (Vec.set 65 (Vec.set 65 s157.2.2.1 x163.toNat x164) x165.toNat (45 : Int)) 4 (0 : Int), Vec.getD 65 (Vec.set 65 (Vec.set 65 s157.2.2.1 x163.toNat x164) x165.toNat (45 : Int)) 5 (0 : Int), Vec.getD 65 (Vec.set 65 (Vec.set 65 s157.2.2.1 x163.toNat x164) x165.toNat (45 : Int)) 6 (0 : Int), Vec.getD 65 (Vec.set 65 (Vec.set 65 s157.2.2.1 x163.toNat x164) x165.toNat (45 : Int)) 7 (0 : Int), Vec.getD 65 (Vec.set 65 (Vec.set 65 s157.2.2.1 x163.toNat x164) x165.toNat (45 : Int)) 8 (0 : Int), Vec.getD 65 (Vec.set 65 (Vec.set 65 s157.2.2.1 x163.toNat x164) x165.toNat (45 : Int)) 9 (0 : Int), Vec.getD 65 (Vec.set 65 (Vec.set 65 s157.2.2.1 x163.toNat x164) x165.toNat (45 : Int)) 10 (0 : Int), Vec.getD 65 (Vec.set 65 (Vec.set 65 s157.2.2.1 x163.toNat x164) x165.toNat (45 : Int)) 11 (0 : Int), Vec.getD 65 (Vec.set 65 (Vec.set 65 s157.2.2.1 x163.toNat x164) x165.toNat (45 : Int)) 12 (0 : Int), Vec.getD 65 (Vec.set 65 (Vec.set 65 s157.2.2.1 x163.toNat x164) x165.toNat (45 : Int)) 13 (0 : Int), Vec.getD 65 (Vec.set 65 (Vec.set 65 s157.2.2.1 x163.toNat x164) x165.toNat (45 : Int)) 14 (0 : Int), Vec.getD 65 (Vec.set 65 (Vec.set 65 s157.2.2.1 x163.toNat x164) x165.toNat (45 : Int)) 15 (0 : Int), Vec.getD 65 (Vec.set 65 (Vec.set 65 s157.2.2.1 x163.toNat x164) x165.toNat (45 : Int)) 16 (0 : Int), Vec.getD 65 (Vec.set 65 (Vec.set 65 s157.2.2.1 x163.toNat x164) x165.toNat (45 : Int)) 17 (0 : Int), Vec.getD 65 (Vec.set 65 (Vec.set 65 s157.2.2.1 x163.toNat x164) x165.toNat (45 : Int)) 18 (0 : Int), Vec.getD 65 (Vec.set 65 (Vec.set 65 s157.2.2.1 x163.toNat x164) x165.toNat (45 : Int)) 19 (0 : Int), Vec.getD 65 (Vec.set 65 (Vec.set 65 s157.2.2.1 x163.toNat x164) x165.toNat (45 : Int)) 20 (0 : Int), Vec.getD 65 (Vec.set 65 (Vec.set 65 s157.2.2.1 x163.toNat x164) x165.toNat (45 : Int)) 21 (0 : Int), Vec.getD 65 (Vec.set 65 (Vec.set 65 s157.2.2.1 x163.toNat x164) x165.toNat (45 : Int)) 22 (0 : Int), Vec.getD 65 (Vec.set 65 (Vec.set 65 s157.2.2.1 x163.toNat x164) x165.toNat (45 : Int)) 23 (0 : Int), Vec.getD 65 (Vec.set 65 (Vec.set 65 s157.2.2.1 x163.toNat x164) x165.toNat (45 : Int)) 24 (0 : Int), Vec.getD 65 (Vec.set 65 (Vec.set 65 s157.2.2.1 x163.toNat x164) x165.toNat (45 : Int)) 25 (0 : Int), Vec.getD 65 (Vec.set 65 (Vec.set 65 s157.2.2.1 x163.toNat x164) x165.toNat (45 : Int)) 26 (0 : Int), Vec.getD 65 (Vec.set 65 (Vec.set 65 s157.2.2.1 x163.toNat x164) x165.toNat (45 : Int)) 27 (0 : Int), Vec.getD 65 (Vec.set 65 (Vec.set 65 s157.2.2.1 x163.toNat x164) x165.toNat (45 : Int)) 28 (0 : Int), Vec.getD 65 (Vec.set 65 (Vec.set 65 s157.2.2.1 x163.toNat x164) x165.toNat (45 : Int)) 29 (0 : Int), Vec.getD 65 (Vec.set 65 (Vec.set 65 s157.2.2.1 x163.toNat x164) x165.toNat (45 : Int)) 30 (0 : Int), Vec.getD 65 (Vec.set 65 (Vec.set 65 s157.2.2.1 x163.toNat x164) x165.toNat (45 : Int)) 31 (0 : Int), Vec.getD 65 (Vec.set 65 (Vec.set 65 s157.2.2.1 x163.toNat x164) x165.toNat (45 : Int)) 32 (0 : Int), Vec.getD 65 (Vec.set 65 (Vec.set 65 s157.2.2.1 x163.toNat x164) x165.toNat (45 : Int)) 33 (0 : Int), Vec.getD 65 (Vec.set 65 (Vec.set 65 s157.2.2.1 x163.toNat x164) x165.toNat (45 : Int)) 34 (0 : Int), Vec.getD 65 (Vec.set 65 (Vec.set 65 s157.2.2.1 x163.toNat x164) x165.toNat (45 : Int)) 35 (0 : Int), Vec.getD 65 (Vec.set 65 (Vec.set 65 s157.2.2.1 x163.toNat x164) x165.toNat (45 : Int)) 36 (0 : Int), Vec.getD 65 (Vec.set 65 (Vec.set 65 s157.2.2.1 x163.toNat x164) x165.toNat (45 : Int)) 37 (0 : Int), Vec.getD 65 (Vec.set 65 (Vec.set 65 s157.2.2.1 x163.toNat x164) x165.toNat (45 : Int)) 38 (0 : Int), Vec.getD 65 (Vec.set 65 (Vec.set 65 s157.2.2.1 x163.toNat x164) x165.toNat (45 : Int)) 39 (0 : Int), Vec.getD 65 (Vec.set 65 (Vec.set 65 s157.2.2.1 x163.toNat x164) x165.toNat (45 : Int)) 40 (0 : Int), Vec.getD 65 (Vec.set 65 (Vec.set 65 s157.2.2.1 x163.toNat x164) x165.toNat (45 : Int)) 41 (0 : Int), Vec.getD 65 (Vec.set 65 (Vec.set 65 s157.2.2.1 x163.toNat x164) x165.toNat (45 : Int)) 42 (0 : Int), Vec.getD 65 (Vec.set 65 (Vec.set 65 s157.2.2.1 x163.toNat x164) x165.toNat (45 : Int)) 43 (0 : Int), Vec.getD 65 (Vec.set 65 (Vec.set 65 s157.2.2.1 x163.toNat x164) x165.toNat (45 : Int)) 44 (0 : Int), Vec.getD 65 (Vec.set 65 (Vec.set 65 s157.2.2.1 x163.toNat x164) x165.toNat (45 : Int)) 45 (0 : Int), Vec.getD 65 (Vec.set 65 (Vec.set 65 s157.2.2.1 x163.toNat x164) x165.toNat (45 : Int)) 46 (0 : Int), Vec.getD 65 (Vec.set 65 (Vec.set 65 s157.2.2.1 x163.toNat x164) x165.toNat (45 : Int)) 47 (0 : Int), Vec.getD 65 (Vec.set 65 (Vec.set 65 s157.2.2.1 x163.toNat x164) x165.toNat (45 : Int)) 48 (0 : Int), Vec.getD 65 (Vec.set 65 (Vec.set 65 s157.2.2.1 x163.toNat x164) x165.toNat (45 : Int)) 49 (0 : Int), Vec.getD 65 (Vec.set 65 (Vec.set 65 s157.2.2.1 x163.toNat x164) x165.toNat (45 : Int)) 50 (0 : Int), Vec.getD 65 (Vec.set 65 (Vec.set 65 s157.2.2.1 x163.toNat x164) x165.toNat (45 : Int)) 51 (0 : Int), Vec.getD 65 (Vec.set 65 (Vec.set 65 s157.2.2.1 x163.toNat x164) x165.toNat (45 : Int)) 52 (0 : Int), Vec.getD 65 (Vec.set 65 (Vec.set 65 s157.2.2.1 x163.toNat x164) x165.toNat (45 : Int)) 53 (0 : Int), Vec.getD 65 (Vec.set 65 (Vec.set 65 s157.2.2.1 x163.toNat x164) x165.toNat (45 : Int)) 54 (0 : Int), Vec.getD 65 (Vec.set 65 (Vec.set 65 s157.2.2.1 x163.toNat x164) x165.toNat (45 : Int)) 55 (0 : Int), Vec.getD 65 (Vec.set 65 (Vec.set 65 s157.2.2.1 x163.toNat x164) x165.toNat (45 : Int)) 56 (0 : Int), Vec.getD 65 (Vec.set 65 (Vec.set 65 s157.2.2.1 x163.toNat x164) x165.toNat (45 : Int)) 57 (0 : Int), Vec.getD 65 (Vec.set 65 (Vec.set 65 s157.2.2.1 x163.toNat x164) x165.toNat (45 : Int)) 58 (0 : Int), Vec.getD 65 (Vec.set 65 (Vec.set 65 s157.2.2.1 x163.toNat x164) x165.toNat (45 : Int)) 59 (0 : Int), Vec.getD 65 (Vec.set 65 (Vec.set 65 s157.2.2.1 x163.toNat x164) x165.toNat (45 : Int)) 60 (0 : Int), Vec.getD 65 (Vec.set 65 (Vec.set 65 s157.2.2.1 x163.toNat x164) x165.toNat (45 : Int)) 61 (0 : Int), Vec.getD 65 (Vec.set 65 (Vec.set 65 s157.2.2.1 x163.toNat x164) x165.toNat (45 : Int)) 62 (0 : Int), Vec.getD 65 (Vec.set 65 (Vec.set 65 s157.2.2.1 x163.toNat x164) x165.toNat (45 : Int)) 63 (0 : Int), Vec.getD 65 (Vec.set 65 (Vec.set 65 s157.2.2.1 x163.toNat x164) x165.toNat (45 : Int)) 64 (0 : Int)] : (List Int))))), ()), ())
            else none
          else none
        else
        bif a4 then
          bif inS x163 ((65 : Nat) : Int) 65 then none else none
        else
        bif inS x163 ((65 : Nat) : Int) 65 then
          some ((([] : (List Int)), (ofBytes (List.take (65 - x163.toNat) (List.drop x163.toNat ([Vec.getD 65 (Vec.set 65 s157.2.2.1 x163.toNat x164) 0 (0 : Int), Vec.getD 65 (Vec.set 65 s157.2.2.1 x163.toNat x164) 1 (0 : Int), Vec.getD 65 (Vec.set 65 s157.2.2.1 x163.toNat x164) 2 (0 : Int), Vec.getD 65 (Vec.set 65 s157.2.2.1 x163.toNat x164) 3 (0 : Int), Vec.getD 65 (Vec.set 65 s157.2.2.1 x163.toNat x164) 4 (0 : Int), Vec.getD 65 (Vec.set 65 s157.2.2.1 x163.toNat x164) 5 (0 : Int), Vec.getD 65 (Vec.set 65 s157.2.2.1 x163.toNat x164) 6 (0 : Int), Vec.getD 65 (Vec.set 65 s157.2.2.1 x163.toNat x164) 7 (0 : Int), Vec.getD 65 (Vec.set 65 s157.2.2.1 x163.toNat x164) 8 (0 : Int), Vec.getD 65 (Vec.set 65 s157.2.2.1 x163.toNat x164) 9 (0 : Int), Vec.getD 65 (Vec.set 65 s157.2.2.1 x163.toNat x164) 10 (0 : Int), Vec.getD 65 (Vec.set 65 s157.2.2.1 x163.toNat x164) 11 (0 : Int), Vec.getD 65 (Vec.set 65 s157.2.2.1 x163.toNat x164) 12 (0 : Int), Vec.getD 65 (Vec.set 65 s157.2.2.1 x163.toNat x164) 13 (0 : Int), Vec.getD 65 (Vec.set 65 s157.2.2.1 x163.toNat x164) 14 (0 : Int), Vec.getD 65 (Vec.set 65 s157.2.2.1 x163.toNat x164) 15 (0 : Int), Vec.getD 65 (Vec.set 65 s157.2.2.1 x163.toNat x164) 16 (0 : Int), Vec.getD 65 (Vec.set 65 s157.2.2.1 x163.toNat x164) 17 (0 : Int), Vec.getD 65 (Vec.set 65 s157.2.2.1 x163.toNat x164) 18 (0 : Int), Vec.getD 65 (Vec.set 65 s157.2.2.1 x163.toNat x164) 19 (0 : Int), Vec.getD 65 (Vec.set 65 s157.2.2.1 x163.toNat x164) 20 (0 : Int), Vec.getD 65 (Vec.set 65 s157.2.2.1 x163.toNat x164) 21 (0 : Int), Vec.getD 65 (Vec.set 65 s157.2.2.1 x163.toNat x164) 22 (0 : Int), Vec.getD 65 (Vec.set 65 s157.2.2.1 x163.toNat x164) 23 (0 : Int), Vec.getD 65 (Vec.set 65 s157.2.2.1 x163.toNat x164) 24 (0 : Int), Vec.getD 65 (Vec.set 65 s157.2.2.1 x163.toNat x164) 25 (0 : Int), Vec.getD 65 (Vec.set 65 s157.2.2.1 x163.toNat x164) 26 (0 : Int), Vec.getD 65 (Vec.set 65 s157.2.2.1 x163.toNat x164) 27 (0 : Int), Vec.getD 65 (Vec.set 65 s157.2.2.1 x163.toNat x164) 28 (0 : Int), Vec.getD 65 (Vec.set 65 s157.2.2.1 x163.toNat x164) 29 (0 : Int), Vec.getD 65 (Vec.set 65 s157.2.2.1 x163.toNat x164) 30 (0 : Int), Vec.getD 65 (Vec.set 65 s157.2.2.1 x163.toNat x164) 31 (0 : Int), Vec.getD 65 (Vec.set 65 s157.2.2.1 x163.toNat x164) 32 (0 : Int), Vec.getD 65 (Vec.set 65 s157.2.2.1 x163.toNat x164) 33 (0 : Int), Vec.getD 65 (Vec.set 65 s157.2.2.1 x163.toNat x164) 34 (0 : Int), Vec.getD 65 (Vec.set 65 s157.2.2.1 x163.toNat x164) 35 (0 : Int), Vec.getD 65 (Vec.set 65 s157.2.2.1 x163.toNat x164) 36 (0 : Int), Vec.getD 65 (Vec.set 65 s157.2.2.1 x163.toNat x164) 37 (0 : Int), Vec.getD 65 (Vec.set 65 s157.2.2.1 x163.toNat x164) 38 (0 : Int), Vec.getD 65 (Vec.set 65 s157.2.2.1 x163.toNat x164) 39 (0 : Int), Vec.getD 65 (Vec.set 65 s157.2.2.1 x163.toNat x164) 40 (0 : Int), Vec.getD 65 (Vec.set 65 s157.2.2.1 x163.toNat x164) 41 (0 : Int), Vec.getD 65 (Vec.set 65 s157.2.2.1 x163.toNat x164) 42 (0 : Int), Vec.getD 65 (Vec.set 65 s157.2.2.1 x163.toNat x164) 43 (0 : Int), Vec.getD 65 (Vec.set 65 s157.2.2.1 x163.toNat x164) 44 (0 : Int), Vec.getD 65 (Vec.set 65 s157.2.2.1 x163.toNat x164) 45 (0 : Int), Vec.getD 65 (Vec.set 65 s157.2.2.1 x163.toNat x164) 46 (0 : Int), Vec.getD 65 (Vec.set 65 s157.2.2.1 x163.toNat x164) 47 (0 : Int), Vec.getD 65 (Vec.set 65 s157.2.2.1 x163.toNat x164) 48 (0 : Int), Vec.getD 65 (Vec.set 65 s157.2.2.1 x163.toNat x164) 49 (0 : Int), Vec.getD 65 (Vec.set 65 s157.2.2.1 x163.toNat x164) 50 (0 : Int), Vec.getD 65 (Vec.set 65 s157.2.2.1 x163.toNat x164) 51 (0 : Int), Vec.getD 65 (Vec.set 65 s157.2.2.1 x163.toNat x164) 52 (0 : Int), Vec.getD 65 (Vec.set 65 s157.2.2.1 x163.toNat x164) 53 (0 : Int), Vec.getD 65 (Vec.set 65 s157.2.2.1 x163.toNat x164) 54 (0 : Int), Vec.getD 65 (Vec.set 65 s157.2.2.1 x163.toNat x164) 55 (0 : Int), Vec.getD 65 (Vec.set 65 s157.2.2.1 x163.toNat x164) 56 (0 : Int), Vec.getD 65 (Vec.set 65 s157.2.2.1 x163.toNat x164) 57 (0 : Int), Vec.getD 65 (Vec.set 65 s157.2.2.1 x163.toNat x164) 58 (0 : Int), Vec.getD 65 (Vec.set 65 s157.2.2.1 x163.toNat x164) 59 (0 : Int), Vec.getD 65 (Vec.set 65 s157.2.2.1 x163.toNat x164) 60 (0 : Int), Vec.getD 65 (Vec.set 65 s157.2.2.1 x163.toNat x164) 61 (0 : Int), Vec.getD 65 (Vec.set 65 s157.2.2.1 x163.toNat x164) 62 (0 : Int), Vec.getD 65 (Vec.set 65 s157.2.2.1 x163.toNat x164) 63 (0 : Int), Vec.getD 65 (Vec.set 65 s157.2.2.1 x163.toNat x164) 64 (0 : Int)] : (List Int))))), ()), ())
        else none
      else none
    else none)
noncomputable def internal_strconv_formatBits_l18_2 (x168 : Int) (a3 : Bool) (a4 : Bool) (s176 : (Int × Int × (Vec 65 Int) × Unit)) : Option ((Int × Int × (Vec 65 Int) × Unit) ⊕ (((List Int) × List UInt8 × Unit) × Unit)) :=
  bif (iLe x168 s176.1) then
    let x178 := iSub .i64 s176.2.1 1
    bif iEq x168 0 then none else
    let x179 := iQuo .u64 s176.1 x168
    let x181 := iSub .u64 s176.1 (iMul .u64 x179 x168)
    bif inB x181 (List.length ([48, 49, 50, 51, 52, 53, 54, 55, 56, 57, 97, 98, 99, 100, 101, 102, 103, 104, 105, 106, 107, 108, 109, 110, 111, 112, 113, 114, 115, 116, 117, 118, 119, 120, 121, 122])) then
      bif inB x178 65 then some (Sum.inl (x179, x178, Vec.set 65 s176.2.2.1 x178.toNat (strAt ([48, 49, 50, 51, 52, 53, 54, 55, 56, 57, 97, 98, 99, 100, 101, 102, 103, 104, 105, 106, 107, 108, 109, 110, 111, 112, 113, 114, 115, 116, 117, 118, 119, 120, 121, 122]) x181), ())) else none
    else none
  else
  Option.map Sum.inr (
    let x183 := iSub .i64 s176.2.1 1
    bif inB s176.1 (List.length ([48, 49, 50, 51, 52, 53, 54, 55, 56, 57, 97, 98, 99, 100, 101, 102, 103, 104, 105, 106, 107, 108, 109, 110, 111, 112, 113, 114, 115, 116, 117, 118, 119, 120, 121, 122])) then
      let x184 := strAt ([48, 49, 50, 51, 52, 53, 54, 55, 56, 57, 97, 98, 99, 100, 101, 102, 103, 104, 105, 106, 107, 108, 109, 110, 111, 112, 113, 114, 115, 116, 117, 118, 119, 120, 121, 122]) s176.1
      bif inB x183 65 then
        bif a3 then
          let x185 := iSub .i64 x183 1
          bif inB x185 65 then
            bif a4 then
              bif inS x185 ((65 : Nat) : Int) 65 then none else none
            else
            bif inS x185 ((65 : Nat) : Int) 65 then
              some ((([] : (List Int)), (ofBytes (List.take (65 - x185.toNat) (List.drop x185.toNat ([Vec.getD 65 (Vec.set 65 (Vec.set 65 s176.2.2.1 x183.toNat x184) x185.toNat (45 : Int)) 0 (0 : Int), Vec.getD 65 (Vec.set 65 (Vec.set 65 s176.2.2.1 x183.toNat x184) x185.toNat (45 : Int)) 1 (0 : Int), Vec.getD 65 (Vec.set 65 (Vec.set 65 s176.2.2.1 x183.toNat x184) x185.toNat (45 : Int)) 2 (0 : Int), Vec.getD 65 (Vec.set 65 (Vec.set 65 s176.2.2.1 x183.toNat x184) x185.toNat (45 : Int)) 3 (0 : Int), Vec.getD 65 (Vec.set 65 (Vec.set 65 s176.2.2.1 x183.toNat x184) x185.toNat (45 : Int)) 4 (0 : Int), Vec.getD 65 (Vec.set 65 (Vec.set 65 s176.2.2.1 x183.toNat x184) x185.toNat (45 : Int)) 5 (0 : Int), Vec.getD 65 (Vec.set 65 (Vec.set 65 s176.2.2.1 x183.toNat x184) x185.toNat (45 : Int)) 6 (0 : Int), Vec.getD 65 (Vec.set 65 (Vec.set 65 s176.2.2.1 x183.toNat x184) x185.toNat (45 : Int)) 7 (0 : Int), Vec.getD 65 (Vec.set 65 (Vec.set 65 s176.2.2.1 x183.toNat x184) x185.toNat (45 : Int)) 8 (0 : Int), Vec.getD 65 (Vec.set 65 (Vec.set 65 s176.2.2.1 x183.toNat x184) x185.toNat (45 : Int)) 9 (0 : Int), Vec.getD 65 (Vec.set 65 (Vec.set 65 s176.2.2.1 x183.toNat x184) x185.toNat (45 : Int)) 10 (0 : Int), Vec.getD 65 (Vec.set 65 (Vec.set 65 s176.2.2.1 x183.toNat x184) x185.toNat (45 : Int)) 11 (0 : Int), Vec.getD 65 (Vec.set 65 (Vec.set 65 s176.2.2.1 x183.toNat x184) x185.toNat (45 : Int)) 12 (0 : Int), Vec.getD 65 (Vec.set 65 (Vec.set 65 s176.2.2.1 x183.toNat x184) x185.toNat (45 : Int)) 13 (0 : Int), Vec.getD 65 (Vec.set 65 (Vec.set 65 s176.2.2.1 x183.toNat x184) x185.toNat (45 : Int)) 14 (0 : Int), Vec.getD 65 (Vec.set 65 (Vec.set 65 s176.2.2.1 x183.toNat x184) x185.toNat (45 : Int)) 15 (0 : Int), Vec.getD 65 (Vec.set 65 (Vec.set 65 s176.2.2.1 x183.toNat x184) x185.toNat (45 : Int)) 16 (0 : Int), Vec.getD 65 (Vec.set 65 (Vec.set 65 s176.2.2.1 x183.toNat x184) x185.toNat (45 : Int)) 17 (0 : Int), Vec.getD 65 (Vec.set 65 (Vec.set 65 s176.2.2.1 x183.toNat x184) x185.toNat (45 : Int)) 18 (0 : Int), Vec.getD 65 (Vec.set 65 (Vec.set 65 s176.2.2.1 x183.toNat x184) x185.toNat (45 : Int)) 19 (0 : Int), Vec.getD 65 (Vec.set 65 (Vec.set 65 s176.2.2.1 x183.toNat x184) x185.toNat (45 : Int)) 20 (0 : Int), Vec.getD 65 (Vec.set 65 (Vec.set 65 s176.2.2.1 x183.toNat x184) x185.toNat (45 : Int)) 21 (0 : Int), Vec.getD 65 (Vec.set 65 (Vec.set 65 s176.2.2.1 x183.toNat x184) x185.toNat (45 : Int)) 22 (0 : Int), Vec.getD 65 (Vec.set 65 (Vec.set 65 s176.2.2.1 x183.toNat x184) x185.toNat (45 : Int)) 23 (0 : Int), Vec.getD 65 (Vec.set 65 (Vec.set 65 s176.2.2.1 x183.toNat x184) x185.toNat (45 : Int)) 24 (0 : Int), Vec.getD 65 (Vec.set 65 (Vec.set 65 s176.2.2.1 x183.toNat x184) x185.toNat (45 : Int)) 25 (0 : Int), Vec.getD 65 (Vec.set 65 (Vec.set 65 s176.2.2.1 x183.toNat x184) x185.toNat (45 : Int)) 26 (0 : Int), Vec.getD 65 (Vec.set 65 (Vec.set 65 s176.2.2.1 x183.toNat x184) x185.toNat (45 : Int)) 27 (0 : Int), Vec.getD 65 (Vec.set 65 (Vec.set 65 s176.2.2.1 x183.toNat x184) x185.toNat (45 : Int)) 28 (0 : Int), Vec.getD 65 (Vec.set 65 (Vec.set 65 s176.2.2.1 x183.toNat x184) x185.toNat (45 : Int)) 29 (0 : Int), Vec.getD 65 (Vec.set 65 (Vec.set 65 s176.2.2.1 x183.toNat x184) x185.toNat (45 : Int)) 30 (0 : Int), Vec.getD 65 (Vec.set 65 (Vec.set 65 s176.2.2.1 x183.toNat x184) x185.toNat (45 : Int)) 31 (0 : Int), Vec.getD 65 (Vec.set 65 (Vec.set 65 s176.2.2.1 x183.toNat x184) x185.toNat (45 : Int)) 32 (0 : Int), Vec.getD 65 (Vec.set 65 (Vec.set 65 s176.2.2.1 x183.toNat x184) x185.toNat (45 : Int)) 33 (0 : Int), Vec.getD 65 (Vec.set 65 (Vec.set 65 s176.2.2.1 x183.toNat x184) x185.toNat (45 : Int)) 34 (0 : Int), Vec.getD 65 (Vec.set 65 (Vec.set 65 s176.2.2.1 x183.toNat x184) x185.toNat (45 : Int)) 35 (0 : Int), Vec.getD 65 (Vec.set 65 (Vec.set 65 s176.2.2.1 x183.toNat x184) x185.toNat (45 : Int)) 36 (0 : Int), Vec.getD 65 (Vec.set 65 (Vec.set 65 s176.2.2.1 x183.toNat x184) x185.toNat (45 : Int)) 37 (0 : Int), Vec.getD 65 (Vec.set 65 (Vec.set 65 s176.2.2.1 x183.toNat x184) x185.toNat (45 : Int)) 38 (0 : Int), Vec.getD 65 (Vec.set 65 (Vec.set 65 s176.2.2.1 x183.toNat x184) x185.toNat (45 : Int)) 39 (0 : Int), Vec.getD 65 (Vec.set 65 (Vec.set 65 s176.2.2.1 x183.toNat x184) x185.toNat (45 : Int)) 40 (0 : Int), Vec.getD 65 (Vec.set 65 (Vec.set 65 s176.2.2.1 x183.toNat x184) x185.toNat (45 : Int)) 41 (0 : Int), Vec.getD 65 (Vec.set 65 (Vec.set 65 s176.2.2.1 x183.toNat x184) x185.toNat (45 : Int)) 42 (0 : Int), Vec.getD 65 (Vec.set 65 (Vec.set 65 s176.2.2.1 x183.toNat x184) x185.toNat (45 : Int)) 43 (0 : Int), Vec.getD 65 (Vec.set 65 (Vec.set 65 s176.2.2.1 x183.toNat x184) x185.toNat (45 : Int)) 44 (0 : Int), Vec.getD 65 (Vec.set 65 (Vec.set 65 s176.2.2.1 x183.toNat x184) x185.toNat (45 : Int)) 45 (0 : Int), Vec.getD 65 (Vec.set 65 (Vec.set 65 s176.2.2.1 x183.toNat x184) x185.toNat (45 : Int)) 46 (0 : Int), Vec.getD 65 (Vec.set 65 (Vec.set 65 s176.2.2.1 x183.toNat x184) x185.toNat (45 : Int)) 47 (0 : Int), Vec.getD 65 (Vec.set 65 (Vec.set 65 s176.2.2.1 x183.toNat x184) x185.toNat (45 : Int)) 48 (0 : Int), Vec.getD 65 (Vec.set 65 (Vec.set 65 s176.2.2.1 x183.toNat x184) x185.toNat (45 : Int)) 49 (0 : Int), Vec.getD 65 (Vec.set 65 (Vec.set 65 s176.2.2.1 x183.toNat x184) x185.toNat (45 : Int)) 50 (0 : Int), Vec.getD 65 (Vec.set 65 (Vec.set 65 s176.2.2.1 x183.toNat x184) x185.toNat (45 : Int)) 51 (0 : Int), Vec.getD 65 (Vec.set 65 (Vec.set 65 s176.2.2.1 x183.toNat x184) x185.toNat (45 : Int)) 52 (0 : Int), Vec.getD 65 (Vec.set 65 (Vec.set 65 s176.2.2.1 x183.toNat x184) x185.toNat (45 : Int)) 53 (0 : Int), Vec.getD 65 (Vec.set 65 (Vec.set 65 s176.2.2.1 x183.toNat x184) x185.toNat (45 : Int)) 54 (0 : Int), Vec.getD 65 (Vec.set 65 (Vec.set 65 s176.2.2.1 x183.toNat x184) x185.toNat (45 : Int)) 55 (0 : Int), Vec.getD 65 (Vec.set 65 (Vec.set 65 s176.2.2.1 x183.toNat x184) x185.toNat (45 : Int)) 56 (0 : Int), Vec.getD 65 (Vec.set 65 (Vec.set 65 s176.2.2.1 x183.toNat x184) x185.toNat (45 : Int)) 57 (0 : Int), Vec.getD 65 (Vec.set 65 (Vec.set 65 s176.2.2.1 x183.toNat x184) x185.toNat (45 : Int)) 58 (0 : Int), Vec.getD 65 (Vec.set 65 (Vec.set 65 s176.2.2.1 x183.toNat x184) x185.toNat (45 : Int)) 59 (0 : Int), Vec.getD 65 (Vec.set 65 (Vec.set 65 s176.2.2.1 x183.toNat x184) x185.toNat (45 : Int)) 60 (0 : Int), Vec.getD 65 (Vec.set 65 (Vec.set 65 s176.2.2.1 x183.toNat x184) x185.toNat (45 : Int)) 61 (0 : Int), Vec.getD 65 (Vec.set 65 (Vec.set 65 s176.2.2.1 x183.toNat x184) x185.toNat (45 : Int)) 62 (0 : Int), Vec.getD 65 (Vec.set 65 (Vec.set 65 s176.2.2.1 x183.toNat x184) x185.toNat (45 : Int)) 63 (0 : Int), Vec.getD 65 (Vec.set 65 (Vec.set 65 s176.2.2.1 x183.toNat x184) x185.toNat (45 : Int)) 64 (0 : Int)] : (List Int))))), ()), ())
            else none
          else none
        else
        bif a4 then
          bif inS x183 ((65 : Nat) : Int) 65 then none else none
        else
        bif inS x183 ((65 : Nat) : Int) 65 then
          some ((([] : (List Int)), (ofBytes (List.take (65 - x183.toNat) (List.drop x183.toNat ([Vec.getD 65 (Vec.set 65 s176.2.2.1 x183.toNat x184) 0 (0 : Int), Vec.getD 65 (Vec.set 65 s176.2.2.1 x183.toNat x184) 1 (0 : Int), Vec.getD 65 (Vec.set 65 s176.2.2.1 x183.toNat x184) 2 (0 : Int), Vec.getD 65 (Vec.set 65 s176.2.2.1 x183.toNat x184) 3 (0 : Int), Vec.getD 65 (Vec.set 65 s176.2.2.1 x183.toNat x184) 4 (0 : Int), Vec.getD 65 (Vec.set 65 s176.2.2.1 x183.toNat x184) 5 (0 : Int), Vec.getD 65 (Vec.set 65 s176.2.2.1 x183.toNat x184) 6 (0 : Int), Vec.getD 65 (Vec.set 65 s176.2.2.1 x183.toNat x184) 7 (0 : Int), Vec.getD 65 (Vec.set 65 s176.2.2.1 x183.toNat x184) 8 (0 : Int), Vec.getD 65 (Vec.set 65 s176.2.2.1 x183.toNat x184) 9 (0 : Int), Vec.getD 65 (Vec.set 65 s176.2.2.1 x183.toNat x184) 10 (0 : Int), Vec.getD 65 (Vec.set 65 s176.2.2.1 x183.toNat x184) 11 (0 : Int), Vec.getD 65 (Vec.set 65 s176.2.2.1 x183.toNat x184) 12 (0 : Int), Vec.getD 65 (Vec.set 65 s176.2.2.1 x183.toNat x184) 13 (0 : Int), Vec.getD 65 (Vec.set 65 s176.2.2.1 x183.toNat x184) 14 (0 : Int), Vec.getD 65 (Vec.set 65 s176.2.2.1 x183.toNat x184) 15 (0 : Int), Vec.getD 65 (Vec.set 65 s176.2.2.1 x183.toNat x184) 16 (0 : Int), Vec.getD 65 (Vec.set 65 s176.2.2.1 x183.toNat x184) 17 (0 : Int), Vec.getD 65 (Vec.set 65 s176.2.2.1 x183.toNat x184) 18 (0 : Int), Vec.getD 65 (Vec.set 65 s176.2.2.1 x183.toNat x184) 19 (0 : Int), Vec.getD 65 (Vec.set 65 s176.2.2.1 x183.toNat x184) 20 (0 : Int), Vec.getD 65 (Vec.set 65 s176.2.2.1 x183.toNat x184) 21 (0 : Int), Vec.getD 65 (Vec.set 65 s176.2.2.1 x183.toNat x184) 22 (0 : Int), Vec.getD 65 (Vec.set 65 s176.2.2.1 x183.toNat x184) 23 (0 : Int), Vec.getD 65 (Vec.set 65 s176.2.2.1 x183.toNat x184) 24 (0 : Int), Vec.getD 65 (Vec.set 65 s176.2.2.1 x183.toNat x184) 25 (0 : Int), Vec.getD 65 (Vec.set 65 s176.2.2.1 x183.toNat x184) 26 (0 : Int), Vec.getD 65 (Vec.set 65 s176.2.2.1 x183.toNat x184) 27 (0 : Int), Vec.getD 65 (Vec.set 65 s176.2.2.1 x183.toNat x184) 28 (0 : Int), Vec.getD 65 (Vec.set 65 s176.2.2.1 x183.toNat x184) 29 (0 : Int), Vec.getD 65 (Vec.set 65 s176.2.2.1 x183.toNat x184) 30 (0 : Int), Vec.getD 65 (Vec.set 65 s176.2.2.1 x183.toNat x184) 31 (0 : Int), Vec.getD 65 (Vec.set 65 s176.2.2.1 x183.toNat x184) 32 (0 : Int), Vec.getD 65 (Vec.set 65 s176.2.2.1 x183.toNat x184) 33 (0 : Int), Vec.getD 65 (Vec.set 65 s176.2.2.1 x183.toNat x184) 34 (0 : Int), Vec.getD 65 (Vec.set 65 s176.2.2.1 x183.toNat x184) 35 (0 : Int), Vec.getD 65 (Vec.set 65 s176.2.2.1 x183.toNat x184) 36 (0 : Int), Vec.getD 65 (Vec.set 65 s176.2.2.1 x183.toNat x184) 37 (0 : Int), Vec.getD 65 (Vec.set 65 s176.2.2.1 x183.toNat x184) 38 (0 : Int), Vec.getD 65 (Vec.set 65 s176.2.2.1 x183.toNat x184) 39 (0 : Int), Vec.getD 65 (Vec.set 65 s176.2.2.1 x183.toNat x184) 40 (0 : Int), Vec.getD 65 (Vec.set 65 s176.2.2.1 x183.toNat x184) 41 (0 : Int), Vec.getD 65 (Vec.set 65 s176.2.2.1 x183.toNat x184) 42 (0 : Int), Vec.getD 65 (Vec.set 65 s176.2.2.1 x183.toNat x184) 43 (0 : Int), Vec.getD 65 (Vec.set 65 s176.2.2.1 x183.toNat x184) 44 (0 : Int), Vec.getD 65 (Vec.set 65 s176.2.2.1 x183.toNat x184) 45 (0 : Int), Vec.getD 65 (Vec.set 65 s176.2.2.1 x183.toNat x184) 46 (0 : Int), Vec.getD 65 (Vec.set 65 s176.2.2.1 x183.toNat x184) 47 (0 : Int), Vec.getD 65 (Vec.set 65 s176.2.2.1 x183.toNat x184) 48 (0 : Int), Vec.getD 65 (Vec.set 65 s176.2.2.1 x183.toNat x184) 49 (0 : Int), Vec.getD 65 (Vec.set 65 s176.2.2.1 x183.toNat x184) 50 (0 : Int), Vec.getD 65 (Vec.set 65 s176.2.2.1 x183.toNat x184) 51 (0 : Int), Vec.getD 65 (Vec.set 65 s176.2.2.1 x183.toNat x184) 52 (0 : Int), Vec.getD 65 (Vec.set 65 s176.2.2.1 x183.toNat x184) 53 (0 : Int), Vec.getD 65 (Vec.set 65 s176.2.2.1 x183.toNat x184) 54 (0 : Int), Vec.getD 65 (Vec.set 65 s176.2.2.1 x183.toNat x184) 55 (0 : Int), Vec.getD 65 (Vec.set 65 s176.2.2.1 x183.toNat x184) 56 (0 : Int), Vec.getD 65 (Vec.set 65 s176.2.2.1 x183.toNat x184) 57 (0 : Int), Vec.getD 65 (Vec.set 65 s176.2.2.1 x183.toNat x184) 58 (0 : Int), Vec.getD 65 (Vec.set 65 s176.2.2.1 x183.toNat x184) 59 (0 : Int), Vec.getD 65 (Vec.set 65 s176.2.2.1 x183.toNat x184) 60 (0 : Int), Vec.getD 65 (Vec.set 65 s176.2.2.1 x183.toNat x184) 61 (0 : Int), Vec.getD 65 (Vec.set 65 s176.2.2.1 x183.toNat x184) 62 (0 : Int), Vec.getD 65 (Vec.set 65 s176.2.2.1 x183.toNat x184) 63 (0 : Int), Vec.getD 65 (Vec.set 65 s176.2.2.1 x183.toNat x184) 64 (0 : Int)] : (List Int))))), ()), ())
        else none
      else none
    else none)
noncomputable def internal_strconv_formatBits (a0 : (List Int)) (a1 : Int) (a2 : Int) (a3 : Bool) (a4 : Bool) : Option (((List Int) × List UInt8 × Unit) × Unit) :=
  bif (iLt a2 2) then none else
  bif (iEq a2 10) then none else
  bif (iLt 36 a2) then none else
  bif a3 then
    let x99 := iSub .u64 0 a1
    (internal_strconv_isPowerOfTwo a2).bind fun y100 =>
    bif y100.1.1 then
      (math_bits_TrailingZeros (iWrap .u64 a2)).bind fun y102 =>
      let x103 := iWrap .u64 y102.1.1
      let x104 := iWrap .u64 a2
      let x106 := iSub .u64 (iWrap .u64 a2) 1
      run (internal_strconv_formatBits_l11 x104 x106 x103 a3 a4) (x99, (65 : Int), ((0, 0, 0, 0, 0, 0, 0, 0, 0, 0, 0, 0, 0, 0, 0, 0, 0, 0, 0, 0, 0, 0, 0, 0, 0, 0, 0, 0, 0, 0, 0, 0, 0, 0, 0, 0, 0, 0, 0, 0, 0, 0, 0, 0, 0, 0, 0, 0, 0, 0, 0, 0, 0, 0, 0, 0, 0, 0, 0, 0, 0, 0, 0, 0, 0, ()) : (Vec 65 Int)), ())
    else
    let x124 := iWrap .u64 a2
    run (internal_strconv_formatBits_l18 x124 a3 a4) (x99, (65 : Int), ((0, 0, 0, 0, 0, 0, 0, 0, 0, 0, 0, 0, 0, 0, 0, 0, 0, 0, 0, 0, 0, 0, 0, 0, 0, 0, 0, 0, 0, 0, 0, 0, 0, 0, 0, 0, 0, 0, 0, 0, 0, 0, 0, 0, 0, 0, 0, 0, 0, 0, 0, 0, 0, 0, 0, 0, 0, 0, 0, 0, 0, 0, 0, 0, 0, ()) : (Vec 65 Int)), ())
  else
  (internal_strconv_isPowerOfTwo a2).bind fun y144 =>
  bif y144.1.1 then
    (math_bits_TrailingZeros (iWrap .u64 a2)).bind fun y146 =>
    let x147 := iWrap .u64 y146.1.1
    let x148 := iWrap .u64 a2
    let x150 := iSub .u64 (iWrap .u64 a2) 1
    run (internal_strconv_formatBits_l11_2 x148 x150 x147 a3 a4) (a1, (65 : Int), ((0, 0, 0, 0, 0, 0, 0, 0, 0, 0, 0, 0, 0, 0, 0, 0, 0, 0, 0, 0, 0, 0, 0, 0, 0, 0, 0, 0, 0, 0, 0, 0, 0, 0, 0, 0, 0, 0, 0, 0, 0, 0, 0, 0, 0, 0, 0, 0, 0, 0, 0, 0, 0, 0, 0, 0, 0, 0, 0, 0, 0, 0, 0, 0, 0, ()) : (Vec 65 Int)), ())
  else
  let x168 := iWrap .u64 a2
  run (internal_strconv_formatBits_l18_2 x168 a3 a4) (a1, (65 : Int), ((0, 0, 0, 0, 0, 0, 0, 0, 0, 0, 0, 0, 0, 0, 0, 0, 0, 0, 0, 0, 0, 0, 0, 0, 0, 0, 0, 0, 0, 0, 0, 0, 0, 0, 0, 0, 0, 0, 0, 0, 0, 0, 0, 0, 0, 0, 0, 0, 0, 0, 0, 0, 0, 0, 0, 0, 0, 0, 0, 0, 0, 0, 0, 0, 0, ()) : (Vec 65 Int)), ())
noncomputable def internal_strconv_formatBits_en : Entry := ⟨⟨[.v (.list (.int .u8)), .v (.int .u64), .v (.int .i64), .v (.bool), .v (.bool)], [.v (.rows (.int .u8)), .v (.val (.str))], false⟩, fun x => internal_strconv_formatBits x.1 x.2.1 x.2.2.1 x.2.2.2.1 x.2.2.2.2.1⟩
theorem internal_strconv_formatBits_so (db : GDeb Tryd.prog G) : Sound Tryd.prog G 72 internal_strconv_formatBits_en := so_of (envS (l := [(77, internal_strconv_isPowerOfTwo_en), (78, math_bits_TrailingZeros_en)]) ⟨(internal_strconv_isPowerOfTwo_so), (math_bits_TrailingZeros_so db), trivial⟩) [(11, .vary [(1, .sc (.int .u64)), (13, .sc (.int .i64)), (12, .box (.val (.arr 65 (.int .u8))))]), (18, .vary [(1, .sc (.int .u64)), (13, .sc (.int .i64)), (12, .box (.val (.arr 65 (.int .u8))))])] Tryd.func72 (by kernel_rfl) rfl fun _ => by kernel_rfl

-- internal/strconv.FormatUint
noncomputable def internal_strconv_FormatUint (a0 : Int) (a1 : Int) : Option ((List UInt8 × Unit) × Unit) :=
  bif (iEq a1 10) then
    bif (iLt a0 100) then
      none
    else none
  else
  (internal_strconv_formatBits ([] : (List Int)) a0 a1 false false).bind fun y95 =>
  some ((y95.1.2.1, ()), ())
noncomputable def internal_strconv_FormatUint_en : Entry := ⟨⟨[.v (.int .u64), .v (.int .i64)], [.v (.val (.str))], false⟩, fun x => internal_strconv_FormatUint x.1 x.2.1⟩
theorem internal_strconv_FormatUint_so (db : GDeb Tryd.prog G) : Sound Tryd.prog G 63 internal_strconv_FormatUint_en := so_of (envS (l := [(72, internal_strconv_formatBits_en)]) ⟨(internal_strconv_formatBits_so db), trivial⟩) [] Tryd.func63 (by kernel_rfl) rfl fun _ => by kernel_rfl

-- strconv.FormatUint
noncomputable def strconv_FormatUint (a0 : Int) (a1 : Int) : Option ((List UInt8 × Unit) × Unit) :=
  (internal_strconv_FormatUint a0 a1).bind fun y91 =>
  some ((y91.1.1, ()), ())
noncomputable def strconv_FormatUint_en : Entry := ⟨⟨[.v (.int .u64), .v (.int .i64)], [.v (.val (.str))], false⟩, fun x => strconv_FormatUint x.1 x.2.1⟩
theorem strconv_FormatUint_so (db : GDeb Tryd.prog G) : Sound Tryd.prog G 40 strconv_FormatUint_en := so_of (envS (l := [(63, internal_strconv_FormatUint_en)]) ⟨(internal_strconv_FormatUint_so db), trivial⟩) [] Tryd.func40 (by kernel_rfl) rfl fun _ => by kernel_rfl

-- loop.example/g01204/impl.NumberText
noncomputable def impl_NumberText_l4 (s87 : (List UInt8 × Unit)) : Option ((List UInt8 × Unit) ⊕ ((List UInt8 × Unit) × Unit)) :=
  bif (iLt (lenI s87.1) 8) then
    bif strRoom ([48]) s87.1 then
      some (Sum.inl ((strCat ([48]) s87.1), ()))
    else none
  else
  Option.map Sum.inr (some ((s87.1, ()), ()))
noncomputable def impl_NumberText (a0 : Nat) : Option ((List UInt8 × Unit) × Unit) :=
  (impl_isNaN a0).bind fun y82 =>
  bif y82.1.1 then some ((([55, 102, 99, 48, 48, 48, 48, 48] : List UInt8), ()), ()) else
  allSame fun (q83 : Nat) =>
  (strconv_FormatUint (iWrap .u64 (bitsF .f32 a0 q83)) (16 : Int)).bind fun y86 =>
  run (impl_NumberText_l4) (y86.1.1, ())
noncomputable def impl_NumberText_en : Entry := ⟨⟨[.v (.flt .f32)], [.v (.val (.str))], false⟩, fun x => impl_NumberText x.1⟩
theorem impl_NumberText_so (db : GDeb Tryd.prog G) : Sound Tryd.prog G 21 impl_NumberText_en := so_of (envS (l := [(39, impl_isNaN_en), (40, strconv_FormatUint_en)]) ⟨(impl_isNaN_so), (strconv_FormatUint_so db), trivial⟩) [(4, .vary [(3, .sc (.str))])] Tryd.func21 (by kernel_rfl) rfl fun _ => by kernel_rfl

-- loop.example/g01204/impl.isFinite
noncomputable def impl_isFinite_l2 (a0 : (List Nat)) (s218 : (Int × Unit)) : Option ((Int × Unit) ⊕ ((Bool × Unit) × Unit)) :=
  bif (iLt s218.1 (lenI a0)) then
    bif inB s218.1 (List.length a0) then
      let x220 := List.getD a0 s218.1.toNat (0 : Nat)
      bif (! (fEq .f32 (fSub .f32 x220 x220) 0)) then
        Option.map Sum.inr (some ((false, ()), ()))
      else
      some (Sum.inl ((iAdd .i64 s218.1 1), ()))
    else none
  else
  Option.map Sum.inr (some ((true, ()), ()))
noncomputable def impl_isFinite (a0 : (List Nat)) : Option ((Bool × Unit) × Unit) :=
  run (impl_isFinite_l2 a0) ((0 : Int), ())
noncomputable def impl_isFinite_en : Entry := ⟨⟨[.v (.list (.flt .f32))], [.v (.val (.bool))], false⟩, fun x => impl_isFinite x.1⟩
theorem impl_isFinite_so : Sound Tryd.prog G 59 impl_isFinite_en := so_of (envS (l := []) trivial) [(2, .vary [(7, .sc (.int .i64))])] Tryd.func59 (by kernel_rfl) rfl fun _ => by kernel_rfl

-- loop.example/g01204/impl.IsFiniteVec
noncomputable def impl_IsFiniteVec (a0 : (Vec 3 Nat)) : Option ((Bool × Unit) × Unit) :=
  (impl_isFinite ([Vec.getD 3 a0 0 (0 : Nat), Vec.getD 3 a0 1 (0 : Nat), Vec.getD 3 a0 2 (0 : Nat)] : (List Nat))).bind fun y217 =>
  some ((y217.1.1, ()), ())
noncomputable def impl_IsFiniteVec_en : Entry := ⟨⟨[.v (.arr 3 (.flt .f32))], [.v (.val (.bool))], false⟩, fun x => impl_IsFiniteVec x.1⟩
theorem impl_IsFiniteVec_so : Sound Tryd.prog G 54 impl_IsFiniteVec_en := so_of (envS (l := [(59, impl_isFinite_en)]) ⟨(impl_isFinite_so), trivial⟩) [] Tryd.func54 (by kernel_rfl) rfl fun _ => by kernel_rfl

-- loop.example/g01204/impl.SameNumber
noncomputable def impl_SameNumber (a0 : Nat) (a1 : Nat) : Option ((Bool × Unit) × Unit) :=
  (impl_isNaN a0).bind fun y229 =>
  bif y229.1.1 then
    (impl_isNaN a1).bind fun y230 =>
    bif y230.1.1 then some ((true, ()), ()) else
    allSame fun (q231 : Nat) =>
    allSame fun (q233 : Nat) =>
    some (((iEq (bitsF .f32 a0 q231) (bitsF .f32 a1 q233)), ()), ())
  else
  allSame fun (q236 : Nat) =>
  allSame fun (q238 : Nat) =>
  some (((iEq (bitsF .f32 a0 q236) (bitsF .f32 a1 q238)), ()), ())
noncomputable def impl_SameNumber_en : Entry := ⟨⟨[.v (.flt .f32), .v (.flt .f32)], [.v (.val (.bool))], false⟩, fun x => impl_SameNumber x.1 x.2.1⟩
theorem impl_SameNumber_so : Sound Tryd.prog G 68 impl_SameNumber_en := so_of (envS (l := [(39, impl_isNaN_en)]) ⟨(impl_isNaN_so), trivial⟩) [] Tryd.func68 (by kernel_rfl) rfl fun _ => by kernel_rfl

-- loop.example/g01204/impl.SameVec
noncomputable def impl_SameVec (a0 : (Vec 3 Nat)) (a1 : (Vec 3 Nat)) : Option ((Bool × Unit) × Unit) :=
  (impl_SameNumber (Vec.getD 3 a0 0 (0 : Nat)) (Vec.getD 3 a1 0 (0 : Nat))).bind fun y243 =>
  bif (! y243.1.1) then some ((false, ()), ()) else
  (impl_SameNumber (Vec.getD 3 a0 1 (0 : Nat)) (Vec.getD 3 a1 1 (0 : Nat))).bind fun y247 =>
  bif (! y247.1.1) then some ((false, ()), ()) else
  (impl_SameNumber (Vec.getD 3 a0 2 (0 : Nat)) (Vec.getD 3 a1 2 (0 : Nat))).bind fun y251 =>
  bif (! y251.1.1) then some ((false, ()), ()) else some ((true, ()), ())
noncomputable def impl_SameVec_en : Entry := ⟨⟨[.v (.arr 3 (.flt .f32)), .v (.arr 3 (.flt .f32))], [.v (.val (.bool))], false⟩, fun x => impl_SameVec x.1 x.2.1⟩
theorem impl_SameVec_so : Sound Tryd.prog G 67 impl_SameVec_en := so_of (envS (l := [(68, impl_SameNumber_en)]) ⟨(impl_SameNumber_so), trivial⟩) [(2, .unroll 4)] Tryd.func67 (by kernel_rfl) rfl fun _ => by kernel_rfl

-- loop.example/g01204/impl.sameEntry
noncomputable def impl_sameEntry (a0 : (Int × ((Vec 3 Nat) × ((Vec 3 Int) × (Int × (Nat × Unit)))))) (a1 : (Int × ((Vec 3 Nat) × ((Vec 3 Int) × (Int × (Nat × Unit)))))) : Option ((Bool × Unit) × Unit) :=
  bif (iEq a0.1 a1.1) then
    (impl_SameVec a0.2.1 a1.2.1).bind fun y225 =>
    bif y225.1.1 then
      bif (iEq (Vec.getD 3 a0.2.2.1 0 (0 : Int)) (Vec.getD 3 a1.2.2.1 0 (0 : Int)) && (iEq (Vec.getD 3 a0.2.2.1 1 (0 : Int)) (Vec.getD 3 a1.2.2.1 1 (0 : Int)) && (iEq (Vec.getD 3 a0.2.2.1 2 (0 : Int)) (Vec.getD 3 a1.2.2.1 2 (0 : Int)) && true))) then
        bif (iEq a0.2.2.2.1 a1.2.2.2.1) then
          (impl_SameNumber a0.2.2.2.2.1 a1.2.2.2.2.1).bind fun y228 =>
          some ((y228.1.1, ()), ())
        else some ((false, ()), ())
      else some ((false, ()), ())
    else some ((false, ()), ())
  else some ((false, ()), ())
noncomputable def impl_sameEntry_en : Entry := ⟨⟨[.v (.pair (.int .i64) (.pair (.arr 3 (.flt .f32)) (.pair (.arr 3 (.int .i16)) (.pair (.int .i64) (.pair (.flt .f32) (.unit)))))), .v (.pair (.int .i64) (.pair (.arr 3 (.flt .f32)) (.pair (.arr 3 (.int .i16)) (.pair (.int .i64) (.pair (.flt .f32) (.unit))))))], [.v (.val (.bool))], false⟩, fun x => impl_sameEntry x.1 x.2.1⟩
theorem impl_sameEntry_so : Sound Tryd.prog G 58 impl_sameEntry_en := so_of (envS (l := [(67, impl_SameVec_en), (68, impl_SameNumber_en)]) ⟨(impl_SameVec_so), (impl_SameNumber_so), trivial⟩) [] Tryd.func58 (by kernel_rfl) rfl fun _ => by kernel_rfl

-- loop.example/g01204/impl.within
noncomputable def impl_within (a0 : Int) (a1 : Int) (a2 : Int) : Option ((Bool × Unit) × Unit) :=
  bif (iLe a1 a0) then
    some (((iLe a0 a2), ()), ())
  else some ((false, ()), ())
noncomputable def impl_within_en : Entry := ⟨⟨[.v (.int .i64), .v (.int .i64), .v (.int .i64)], [.v (.val (.bool))], false⟩, fun x => impl_within x.1 x.2.1 x.2.2.1⟩
theorem impl_within_so : Sound Tryd.prog G 53 impl_within_en := so_of (envS (l := []) trivial) [] Tryd.func53 (by kernel_rfl) rfl fun _ => by kernel_rfl

-- loop.example/g01204/impl.validEntry
noncomputable def impl_validEntry (a0 : (Int × ((Vec 3 Nat) × ((Vec 3 Int) × (Int × (Nat × Unit)))))) (a1 : Int) : Option ((Bool × Unit) × Unit) :=
  bif (iEq a0.1 1) then
    (impl_sameEntry a0 ((a0.1, (0, 0, 0, ()), (0, 0, 0, ()), 0, 0, ()) : (Int × ((Vec 3 Nat) × ((Vec 3 Int) × (Int × (Nat × Unit))))))).bind fun y199 =>
    bif y199.1.1 then
      (impl_IsFiniteVec a0.2.1).bind fun y200 =>
      bif y200.1.1 then
        (impl_isFinite ([a0.2.2.2.2.1] : (List Nat))).bind fun y201 =>
        some ((y201.1.1, ()), ())
      else some ((false, ()), ())
    else some ((false, ()), ())
  else
  bif (iEq a0.1 2) then
    (impl_sameEntry a0 ((a0.1, a0.2.1, (0, 0, 0, ()), 0, 0, ()) : (Int × ((Vec 3 Nat) × ((Vec 3 Int) × (Int × (Nat × Unit))))))).bind fun y203 =>
    bif y203.1.1 then
      (impl_IsFiniteVec a0.2.1).bind fun y204 =>
      bif y204.1.1 then
        (impl_isFinite ([a0.2.2.2.2.1] : (List Nat))).bind fun y205 =>
        some ((y205.1.1, ()), ())
      else some ((false, ()), ())
    else some ((false, ()), ())
  else
  bif (iEq a0.1 3) then
    (impl_sameEntry a0 ((a0.1, (0, 0, 0, ()), a0.2.2.1, 0, 0, ()) : (Int × ((Vec 3 Nat) × ((Vec 3 Int) × (Int × (Nat × Unit))))))).bind fun y207 =>
    bif y207.1.1 then
      (impl_IsFiniteVec a0.2.1).bind fun y208 =>
      bif y208.1.1 then
        (impl_isFinite ([a0.2.2.2.2.1] : (List Nat))).bind fun y209 =>
        some ((y209.1.1, ()), ())
      else some ((false, ()), ())
    else some ((false, ()), ())
  else
  bif (iEq a0.1 4) then
    (impl_within a0.2.2.2.1 (0 : Int) (iSub .i64 a1 1)).bind fun y212 =>
    bif (! y212.1.1) then some ((false, ()), ()) else
    (impl_sameEntry a0 ((a0.1, (0, 0, 0, ()), (0, 0, 0, ()), a0.2.2.2.1, a0.2.2.2.2.1, ()) : (Int × ((Vec 3 Nat) × ((Vec 3 Int) × (Int × (Nat × Unit))))))).bind fun y214 =>
    bif y214.1.1 then
      (impl_IsFiniteVec a0.2.1).bind fun y215 =>
      bif y215.1.1 then
        (impl_isFinite ([a0.2.2.2.2.1] : (List Nat))).bind fun y216 =>
        some ((y216.1.1, ()), ())
      else some ((false, ()), ())
    else some ((false, ()), ())
  else some ((false, ()), ())
noncomputable def impl_validEntry_en : Entry := ⟨⟨[.v (.pair (.int .i64) (.pair (.arr 3 (.flt .f32)) (.pair (.arr 3 (.int .i16)) (.pair (.int .i64) (.pair (.flt .f32) (.unit)))))), .v (.int .i64)], [.v (.val (.bool))], false⟩, fun x => impl_validEntry x.1 x.2.1⟩
theorem impl_validEntry_so : Sound Tryd.prog G 35 impl_validEntry_en := so_of (envS (l := [(53, impl_within_en), (54, impl_IsFiniteVec_en), (58, impl_sameEntry_en), (59, impl_isFinite_en)]) ⟨(impl_within_so), (impl_IsFiniteVec_so), (impl_sameEntry_so), (impl_isFinite_so), trivial⟩) [] Tryd.func35 (by kernel_rfl) rfl fun _ => by kernel_rfl

-- loop.example/g01204/impl.ValidLog$1
noncomputable def impl_ValidLog_1 (a0 : (Int × ((Vec 3 Nat) × ((Vec 3 Int) × (Int × (Nat × Unit)))))) (a1 : (Int × ((Vec 3 Nat) × ((List (Vec 3 Nat)) × ((List (Int × ((Vec 3 Nat) × ((Vec 3 Int) × (Int × (Nat × Unit)))))) × Unit))))) : Option ((Bool × Unit) × Unit) :=
  (impl_validEntry a0 (lenI a1.2.2.1)).bind fun y196 =>
  some (((! y196.1.1), ()), ())
noncomputable def impl_ValidLog_1_en : Entry := ⟨⟨[.v (.pair (.int .i64) (.pair (.arr 3 (.flt .f32)) (.pair (.arr 3 (.int .i16)) (.pair (.int .i64) (.pair (.flt .f32) (.unit)))))), .ro (.pair (.int .i64) (.pair (.arr 3 (.flt .f32)) (.pair (.list (.arr 3 (.flt .f32))) (.pair (.list (.pair (.int .i64) (.pair (.arr 3 (.flt .f32)) (.pair (.arr 3 (.int .i16)) (.pair (.int .i64) (.pair (.flt .f32) (.unit))))))) (.unit)))))], [.v (.val (.bool))], false⟩, fun x => impl_ValidLog_1 x.1 x.2.1⟩
theorem impl_ValidLog_1_so : Sound Tryd.prog G 34 impl_ValidLog_1_en := so_of (envS (l := [(35, impl_validEntry_en)]) ⟨(impl_validEntry_so), trivial⟩) [] Tryd.func34 (by kernel_rfl) rfl fun _ => by kernel_rfl

-- loop.example/g01204/impl.validFrame$1
noncomputable def impl_validFrame_1 (a0 : (Vec 3 Nat)) : Option ((Bool × Unit) × Unit) :=
  (impl_IsFiniteVec a0).bind fun y261 =>
  some (((! y261.1.1), ()), ())
noncomputable def impl_validFrame_1_en : Entry := ⟨⟨[.v (.arr 3 (.flt .f32))], [.v (.val (.bool))], false⟩, fun x => impl_validFrame_1 x.1⟩
theorem impl_validFrame_1_so : Sound Tryd.prog G 56 impl_validFrame_1_en := so_of (envS (l := [(54, impl_IsFiniteVec_en)]) ⟨(impl_IsFiniteVec_so), trivial⟩) [] Tryd.func56 (by kernel_rfl) rfl fun _ => by kernel_rfl

-- slices.IndexFunc[[]loop.example/g01204/impl.Vec,loop.example/g01204/impl.Vec]
noncomputable def slices_IndexFunc_impl_Vec_l2 (a0 : (List (Vec 3 Nat))) (a1 : (((Vec 3 Nat) × Unit) → Option Bool)) (s265 : (Int × Unit)) : Option ((Int × Unit) ⊕ ((Int × Unit) × Unit)) :=
  bif (iLt s265.1 (lenI a0)) then
    bif inB s265.1 (List.length a0) then
      (a1 ((List.getD a0 s265.1.toNat ((0, 0, 0, ()) : (Vec 3 Nat))), ())).bind fun y268 =>
      bif y268 then
        Option.map Sum.inr (some ((s265.1, ()), ()))
      else
      some (Sum.inl ((iAdd .i64 s265.1 1), ()))
    else none
  else
  Option.map Sum.inr (some ((((-1 : Int) : Int), ()), ()))
noncomputable def slices_IndexFunc_impl_Vec (a0 : (List (Vec 3 Nat))) (a1 : (((Vec 3 Nat) × Unit) → Option Bool)) : Option ((Int × Unit) × Unit) :=
  run (slices_IndexFunc_impl_Vec_l2 a0 a1) ((0 : Int), ())
noncomputable def slices_IndexFunc_impl_Vec_en : Entry := ⟨⟨[.v (.list (.arr 3 (.flt .f32))), .fn ⟨[.arr 3 (.flt .f32)], .bool⟩], [.v (.val (.int .i64))], false⟩, fun x => slices_IndexFunc_impl_Vec x.1 x.2.1⟩
theorem slices_IndexFunc_impl_Vec_so : Sound Tryd.prog G 66 slices_IndexFunc_impl_Vec_en := so_of (envS (l := []) trivial) [(2, .vary [(8, .sc (.int .i64))])] Tryd.func66 (by kernel_rfl) rfl fun _ => by kernel_rfl

-- slices.ContainsFunc[[]loop.example/g01204/impl.Vec,loop.example/g01204/impl.Vec]
noncomputable def slices_ContainsFunc_impl_Vec (a0 : (List (Vec 3 Nat))) (a1 : (((Vec 3 Nat) × Unit) → Option Bool)) : Option ((Bool × Unit) × Unit) :=
  (slices_IndexFunc_impl_Vec a0 a1).bind fun y263 =>
  some (((iLe 0 y263.1.1), ()), ())
noncomputable def slices_ContainsFunc_impl_Vec_en : Entry := ⟨⟨[.v (.list (.arr 3 (.flt .f32))), .fn ⟨[.arr 3 (.flt .f32)], .bool⟩], [.v (.val (.bool))], false⟩, fun x => slices_ContainsFunc_impl_Vec x.1 x.2.1⟩
theorem slices_ContainsFunc_impl_Vec_so : Sound Tryd.prog G 55 slices_ContainsFunc_impl_Vec_en := so_of (envS (l := [(66, slices_IndexFunc_impl_Vec_en)]) ⟨(slices_IndexFunc_impl_Vec_so), trivial⟩) [] Tryd.func55 (by kernel_rfl) rfl fun _ => by kernel_rfl

-- loop.example/g01204/impl.validFrame
noncomputable def impl_validFrame (a0 : Int) (a1 : (Vec 3 Nat)) (a2 : (List (Vec 3 Nat))) : Option ((Bool × Unit) × Unit) :=
  (impl_within a0 (1 : Int) (64 : Int)).bind fun y255 =>
  bif y255.1.1 then
    (impl_IsFiniteVec a1).bind fun y256 =>
    bif y256.1.1 then
      bif (iLe (lenI a2) 6) then
        (slices_ContainsFunc_impl_Vec a2 (fun (z258 : ((Vec 3 Nat) × Unit)) => (impl_validFrame_1 z258.1).map fun y => y.1.1)).bind fun y259 =>
        some (((! y259.1.1), ()), ())
      else some ((false, ()), ())
    else some ((false, ()), ())
  else some ((false, ()), ())
noncomputable def impl_validFrame_en : Entry := ⟨⟨[.v (.int .i64), .v (.arr 3 (.flt .f32)), .v (.list (.arr 3 (.flt .f32)))], [.v (.val (.bool))], false⟩, fun x => impl_validFrame x.1 x.2.1 x.2.2.1⟩
theorem impl_validFrame_so : Sound Tryd.prog G 32 impl_validFrame_en := so_of (envS (l := [(53, impl_within_en), (54, impl_IsFiniteVec_en), (55, slices_ContainsFunc_impl_Vec_en), (56, impl_validFrame_1_en)]) ⟨(impl_within_so), (impl_IsFiniteVec_so), (slices_ContainsFunc_impl_Vec_so), (impl_validFrame_1_so), trivial⟩) [] Tryd.func32 (by kernel_rfl) rfl fun _ => by kernel_rfl

-- slices.IndexFunc[[]loop.example/g01204/impl.Entry,loop.example/g01204/impl.Entry]
noncomputable def slices_IndexFunc_impl_Entry_l2 (a0 : (List (Int × ((Vec 3 Nat) × ((Vec 3 Int) × (Int × (Nat × Unit))))))) (a1 : (((Int × ((Vec 3 Nat) × ((Vec 3 Int) × (Int × (Nat × Unit))))) × Unit) → Option Bool)) (s272 : (Int × Unit)) : Option ((Int × Unit) ⊕ ((Int × Unit) × Unit)) :=
  bif (iLt s272.1 (lenI a0)) then
    bif inB s272.1 (List.length a0) then
      (a1 ((List.getD a0 s272.1.toNat ((0, (0, 0, 0, ()), (0, 0, 0, ()), 0, 0, ()) : (Int × ((Vec 3 Nat) × ((Vec 3 Int) × (Int × (Nat × Unit))))))), ())).bind fun y275 =>
      bif y275 then
        Option.map Sum.inr (some ((s272.1, ()), ()))
      else
      some (Sum.inl ((iAdd .i64 s272.1 1), ()))
    else none
  else
  Option.map Sum.inr (some ((((-1 : Int) : Int), ()), ()))
noncomputable def slices_IndexFunc_impl_Entry (a0 : (List (Int × ((Vec 3 Nat) × ((Vec 3 Int) × (Int × (Nat × Unit))))))) (a1 : (((Int × ((Vec 3 Nat) × ((Vec 3 Int) × (Int × (Nat × Unit))))) × Unit) → Option Bool)) : Option ((Int × Unit) × Unit) :=
  run (slices_IndexFunc_impl_Entry_l2 a0 a1) ((0 : Int), ())
noncomputable def slices_IndexFunc_impl_Entry_en : Entry := ⟨⟨[.v (.list (.pair (.int .i64) (.pair (.arr 3 (.flt .f32)) (.pair (.arr 3 (.int .i16)) (.pair (.int .i64) (.pair (.flt .f32) (.unit))))))), .fn ⟨[.pair (.int .i64) (.pair (.arr 3 (.flt .f32)) (.pair (.arr 3 (.int .i16)) (.pair (.int .i64) (.pair (.flt .f32) (.unit)))))], .bool⟩], [.v (.val (.int .i64))], false⟩, fun x => slices_IndexFunc_impl_Entry x.1 x.2.1⟩
theorem slices_IndexFunc_impl_Entry_so : Sound Tryd.prog G 57 slices_IndexFunc_impl_Entry_en := so_of (envS (l := []) trivial) [(2, .vary [(8, .sc (.int .i64))])] Tryd.func57 (by kernel_rfl) rfl fun _ => by kernel_rfl

-- slices.ContainsFunc[[]loop.example/g01204/impl.Entry,loop.example/g01204/impl.Entry]
noncomputable def slices_ContainsFunc_impl_Entry (a0 : (List (Int × ((Vec 3 Nat) × ((Vec 3 Int) × (Int × (Nat × Unit))))))) (a1 : (((Int × ((Vec 3 Nat) × ((Vec 3 Int) × (Int × (Nat × Unit))))) × Unit) → Option Bool)) : Option ((Bool × Unit) × Unit) :=
  (slices_IndexFunc_impl_Entry a0 a1).bind fun y270 =>
  some (((iLe 0 y270.1.1), ()), ())
noncomputable def slices_ContainsFunc_impl_Entry_en : Entry := ⟨⟨[.v (.list (.pair (.int .i64) (.pair (.arr 3 (.flt .f32)) (.pair (.arr 3 (.int .i16)) (.pair (.int .i64) (.pair (.flt .f32) (.unit))))))), .fn ⟨[.pair (.int .i64) (.pair (.arr 3 (.flt .f32)) (.pair (.arr 3 (.int .i16)) (.pair (.int .i64) (.pair (.flt .f32) (.unit)))))], .bool⟩], [.v (.val (.bool))], false⟩, fun x => slices_ContainsFunc_impl_Entry x.1 x.2.1⟩
theorem slices_ContainsFunc_impl_Entry_so : Sound Tryd.prog G 33 slices_ContainsFunc_impl_Entry_en := so_of (envS (l := [(57, slices_IndexFunc_impl_Entry_en)]) ⟨(slices_IndexFunc_impl_Entry_so), trivial⟩) [] Tryd.func33 (by kernel_rfl) rfl fun _ => by kernel_rfl

-- loop.example/g01204/impl.ValidLog
noncomputable def impl_ValidLog (a0 : (Int × ((Vec 3 Nat) × ((List (Vec 3 Nat)) × ((List (Int × ((Vec 3 Nat) × ((Vec 3 Int) × (Int × (Nat × Unit)))))) × Unit))))) : Option ((Bool × Unit) × Unit) :=
  (impl_validFrame a0.1 a0.2.1 a0.2.2.1).bind fun y191 =>
  bif y191.1.1 then
    bif (iLe (lenI a0.2.2.2.1) 1200) then
      (slices_ContainsFunc_impl_Entry a0.2.2.2.1 (fun (z193 : ((Int × ((Vec 3 Nat) × ((Vec 3 Int) × (Int × (Nat × Unit))))) × Unit)) => (impl_ValidLog_1 z193.1 a0).map fun y => y.1.1)).bind fun y194 =>
      some (((! y194.1.1), ()), ())
    else some ((false, ()), ())
  else some ((false, ()), ())
noncomputable def impl_ValidLog_en : Entry := ⟨⟨[.v (.pair (.int .i64) (.pair (.arr 3 (.flt .f32)) (.pair (.list (.arr 3 (.flt .f32))) (.pair (.list (.pair (.int .i64) (.pair (.arr 3 (.flt .f32)) (.pair (.arr 3 (.int .i16)) (.pair (.int .i64) (.pair (.flt .f32) (.unit))))))) (.unit)))))], [.v (.val (.bool))], false⟩, fun x => impl_ValidLog x.1⟩
theorem impl_ValidLog_so : Sound Tryd.prog G 16 impl_ValidLog_en := so_of (envS (l := [(32, impl_validFrame_en), (33, slices_ContainsFunc_impl_Entry_en), (34, impl_ValidLog_1_en)]) ⟨(impl_validFrame_so), (slices_ContainsFunc_impl_Entry_so), (impl_ValidLog_1_so), trivial⟩) [] Tryd.func16 (by kernel_rfl) rfl fun _ => by kernel_rfl

theorem strings_Join_so : Sound Tryd.prog G 62 strings_Join_en := join_sound Tryd.func62 (by kernel_rfl) (by kernel_rfl) Tryd.strings_Join_none Tryd.strings_Join

-- loop.example/g01204/impl.numbersText
noncomputable def impl_numbersText_l3 (a0 : (List Nat)) (s278 : ((List (List UInt8)) × Int × Unit)) : Option (((List (List UInt8)) × Int × Unit) ⊕ ((List UInt8 × Unit) × Unit)) :=
  bif (iLt s278.2.1 (lenI a0)) then
    bif inB s278.2.1 (List.length a0) then
      (impl_NumberText (List.getD a0 s278.2.1.toNat (0 : Nat))).bind fun y281 =>
      bif room (List.length s278.1 + 1) 16 then
        some (Sum.inl ((s278.1 ++ ([y281.1.1] : (List (List UInt8)))), (iAdd .i64 s278.2.1 1), ()))
      else none
    else none
  else
  Option.map Sum.inr (
    (strings_Join s278.1 ([32] : List UInt8)).bind fun y284 =>
    some ((y284.1.1, ()), ()))
noncomputable def impl_numbersText (a0 : (List Nat)) : Option ((List UInt8 × Unit) × Unit) :=
  run (impl_numbersText_l3 a0) (([] : (List (List UInt8))), (0 : Int), ())
noncomputable def impl_numbersText_en : Entry := ⟨⟨[.v (.list (.flt .f32))], [.v (.val (.str))], false⟩, fun x => impl_numbersText x.1⟩
theorem impl_numbersText_so (db : GDeb Tryd.prog G) : Sound Tryd.prog G 38 impl_numbersText_en := so_of (envS (l := [(21, impl_NumberText_en), (62, strings_Join_en)]) ⟨(impl_NumberText_so db), (strings_Join_so), trivial⟩) [(3, .vary [(3, .rows (.str)), (9, .sc (.int .i64))])] Tryd.func38 (by kernel_rfl) rfl fun _ => by kernel_rfl

-- loop.example/g01204/impl.VecText
noncomputable def impl_VecText (a0 : (Vec 3 Nat)) : Option ((List UInt8 × Unit) × Unit) :=
  (impl_numbersText ([Vec.getD 3 a0 0 (0 : Nat), Vec.getD 3 a0 1 (0 : Nat), Vec.getD 3 a0 2 (0 : Nat)] : (List Nat))).bind fun y277 =>
  some ((y277.1.1, ()), ())
noncomputable def impl_VecText_en : Entry := ⟨⟨[.v (.arr 3 (.flt .f32))], [.v (.val (.str))], false⟩, fun x => impl_VecText x.1⟩
theorem impl_VecText_so (db : GDeb Tryd.prog G) : Sound Tryd.prog G 19 impl_VecText_en := so_of (envS (l := [(38, impl_numbersText_en)]) ⟨(impl_numbersText_so db), trivial⟩) [] Tryd.func19 (by kernel_rfl) rfl fun _ => by kernel_rfl

theorem strconv_FormatInt_so (tb : GTab Tryd.prog G) : Sound Tryd.prog G 37 strconv_FormatInt_en := formatInt_sound Tryd.func37 (by kernel_rfl) (by kernel_rfl) tb Tryd.strconv_FormatInt_10

-- loop.example/g01204/impl.decimal[int16]
noncomputable def impl_decimal_int16 (a0 : Int) : Option ((List UInt8 × Unit) × Unit) :=
  (strconv_FormatInt (iWrap .i64 a0) (10 : Int)).bind fun y286 =>
  some ((y286.1.1, ()), ())
noncomputable def impl_decimal_int16_en : Entry := ⟨⟨[.v (.int .i16)], [.v (.val (.str))], false⟩, fun x => impl_decimal_int16 x.1⟩
theorem impl_decimal_int16_so (tb : GTab Tryd.prog G) : Sound Tryd.prog G 20 impl_decimal_int16_en := so_of (envS (l := [(37, strconv_FormatInt_en)]) ⟨(strconv_FormatInt_so tb), trivial⟩) [] Tryd.func20 (by kernel_rfl) rfl fun _ => by kernel_rfl

-- loop.example/g01204/impl.decimal[int64]
noncomputable def impl_decimal_int64 (a0 : Int) : Option ((List UInt8 × Unit) × Unit) :=
  (strconv_FormatInt a0 (10 : Int)).bind fun y287 =>
  some ((y287.1.1, ()), ())
noncomputable def impl_decimal_int64_en : Entry := ⟨⟨[.v (.int .i64)], [.v (.val (.str))], false⟩, fun x => impl_decimal_int64 x.1⟩
theorem impl_decimal_int64_so (tb : GTab Tryd.prog G) : Sound Tryd.prog G 18 impl_decimal_int64_en := so_of (envS (l := [(37, strconv_FormatInt_en)]) ⟨(strconv_FormatInt_so tb), trivial⟩) [] Tryd.func18 (by kernel_rfl) rfl fun _ => by kernel_rfl

-- loop.example/g01204/impl.LogText
noncomputable def impl_LogText_l11 (a0 : (Int × ((Vec 3 Nat) × ((List (Vec 3 Nat)) × ((List (Int × ((Vec 3 Nat) × ((Vec 3 Int) × (Int × (Nat × Unit)))))) × Unit))))) (s42 : (Int × (Unit × ((List Int) × Unit)) × Unit)) : Option ((Int × (Unit × ((List Int) × Unit)) × Unit) ⊕ ((List UInt8 × Unit) × Unit)) :=
  bif (iLt s42.1 (lenI a0.2.2.2.1)) then
    bif inB s42.1 (List.length a0.2.2.2.1) then
      let x44 := List.getD a0.2.2.2.1 s42.1.toNat ((0, (0, 0, 0, ()), (0, 0, 0, ()), 0, 0, ()) : (Int × ((Vec 3 Nat) × ((Vec 3 Int) × (Int × (Nat × Unit))))))
      bif (iEq x44.1 1) then
        (strings_Builder_WriteString ((s42.2.1.1, s42.2.1.2.1, s42.2.1.2.2) : (Unit × ((List Int) × Unit))) ([116, 105, 99, 107, 10] : List UInt8)).bind fun y46 =>
        some (Sum.inl ((iAdd .i64 s42.1 1), ((y46.2.1.1, y46.2.1.2.1, y46.2.1.2.2) : (Unit × ((List Int) × Unit))), ()))
      else
      bif (iEq x44.1 2) then
        (impl_VecText x44.2.1).bind fun y49 =>
        bif strRoom ([109, 111, 118, 101, 32]) y49.1.1 then
          let x50 := strCat ([109, 111, 118, 101, 32]) y49.1.1
          bif strRoom x50 ([10]) then
            (strings_Builder_WriteString ((s42.2.1.1, s42.2.1.2.1, s42.2.1.2.2) : (Unit × ((List Int) × Unit))) (strCat x50 ([10]))).bind fun y52 =>
            some (Sum.inl ((iAdd .i64 s42.1 1), ((y52.2.1.1, y52.2.1.2.1, y52.2.1.2.2) : (Unit × ((List Int) × Unit))), ()))
          else none
        else none
      else
      bif (iEq x44.1 3) then
        (impl_decimal_int16 (Vec.getD 3 x44.2.2.1 0 (0 : Int))).bind fun y56 =>
        bif strRoom ([102, 105, 120, 32]) y56.1.1 then
          let x57 := strCat ([102, 105, 120, 32]) y56.1.1
          bif strRoom x57 ([32]) then
            let x58 := strCat x57 ([32])
            (impl_decimal_int16 (Vec.getD 3 x44.2.2.1 1 (0 : Int))).bind fun y60 =>
            bif strRoom x58 y60.1.1 then
              let x61 := strCat x58 y60.1.1
              bif strRoom x61 ([32]) then
                let x62 := strCat x61 ([32])
                (impl_decimal_int16 (Vec.getD 3 x44.2.2.1 2 (0 : Int))).bind fun y64 =>
                bif strRoom x62 y64.1.1 then
                  let x65 := strCat x62 y64.1.1
                  bif strRoom x65 ([10]) then
                    (strings_Builder_WriteString ((s42.2.1.1, s42.2.1.2.1, s42.2.1.2.2) : (Unit × ((List Int) × Unit))) (strCat x65 ([10]))).bind fun y67 =>
                    some (Sum.inl ((iAdd .i64 s42.1 1), ((y67.2.1.1, y67.2.1.2.1, y67.2.1.2.2) : (Unit × ((List Int) × Unit))), ()))
                  else none
                else none
              else none
            else none
          else none
        else none
      else
      bif (iEq x44.1 4) then
        (impl_decimal_int64 x44.2.2.2.1).bind fun y70 =>
        bif strRoom ([114, 97, 110, 103, 101, 32]) y70.1.1 then
          let x71 := strCat ([114, 97, 110, 103, 101, 32]) y70.1.1
          bif strRoom x71 ([32]) then
            let x72 := strCat x71 ([32])
            (impl_NumberText x44.2.2.2.2.1).bind fun y73 =>
            bif strRoom x72 y73.1.1 then
              let x74 := strCat x72 y73.1.1
              bif strRoom x74 ([10]) then
                (strings_Builder_WriteString ((s42.2.1.1, s42.2.1.2.1, s42.2.1.2.2) : (Unit × ((List Int) × Unit))) (strCat x74 ([10]))).bind fun y76 =>
                some (Sum.inl ((iAdd .i64 s42.1 1), ((y76.2.1.1, y76.2.1.2.1, y76.2.1.2.2) : (Unit × ((List Int) × Unit))), ()))
              else none
            else none
          else none
        else none
      else
      some (Sum.inl ((iAdd .i64 s42.1 1), ((s42.2.1.1, s42.2.1.2.1, s42.2.1.2.2) : (Unit × ((List Int) × Unit))), ()))
    else none
  else
  Option.map Sum.inr (
    (bldStr ((s42.2.1.1, s42.2.1.2.1, s42.2.1.2.2) : (Unit × ((List Int) × Unit)))).bind fun y79 =>
    some ((y79, ()), ()))
noncomputable def impl_LogText_l6 (a0 : (Int × ((Vec 3 Nat) × ((List (Vec 3 Nat)) × ((List (Int × ((Vec 3 Nat) × ((Vec 3 Int) × (Int × (Nat × Unit)))))) × Unit))))) (s28 : (Int × (Unit × ((List Int) × Unit)) × Unit)) : Option ((Int × (Unit × ((List Int) × Unit)) × Unit) ⊕ ((List UInt8 × Unit) × Unit)) :=
  bif (iLt s28.1 (lenI a0.2.2.1)) then
    bif inB s28.1 (List.length a0.2.2.1) then
      (impl_VecText (List.getD a0.2.2.1 s28.1.toNat ((0, 0, 0, ()) : (Vec 3 Nat)))).bind fun y31 =>
      bif strRoom ([98, 101, 97, 99, 111, 110, 32]) y31.1.1 then
        let x32 := strCat ([98, 101, 97, 99, 111, 110, 32]) y31.1.1
        bif strRoom x32 ([10]) then
          (strings_Builder_WriteString ((s28.2.1.1, s28.2.1.2.1, s28.2.1.2.2) : (Unit × ((List Int) × Unit))) (strCat x32 ([10]))).bind fun y34 =>
          some (Sum.inl ((iAdd .i64 s28.1 1), ((y34.2.1.1, y34.2.1.2.1, y34.2.1.2.2) : (Unit × ((List Int) × Unit))), ()))
        else none
      else none
    else none
  else
  Option.map Sum.inr (run (impl_LogText_l11 a0) ((0 : Int), ((s28.2.1.1, s28.2.1.2.1, s28.2.1.2.2) : (Unit × ((List Int) × Unit))), ()))
noncomputable def impl_LogText (a0 : (Int × ((Vec 3 Nat) × ((List (Vec 3 Nat)) × ((List (Int × ((Vec 3 Nat) × ((Vec 3 Int) × (Int × (Nat × Unit)))))) × Unit))))) : Option ((List UInt8 × Unit) × Unit) :=
  (impl_ValidLog a0).bind fun y11 =>
  bif (! y11.1.1) then some ((([] : List UInt8), ()), ()) else
  (impl_decimal_int64 a0.1).bind fun y13 =>
  bif strRoom ([108, 111, 103, 32]) y13.1.1 then
    let x14 := strCat ([108, 111, 103, 32]) y13.1.1
    bif strRoom x14 ([32]) then
      let x15 := strCat x14 ([32])
      (impl_VecText a0.2.1).bind fun y16 =>
      bif strRoom x15 y16.1.1 then
        let x17 := strCat x15 y16.1.1
        bif strRoom x17 ([10]) then
          (strings_Builder_WriteString (((), [], ()) : (Unit × ((List Int) × Unit))) (strCat x17 ([10]))).bind fun y19 =>
          run (impl_LogText_l6 a0) ((0 : Int), ((y19.2.1.1, y19.2.1.2.1, y19.2.1.2.2) : (Unit × ((List Int) × Unit))), ())
        else none
      else none
    else none
  else none
noncomputable def impl_LogText_en : Entry := ⟨⟨[.v (.pair (.int .i64) (.pair (.arr 3 (.flt .f32)) (.pair (.list (.arr 3 (.flt .f32))) (.pair (.list (.pair (.int .i64) (.pair (.arr 3 (.flt .f32)) (.pair (.arr 3 (.int .i16)) (.pair (.int .i64) (.pair (.flt .f32) (.unit))))))) (.unit)))))], [.v (.val (.str))], false⟩, fun x => impl_LogText x.1⟩
theorem impl_LogText_so (tb : GTab Tryd.prog G) (db : GDeb Tryd.prog G) : Sound Tryd.prog G 7 impl_LogText_en := so_of (envS (l := [(16, impl_ValidLog_en), (17, strings_Builder_WriteString_en), (18, impl_decimal_int64_en), (19, impl_VecText_en), (20, impl_decimal_int16_en), (21, impl_NumberText_en)]) ⟨(impl_ValidLog_so), (strings_Builder_WriteString_so), (impl_decimal_int64_so tb), (impl_VecText_so db), (impl_decimal_int16_so tb), (impl_NumberText_so db), trivial⟩) [(6, .vary [(25, .sc (.int .i64)), (3, .box (.pair (.val (.ref 50)) (.pair (.rows (.int .u8)) (.val (.unit)))))]), (11, .vary [(38, .sc (.int .i64)), (3, .box (.pair (.val (.ref 50)) (.pair (.rows (.int .u8)) (.val (.unit)))))])] Tryd.func7 (by kernel_rfl) rfl fun _ => by kernel_rfl

-- loop.example/g01204/laws.eqCounts
noncomputable def laws_eqCounts (a0 : (Vec 3 Int)) (a1 : (Vec 3 Int)) : Option ((Bool × Unit) × Unit) :=
  bif (! (iEq (Vec.getD 3 a0 0 (0 : Int)) (Vec.getD 3 a1 0 (0 : Int)))) then some ((false, ()), ()) else
  bif (! (iEq (Vec.getD 3 a0 1 (0 : Int)) (Vec.getD 3 a1 1 (0 : Int)))) then some ((false, ()), ()) else
  bif (! (iEq (Vec.getD 3 a0 2 (0 : Int)) (Vec.getD 3 a1 2 (0 : Int)))) then some ((false, ()), ()) else some ((true, ()), ())
noncomputable def laws_eqCounts_en : Entry := ⟨⟨[.v (.arr 3 (.int .i16)), .v (.arr 3 (.int .i16))], [.v (.val (.bool))], false⟩, fun x => laws_eqCounts x.1 x.2.1⟩
theorem laws_eqCounts_so : Sound Tryd.prog G 64 laws_eqCounts_en := so_of (envS (l := []) trivial) [(2, .unroll 4)] Tryd.func64 (by kernel_rfl) rfl fun _ => by kernel_rfl

-- loop.example/g01204/laws.sameFloat
noncomputable def laws_sameFloat (a0 : Nat) (a1 : Nat) : Option ((Bool × Unit) × Unit) :=
  bif (! (fEq .f64 a0 a0)) then
    bif (! (fEq .f64 a0 a0)) then
      some (((! (fEq .f64 a1 a1)), ()), ())
    else some ((false, ()), ())
  else
  bif (! (fEq .f64 a1 a1)) then
    bif (! (fEq .f64 a0 a0)) then
      some (((! (fEq .f64 a1 a1)), ()), ())
    else some ((false, ()), ())
  else
  bif (fEq .f64 a0 0) then
    bif (fEq .f64 a1 0) then
      some (((bEq (fLt .f64 0 (fDiv .f64 4607182418800017408 a0)) (fLt .f64 0 (fDiv .f64 4607182418800017408 a1))), ()), ())
    else
    some (((fEq .f64 a0 a1), ()), ())
  else
  some (((fEq .f64 a0 a1), ()), ())
noncomputable def laws_sameFloat_en : Entry := ⟨⟨[.v (.flt .f64), .v (.flt .f64)], [.v (.val (.bool))], false⟩, fun x => laws_sameFloat x.1 x.2.1⟩
theorem laws_sameFloat_so : Sound Tryd.prog G 42 laws_sameFloat_en := so_of (envS (l := []) trivial) [] Tryd.func42 (by kernel_rfl) rfl fun _ => by kernel_rfl

-- loop.example/g01204/laws.eqVec
noncomputable def laws_eqVec (a0 : (Vec 3 Nat)) (a1 : (Vec 3 Nat)) : Option ((Bool × Unit) × Unit) :=
  (fConv .f32 .f64 (Vec.getD 3 a0 0 (0 : Nat))).bind fun y323 =>
  (fConv .f32 .f64 (Vec.getD 3 a1 0 (0 : Nat))).bind fun y325 =>
  (laws_sameFloat y323 y325).bind fun y326 =>
  bif (! y326.1.1) then some ((false, ()), ()) else
  (fConv .f32 .f64 (Vec.getD 3 a0 1 (0 : Nat))).bind fun y329 =>
  (fConv .f32 .f64 (Vec.getD 3 a1 1 (0 : Nat))).bind fun y331 =>
  (laws_sameFloat y329 y331).bind fun y332 =>
  bif (! y332.1.1) then some ((false, ()), ()) else
  (fConv .f32 .f64 (Vec.getD 3 a0 2 (0 : Nat))).bind fun y335 =>
  (fConv .f32 .f64 (Vec.getD 3 a1 2 (0 : Nat))).bind fun y337 =>
  (laws_sameFloat y335 y337).bind fun y338 =>
  bif (! y338.1.1) then some ((false, ()), ()) else some ((true, ()), ())
noncomputable def laws_eqVec_en : Entry := ⟨⟨[.v (.arr 3 (.flt .f32)), .v (.arr 3 (.flt .f32))], [.v (.val (.bool))], false⟩, fun x => laws_eqVec x.1 x.2.1⟩
theorem laws_eqVec_so : Sound Tryd.prog G 23 laws_eqVec_en := so_of (envS (l := [(42, laws_sameFloat_en)]) ⟨(laws_sameFloat_so), trivial⟩) [(2, .unroll 4)] Tryd.func23 (by kernel_rfl) rfl fun _ => by kernel_rfl

-- loop.example/g01204/laws.eqEntry
noncomputable def laws_eqEntry (a0 : (Int × ((Vec 3 Nat) × ((Vec 3 Int) × (Int × (Nat × Unit)))))) (a1 : (Int × ((Vec 3 Nat) × ((Vec 3 Int) × (Int × (Nat × Unit)))))) : Option ((Bool × Unit) × Unit) :=
  bif (! (iEq a0.1 a1.1)) then some ((false, ()), ()) else
  (laws_eqVec a0.2.1 a1.2.1).bind fun y304 =>
  bif (! y304.1.1) then some ((false, ()), ()) else
  (laws_eqCounts a0.2.2.1 a1.2.2.1).bind fun y306 =>
  bif (! y306.1.1) then some ((false, ()), ()) else
  bif (! (iEq a0.2.2.2.1 a1.2.2.2.1)) then some ((false, ()), ()) else
  (fConv .f32 .f64 a0.2.2.2.2.1).bind fun y309 =>
  (fConv .f32 .f64 a1.2.2.2.2.1).bind fun y310 =>
  (laws_sameFloat y309 y310).bind fun y311 =>
  bif (! y311.1.1) then some ((false, ()), ()) else some ((true, ()), ())
noncomputable def laws_eqEntry_en : Entry := ⟨⟨[.v (.pair (.int .i64) (.pair (.arr 3 (.flt .f32)) (.pair (.arr 3 (.int .i16)) (.pair (.int .i64) (.pair (.flt .f32) (.unit)))))), .v (.pair (.int .i64) (.pair (.arr 3 (.flt .f32)) (.pair (.arr 3 (.int .i16)) (.pair (.int .i64) (.pair (.flt .f32) (.unit))))))], [.v (.val (.bool))], false⟩, fun x => laws_eqEntry x.1 x.2.1⟩
theorem laws_eqEntry_so : Sound Tryd.prog G 43 laws_eqEntry_en := so_of (envS (l := [(23, laws_eqVec_en), (42, laws_sameFloat_en), (64, laws_eqCounts_en)]) ⟨(laws_eqVec_so), (laws_sameFloat_so), (laws_eqCounts_so), trivial⟩) [] Tryd.func43 (by kernel_rfl) rfl fun _ => by kernel_rfl

-- loop.example/g01204/laws.eqEntryS
noncomputable def laws_eqEntryS_l4 (a0 : (List (Int × ((Vec 3 Nat) × ((Vec 3 Int) × (Int × (Nat × Unit))))))) (a1 : (List (Int × ((Vec 3 Nat) × ((Vec 3 Int) × (Int × (Nat × Unit))))))) (s296 : (Int × Unit)) : Option ((Int × Unit) ⊕ ((Bool × Unit) × Unit)) :=
  bif (iLt s296.1 (lenI a0)) then
    bif inB s296.1 (List.length a0) then
      bif inB s296.1 (List.length a1) then
        (laws_eqEntry (List.getD a0 s296.1.toNat ((0, (0, 0, 0, ()), (0, 0, 0, ()), 0, 0, ()) : (Int × ((Vec 3 Nat) × ((Vec 3 Int) × (Int × (Nat × Unit))))))) (List.getD a1 s296.1.toNat ((0, (0, 0, 0, ()), (0, 0, 0, ()), 0, 0, ()) : (Int × ((Vec 3 Nat) × ((Vec 3 Int) × (Int × (Nat × Unit)))))))).bind fun y300 =>
        bif (! y300.1.1) then
          Option.map Sum.inr (some ((false, ()), ()))
        else
        some (Sum.inl ((iAdd .i64 s296.1 1), ()))
      else none
    else none
  else
  Option.map Sum.inr (some ((true, ()), ()))
noncomputable def laws_eqEntryS (a0 : (List (Int × ((Vec 3 Nat) × ((Vec 3 Int) × (Int × (Nat × Unit))))))) (a1 : (List (Int × ((Vec 3 Nat) × ((Vec 3 Int) × (Int × (Nat × Unit))))))) : Option ((Bool × Unit) × Unit) :=
  bif (! (iEq (lenI a0) (lenI a1))) then some ((false, ()), ()) else run (laws_eqEntryS_l4 a0 a1) ((0 : Int), ())
noncomputable def laws_eqEntryS_en : Entry := ⟨⟨[.v (.list (.pair (.int .i64) (.pair (.arr 3 (.flt .f32)) (.pair (.arr 3 (.int .i16)) (.pair (.int .i64) (.pair (.flt .f32) (.unit))))))), .v (.list (.pair (.int .i64) (.pair (.arr 3 (.flt .f32)) (.pair (.arr 3 (.int .i16)) (.pair (.int .i64) (.pair (.flt .f32) (.unit)))))))], [.v (.val (.bool))], false⟩, fun x => laws_eqEntryS x.1 x.2.1⟩
theorem laws_eqEntryS_so : Sound Tryd.prog G 25 laws_eqEntryS_en := so_of (envS (l := [(43, laws_eqEntry_en)]) ⟨(laws_eqEntry_so), trivial⟩) [(4, .vary [(5, .sc (.int .i64))])] Tryd.func25 (by kernel_rfl) rfl fun _ => by kernel_rfl

-- loop.example/g01204/laws.eqVecS
noncomputable def laws_eqVecS_l4 (a0 : (List (Vec 3 Nat))) (a1 : (List (Vec 3 Nat))) (s356 : (Int × Unit)) : Option ((Int × Unit) ⊕ ((Bool × Unit) × Unit)) :=
  bif (iLt s356.1 (lenI a0)) then
    bif inB s356.1 (List.length a0) then
      bif inB s356.1 (List.length a1) then
        (laws_eqVec (List.getD a0 s356.1.toNat ((0, 0, 0, ()) : (Vec 3 Nat))) (List.getD a1 s356.1.toNat ((0, 0, 0, ()) : (Vec 3 Nat)))).bind fun y360 =>
        bif (! y360.1.1) then
          Option.map Sum.inr (some ((false, ()), ()))
        else
        some (Sum.inl ((iAdd .i64 s356.1 1), ()))
      else none
    else none
  else
  Option.map Sum.inr (some ((true, ()), ()))
noncomputable def laws_eqVecS (a0 : (List (Vec 3 Nat))) (a1 : (List (Vec 3 Nat))) : Option ((Bool × Unit) × Unit) :=
  bif (! (iEq (lenI a0) (lenI a1))) then some ((false, ()), ()) else run (laws_eqVecS_l4 a0 a1) ((0 : Int), ())
noncomputable def laws_eqVecS_en : Entry := ⟨⟨[.v (.list (.arr 3 (.flt .f32))), .v (.list (.arr 3 (.flt .f32)))], [.v (.val (.bool))], false⟩, fun x => laws_eqVecS x.1 x.2.1⟩
theorem laws_eqVecS_so : Sound Tryd.prog G 24 laws_eqVecS_en := so_of (envS (l := [(23, laws_eqVec_en)]) ⟨(laws_eqVec_so), trivial⟩) [(4, .vary [(5, .sc (.int .i64))])] Tryd.func24 (by kernel_rfl) rfl fun _ => by kernel_rfl

-- loop.example/g01204/laws.eqLog
noncomputable def laws_eqLog (a0 : (Int × ((Vec 3 Nat) × ((List (Vec 3 Nat)) × ((List (Int × ((Vec 3 Nat) × ((Vec 3 Int) × (Int × (Nat × Unit)))))) × Unit))))) (a1 : (Int × ((Vec 3 Nat) × ((List (Vec 3 Nat)) × ((List (Int × ((Vec 3 Nat) × ((Vec 3 Int) × (Int × (Nat × Unit)))))) × Unit))))) : Option ((Bool × Unit) × Unit) :=
  bif (! (iEq a0.1 a1.1)) then some ((false, ()), ()) else
  (laws_eqVec a0.2.1 a1.2.1).bind fun y289 =>
  bif (! y289.1.1) then some ((false, ()), ()) else
  (laws_eqVecS a0.2.2.1 a1.2.2.1).bind fun y291 =>
  bif (! y291.1.1) then some ((false, ()), ()) else
  (laws_eqEntryS a0.2.2.2.1 a1.2.2.2.1).bind fun y293 =>
  bif (! y293.1.1) then some ((false, ()), ()) else some ((true, ()), ())
noncomputable def laws_eqLog_en : Entry := ⟨⟨[.v (.pair (.int .i64) (.pair (.arr 3 (.flt .f32)) (.pair (.list (.arr 3 (.flt .f32))) (.pair (.list (.pair (.int .i64) (.pair (.arr 3 (.flt .f32)) (.pair (.arr 3 (.int .i16)) (.pair (.int .i64) (.pair (.flt .f32) (.unit))))))) (.unit))))), .v (.pair (.int .i64) (.pair (.arr 3 (.flt .f32)) (.pair (.list (.arr 3 (.flt .f32))) (.pair (.list (.pair (.int .i64) (.pair (.arr 3 (.flt .f32)) (.pair (.arr 3 (.int .i16)) (.pair (.int .i64) (.pair (.flt .f32) (.unit))))))) (.unit)))))], [.v (.val (.bool))], false⟩, fun x => laws_eqLog x.1 x.2.1⟩
theorem laws_eqLog_so : Sound Tryd.prog G 8 laws_eqLog_en := so_of (envS (l := [(23, laws_eqVec_en), (24, laws_eqVecS_en), (25, laws_eqEntryS_en)]) ⟨(laws_eqVec_so), (laws_eqVecS_so), (laws_eqEntryS_so), trivial⟩) [] Tryd.func8 (by kernel_rfl) rfl fun _ => by kernel_rfl

-- loop.example/g01204/laws.szEntryS
noncomputable def laws_szEntryS (a0 : (List (Int × ((Vec 3 Nat) × ((Vec 3 Int) × (Int × (Nat × Unit))))))) (a1 : Int) : Option ((Int × Unit) × Unit) :=
  let x367 := iSub .i64 a1 (lenI a0)
  bif (iLt x367 0) then some ((((-1 : Int) : Int), ()), ()) else some ((x367, ()), ())
noncomputable def laws_szEntryS_en : Entry := ⟨⟨[.v (.list (.pair (.int .i64) (.pair (.arr 3 (.flt .f32)) (.pair (.arr 3 (.int .i16)) (.pair (.int .i64) (.pair (.flt .f32) (.unit))))))), .v (.int .i64)], [.v (.val (.int .i64))], false⟩, fun x => laws_szEntryS x.1 x.2.1⟩
theorem laws_szEntryS_so : Sound Tryd.prog G 10 laws_szEntryS_en := so_of (envS (l := []) trivial) [] Tryd.func10 (by kernel_rfl) rfl fun _ => by kernel_rfl

-- loop.example/g01204/laws.szVecS
noncomputable def laws_szVecS (a0 : (List (Vec 3 Nat))) (a1 : Int) : Option ((Int × Unit) × Unit) :=
  let x369 := iSub .i64 a1 (lenI a0)
  bif (iLt x369 0) then some ((((-1 : Int) : Int), ()), ()) else some ((x369, ()), ())
noncomputable def laws_szVecS_en : Entry := ⟨⟨[.v (.list (.arr 3 (.flt .f32))), .v (.int .i64)], [.v (.val (.int .i64))], false⟩, fun x => laws_szVecS x.1 x.2.1⟩
theorem laws_szVecS_so : Sound Tryd.prog G 9 laws_szVecS_en := so_of (envS (l := []) trivial) [] Tryd.func9 (by kernel_rfl) rfl fun _ => by kernel_rfl

-- loop.example/g01204/laws.szLog
noncomputable def laws_szLog (a0 : (Int × ((Vec 3 Nat) × ((List (Vec 3 Nat)) × ((List (Int × ((Vec 3 Nat) × ((Vec 3 Int) × (Int × (Nat × Unit)))))) × Unit))))) (a1 : Int) : Option ((Int × Unit) × Unit) :=
  (laws_szVecS a0.2.2.1 a1).bind fun y363 =>
  bif (iLt y363.1.1 0) then some ((((-1 : Int) : Int), ()), ()) else
  (laws_szEntryS a0.2.2.2.1 y363.1.1).bind fun y365 =>
  bif (iLt y365.1.1 0) then some ((((-1 : Int) : Int), ()), ()) else some ((y365.1.1, ()), ())
noncomputable def laws_szLog_en : Entry := ⟨⟨[.v (.pair (.int .i64) (.pair (.arr 3 (.flt .f32)) (.pair (.list (.arr 3 (.flt .f32))) (.pair (.list (.pair (.int .i64) (.pair (.arr 3 (.flt .f32)) (.pair (.arr 3 (.int .i16)) (.pair (.int .i64) (.pair (.flt .f32) (.unit))))))) (.unit))))), .v (.int .i64)], [.v (.val (.int .i64))], false⟩, fun x => laws_szLog x.1 x.2.1⟩
theorem laws_szLog_so : Sound Tryd.prog G 4 laws_szLog_en := so_of (envS (l := [(9, laws_szVecS_en), (10, laws_szEntryS_en)]) ⟨(laws_szVecS_so), (laws_szEntryS_so), trivial⟩) [] Tryd.func4 (by kernel_rfl) rfl fun _ => by kernel_rfl

-- loop.example/g01204/laws.toCounts
noncomputable def laws_toCounts (a0 : (Vec 3 Int)) : Option (((Vec 3 Int) × Unit) × Unit) :=
  some (((((Vec.getD 3 a0 0 (0 : Int)), (Vec.getD 3 a0 1 (0 : Int)), (Vec.getD 3 a0 2 (0 : Int)), ()) : (Vec 3 Int)), ()), ())
noncomputable def laws_toCounts_en : Entry := ⟨⟨[.v (.arr 3 (.int .i16))], [.v (.val (.arr 3 (.int .i16)))], false⟩, fun x => laws_toCounts x.1⟩
theorem laws_toCounts_so : Sound Tryd.prog G 52 laws_toCounts_en := so_of (envS (l := []) trivial) [(3, .unroll 4)] Tryd.func52 (by kernel_rfl) rfl fun _ => by kernel_rfl

-- loop.example/g01204/laws.toVec
noncomputable def laws_toVec (a0 : (Vec 3 Nat)) : Option (((Vec 3 Nat) × Unit) × Unit) :=
  some (((((Vec.getD 3 a0 0 (0 : Nat)), (Vec.getD 3 a0 1 (0 : Nat)), (Vec.getD 3 a0 2 (0 : Nat)), ()) : (Vec 3 Nat)), ()), ())
noncomputable def laws_toVec_en : Entry := ⟨⟨[.v (.arr 3 (.flt .f32))], [.v (.val (.arr 3 (.flt .f32)))], false⟩, fun x => laws_toVec x.1⟩
theorem laws_toVec_so : Sound Tryd.prog G 13 laws_toVec_en := so_of (envS (l := []) trivial) [(3, .unroll 4)] Tryd.func13 (by kernel_rfl) rfl fun _ => by kernel_rfl

-- loop.example/g01204/laws.toEntry
noncomputable def laws_toEntry (a0 : (Int × ((Vec 3 Nat) × ((Vec 3 Int) × (Int × (Nat × Unit)))))) : Option (((Int × ((Vec 3 Nat) × ((Vec 3 Int) × (Int × (Nat × Unit))))) × Unit) × Unit) :=
  (laws_toVec a0.2.1).bind fun y385 =>
  (laws_toCounts a0.2.2.1).bind fun y386 =>
  some ((((a0.1, y385.1.1, y386.1.1, a0.2.2.2.1, a0.2.2.2.2.1, ()) : (Int × ((Vec 3 Nat) × ((Vec 3 Int) × (Int × (Nat × Unit)))))), ()), ())
noncomputable def laws_toEntry_en : Entry := ⟨⟨[.v (.pair (.int .i64) (.pair (.arr 3 (.flt .f32)) (.pair (.arr 3 (.int .i16)) (.pair (.int .i64) (.pair (.flt .f32) (.unit))))))], [.v (.val (.pair (.int .i64) (.pair (.arr 3 (.flt .f32)) (.pair (.arr 3 (.int .i16)) (.pair (.int .i64) (.pair (.flt .f32) (.unit)))))))], false⟩, fun x => laws_toEntry x.1⟩
theorem laws_toEntry_so : Sound Tryd.prog G 31 laws_toEntry_en := so_of (envS (l := [(13, laws_toVec_en), (52, laws_toCounts_en)]) ⟨(laws_toVec_so), (laws_toCounts_so), trivial⟩) [] Tryd.func31 (by kernel_rfl) rfl fun _ => by kernel_rfl

-- loop.example/g01204/laws.toEntryS
noncomputable def laws_toEntryS_l3 (a0 : (List (Int × ((Vec 3 Nat) × ((Vec 3 Int) × (Int × (Nat × Unit))))))) (s380 : (Int × (List (Int × ((Vec 3 Nat) × ((Vec 3 Int) × (Int × (Nat × Unit)))))) × Unit)) : Option ((Int × (List (Int × ((Vec 3 Nat) × ((Vec 3 Int) × (Int × (Nat × Unit)))))) × Unit) ⊕ (((List (Int × ((Vec 3 Nat) × ((Vec 3 Int) × (Int × (Nat × Unit)))))) × Unit) × Unit)) :=
  bif (iLt s380.1 (lenI a0)) then
    bif inB s380.1 (List.length a0) then
      (laws_toEntry (List.getD a0 s380.1.toNat ((0, (0, 0, 0, ()), (0, 0, 0, ()), 0, 0, ()) : (Int × ((Vec 3 Nat) × ((Vec 3 Int) × (Int × (Nat × Unit)))))))).bind fun y383 =>
      bif inB s380.1 (List.length s380.2.1) then
        some (Sum.inl ((iAdd .i64 s380.1 1), List.set s380.2.1 s380.1.toNat y383.1.1, ()))
      else none
    else none
  else
  Option.map Sum.inr (some ((s380.2.1, ()), ()))
noncomputable def laws_toEntryS (a0 : (List (Int × ((Vec 3 Nat) × ((Vec 3 Int) × (Int × (Nat × Unit))))))) : Option (((List (Int × ((Vec 3 Nat) × ((Vec 3 Int) × (Int × (Nat × Unit)))))) × Unit) × Unit) :=
  bif (iLe 0 (lenI a0) && iLe (lenI a0) (lenI a0) && room (lenI a0).toNat 48) then run (laws_toEntryS_l3 a0) ((0 : Int), List.replicate (lenI a0).toNat ((0, (0, 0, 0, ()), (0, 0, 0, ()), 0, 0, ()) : (Int × ((Vec 3 Nat) × ((Vec 3 Int) × (Int × (Nat × Unit)))))), ()) else none
noncomputable def laws_toEntryS_en : Entry := ⟨⟨[.v (.list (.pair (.int .i64) (.pair (.arr 3 (.flt .f32)) (.pair (.arr 3 (.int .i16)) (.pair (.int .i64) (.pair (.flt .f32) (.unit)))))))], [.v (.rows (.pair (.int .i64) (.pair (.arr 3 (.flt .f32)) (.pair (.arr 3 (.int .i16)) (.pair (.int .i64) (.pair (.flt .f32) (.unit)))))))], false⟩, fun x => laws_toEntryS x.1⟩
theorem laws_toEntryS_so : Sound Tryd.prog G 15 laws_toEntryS_en := so_of (envS (l := [(31, laws_toEntry_en)]) ⟨(laws_toEntry_so), trivial⟩) [(3, .vary [(4, .sc (.int .i64)), (3, .mrows (.pair (.int .i64) (.pair (.arr 3 (.flt .f32)) (.pair (.arr 3 (.int .i16)) (.pair (.int .i64) (.pair (.flt .f32) (.unit)))))))])] Tryd.func15 (by kernel_rfl) rfl fun _ => by kernel_rfl

-- loop.example/g01204/laws.toVecS
noncomputable def laws_toVecS_l3 (a0 : (List (Vec 3 Nat))) (s399 : (Int × (List (Vec 3 Nat)) × Unit)) : Option ((Int × (List (Vec 3 Nat)) × Unit) ⊕ (((List (Vec 3 Nat)) × Unit) × Unit)) :=
  bif (iLt s399.1 (lenI a0)) then
    bif inB s399.1 (List.length a0) then
      (laws_toVec (List.getD a0 s399.1.toNat ((0, 0, 0, ()) : (Vec 3 Nat)))).bind fun y402 =>
      bif inB s399.1 (List.length s399.2.1) then
        some (Sum.inl ((iAdd .i64 s399.1 1), List.set s399.2.1 s399.1.toNat y402.1.1, ()))
      else none
    else none
  else
  Option.map Sum.inr (some ((s399.2.1, ()), ()))
noncomputable def laws_toVecS (a0 : (List (Vec 3 Nat))) : Option (((List (Vec 3 Nat)) × Unit) × Unit) :=
  bif (iLe 0 (lenI a0) && iLe (lenI a0) (lenI a0) && room (lenI a0).toNat 12) then run (laws_toVecS_l3 a0) ((0 : Int), List.replicate (lenI a0).toNat ((0, 0, 0, ()) : (Vec 3 Nat)), ()) else none
noncomputable def laws_toVecS_en : Entry := ⟨⟨[.v (.list (.arr 3 (.flt .f32)))], [.v (.rows (.arr 3 (.flt .f32)))], false⟩, fun x => laws_toVecS x.1⟩
theorem laws_toVecS_so : Sound Tryd.prog G 14 laws_toVecS_en := so_of (envS (l := [(13, laws_toVec_en)]) ⟨(laws_toVec_so), trivial⟩) [(3, .vary [(4, .sc (.int .i64)), (3, .mrows (.arr 3 (.flt .f32)))])] Tryd.func14 (by kernel_rfl) rfl fun _ => by kernel_rfl

-- loop.example/g01204/laws.toLog
noncomputable def laws_toLog (a0 : (Int × ((Vec 3 Nat) × ((List (Vec 3 Nat)) × ((List (Int × ((Vec 3 Nat) × ((Vec 3 Int) × (Int × (Nat × Unit)))))) × Unit))))) : Option (((Int × ((Vec 3 Nat) × ((List (Vec 3 Nat)) × ((List (Int × ((Vec 3 Nat) × ((Vec 3 Int) × (Int × (Nat × Unit)))))) × Unit)))) × Unit) × Unit) :=
  (laws_toVec a0.2.1).bind fun y371 =>
  (laws_toVecS a0.2.2.1).bind fun y372 =>
  (laws_toEntryS a0.2.2.2.1).bind fun y373 =>
  some ((((a0.1, y371.1.1, y372.1.1, y373.1.1, ()) : (Int × ((Vec 3 Nat) × ((List (Vec 3 Nat)) × ((List (Int × ((Vec 3 Nat) × ((Vec 3 Int) × (Int × (Nat × Unit)))))) × Unit))))), ()), ())
noncomputable def laws_toLog_en : Entry := ⟨⟨[.v (.pair (.int .i64) (.pair (.arr 3 (.flt .f32)) (.pair (.list (.arr 3 (.flt .f32))) (.pair (.list (.pair (.int .i64) (.pair (.arr 3 (.flt .f32)) (.pair (.arr 3 (.int .i16)) (.pair (.int .i64) (.pair (.flt .f32) (.unit))))))) (.unit)))))], [.v (.pair (.val (.int .i64)) (.pair (.val (.arr 3 (.flt .f32))) (.pair (.rows (.arr 3 (.flt .f32))) (.pair (.rows (.pair (.int .i64) (.pair (.arr 3 (.flt .f32)) (.pair (.arr 3 (.int .i16)) (.pair (.int .i64) (.pair (.flt .f32) (.unit))))))) (.val (.unit))))))], false⟩, fun x => laws_toLog x.1⟩
theorem laws_toLog_so : Sound Tryd.prog G 6 laws_toLog_en := so_of (envS (l := [(13, laws_toVec_en), (14, laws_toVecS_en), (15, laws_toEntryS_en)]) ⟨(laws_toVec_so), (laws_toVecS_so), (laws_toEntryS_so), trivial⟩) [] Tryd.func6 (by kernel_rfl) rfl fun _ => by kernel_rfl

-- loop.example/g01204/spec.l00In
noncomputable def spec_l00In (a0 : Int) (a1 : Int) (a2 : Int) : Option ((Bool × Unit) × Unit) :=
  bif (iLe a1 a0) then
    some (((iLe a0 a2), ()), ())
  else some ((false, ()), ())
noncomputable def spec_l00In_en : Entry := ⟨⟨[.v (.int .i64), .v (.int .i64), .v (.int .i64)], [.v (.val (.bool))], false⟩, fun x => spec_l00In x.1 x.2.1 x.2.2.1⟩
theorem spec_l00In_so : Sound Tryd.prog G 44 spec_l00In_en := so_of (envS (l := []) trivial) [] Tryd.func44 (by kernel_rfl) rfl fun _ => by kernel_rfl

-- loop.example/g01204/spec.l01Finite
noncomputable def spec_l01Finite (a0 : Nat) : Option ((Bool × Unit) × Unit) :=
  some (((fEq .f32 (fSub .f32 a0 a0) 0), ()), ())
noncomputable def spec_l01Finite_en : Entry := ⟨⟨[.v (.flt .f32)], [.v (.val (.bool))], false⟩, fun x => spec_l01Finite x.1⟩
theorem spec_l01Finite_so : Sound Tryd.prog G 48 spec_l01Finite_en := so_of (envS (l := []) trivial) [] Tryd.func48 (by kernel_rfl) rfl fun _ => by kernel_rfl

-- loop.example/g01204/spec.l01Same
noncomputable def spec_l01Same (a0 : Nat) (a1 : Nat) : Option ((Bool × Unit) × Unit) :=
  bif (! (fEq .f32 a0 a0)) then
    bif (! (fEq .f32 a0 a0)) then
      some (((! (fEq .f32 a1 a1)), ()), ())
    else some ((false, ()), ())
  else
  bif (! (fEq .f32 a1 a1)) then
    bif (! (fEq .f32 a0 a0)) then
      some (((! (fEq .f32 a1 a1)), ()), ())
    else some ((false, ()), ())
  else
  allSame fun (q477 : Nat) =>
  allSame fun (q479 : Nat) =>
  some (((iEq (bitsF .f32 a0 q477) (bitsF .f32 a1 q479)), ()), ())
noncomputable def spec_l01Same_en : Entry := ⟨⟨[.v (.flt .f32), .v (.flt .f32)], [.v (.val (.bool))], false⟩, fun x => spec_l01Same x.1 x.2.1⟩
theorem spec_l01Same_so : Sound Tryd.prog G 47 spec_l01Same_en := so_of (envS (l := []) trivial) [] Tryd.func47 (by kernel_rfl) rfl fun _ => by kernel_rfl

-- loop.example/g01204/spec.l01SameVec
noncomputable def spec_l01SameVec (a0 : (Vec 3 Nat)) (a1 : (Vec 3 Nat)) : Option ((Bool × Unit) × Unit) :=
  (spec_l01Same (Vec.getD 3 a0 0 (0 : Nat)) (Vec.getD 3 a1 0 (0 : Nat))).bind fun y484 =>
  bif y484.1.1 then
    (spec_l01Same (Vec.getD 3 a0 1 (0 : Nat)) (Vec.getD 3 a1 1 (0 : Nat))).bind fun y487 =>
    bif y487.1.1 then
      (spec_l01Same (Vec.getD 3 a0 2 (0 : Nat)) (Vec.getD 3 a1 2 (0 : Nat))).bind fun y490 =>
      some ((y490.1.1, ()), ())
    else some ((false, ()), ())
  else some ((false, ()), ())
noncomputable def spec_l01SameVec_en : Entry := ⟨⟨[.v (.arr 3 (.flt .f32)), .v (.arr 3 (.flt .f32))], [.v (.val (.bool))], false⟩, fun x => spec_l01SameVec x.1 x.2.1⟩
theorem spec_l01SameVec_so : Sound Tryd.prog G 46 spec_l01SameVec_en := so_of (envS (l := [(47, spec_l01Same_en)]) ⟨(spec_l01Same_so), trivial⟩) [] Tryd.func46 (by kernel_rfl) rfl fun _ => by kernel_rfl

-- loop.example/g01204/spec.l01Vec
noncomputable def spec_l01Vec (a0 : (Vec 3 Nat)) : Option ((Bool × Unit) × Unit) :=
  (spec_l01Finite (Vec.getD 3 a0 0 (0 : Nat))).bind fun y492 =>
  bif y492.1.1 then
    (spec_l01Finite (Vec.getD 3 a0 1 (0 : Nat))).bind fun y494 =>
    bif y494.1.1 then
      (spec_l01Finite (Vec.getD 3 a0 2 (0 : Nat))).bind fun y496 =>
      some ((y496.1.1, ()), ())
    else some ((false, ()), ())
  else some ((false, ()), ())
noncomputable def spec_l01Vec_en : Entry := ⟨⟨[.v (.arr 3 (.flt .f32))], [.v (.val (.bool))], false⟩, fun x => spec_l01Vec x.1⟩
theorem spec_l01Vec_so : Sound Tryd.prog G 45 spec_l01Vec_en := so_of (envS (l := [(48, spec_l01Finite_en)]) ⟨(spec_l01Finite_so), trivial⟩) [] Tryd.func45 (by kernel_rfl) rfl fun _ => by kernel_rfl

-- loop.example/g01204/spec.l08Entry
noncomputable def spec_l08Entry (a0 : (Int × ((Vec 3 Nat) × ((Vec 3 Int) × (Int × (Nat × Unit)))))) (a1 : Int) : Option ((Bool × Unit) × Unit) :=
  (spec_l01SameVec a0.2.1 ((0, 0, 0, ()) : (Vec 3 Nat))).bind fun y415 =>
  bif y415.1.1 then
    (spec_l01Same a0.2.2.2.2.1 (0 : Nat)).bind fun y416 =>
    bif y416.1.1 then
      bif (iEq a0.1 1) then
        bif (iEq (Vec.getD 3 a0.2.2.1 0 (0 : Int)) 0 && (iEq (Vec.getD 3 a0.2.2.1 1 (0 : Int)) 0 && (iEq (Vec.getD 3 a0.2.2.1 2 (0 : Int)) 0 && true))) then
          some (((iEq a0.2.2.2.1 0), ()), ())
        else some ((false, ()), ())
      else
      bif (iEq a0.1 2) then
        (spec_l01Vec a0.2.1).bind fun y421 =>
        bif y421.1.1 then
          (spec_l01Same a0.2.2.2.2.1 (0 : Nat)).bind fun y422 =>
          bif y422.1.1 then
            bif (iEq (Vec.getD 3 a0.2.2.1 0 (0 : Int)) 0 && (iEq (Vec.getD 3 a0.2.2.1 1 (0 : Int)) 0 && (iEq (Vec.getD 3 a0.2.2.1 2 (0 : Int)) 0 && true))) then
              some (((iEq a0.2.2.2.1 0), ()), ())
            else some ((false, ()), ())
          else some ((false, ()), ())
        else some ((false, ()), ())
      else
      bif (iEq a0.1 3) then
        (spec_l01SameVec a0.2.1 ((0, 0, 0, ()) : (Vec 3 Nat))).bind fun y426 =>
        bif y426.1.1 then
          (spec_l01Same a0.2.2.2.2.1 (0 : Nat)).bind fun y427 =>
          bif y427.1.1 then
            some (((iEq a0.2.2.2.1 0), ()), ())
          else some ((false, ()), ())
        else some ((false, ()), ())
      else
      bif (iEq a0.1 4) then
        (spec_l01SameVec a0.2.1 ((0, 0, 0, ()) : (Vec 3 Nat))).bind fun y430 =>
        bif y430.1.1 then
          bif (iEq (Vec.getD 3 a0.2.2.1 0 (0 : Int)) 0 && (iEq (Vec.getD 3 a0.2.2.1 1 (0 : Int)) 0 && (iEq (Vec.getD 3 a0.2.2.1 2 (0 : Int)) 0 && true))) then
            (spec_l01Finite a0.2.2.2.2.1).bind fun y432 =>
            bif y432.1.1 then
              (spec_l00In a0.2.2.2.1 (0 : Int) (iSub .i64 a1 1)).bind fun y434 =>
              some ((y434.1.1, ()), ())
            else some ((false, ()), ())
          else some ((false, ()), ())
        else some ((false, ()), ())
      else some ((false, ()), ())
    else
    bif (iEq a0.1 1) then some ((false, ()), ()) else
    bif (iEq a0.1 2) then
      (spec_l01Vec a0.2.1).bind fun y437 =>
      bif y437.1.1 then
        (spec_l01Same a0.2.2.2.2.1 (0 : Nat)).bind fun y438 =>
        bif y438.1.1 then
          bif (iEq (Vec.getD 3 a0.2.2.1 0 (0 : Int)) 0 && (iEq (Vec.getD 3 a0.2.2.1 1 (0 : Int)) 0 && (iEq (Vec.getD 3 a0.2.2.1 2 (0 : Int)) 0 && true))) then
            some (((iEq a0.2.2.2.1 0), ()), ())
          else some ((false, ()), ())
        else some ((false, ()), ())
      else some ((false, ()), ())
    else
    bif (iEq a0.1 3) then
      (spec_l01SameVec a0.2.1 ((0, 0, 0, ()) : (Vec 3 Nat))).bind fun y442 =>
      bif y442.1.1 then
        (spec_l01Same a0.2.2.2.2.1 (0 : Nat)).bind fun y443 =>
        bif y443.1.1 then
          some (((iEq a0.2.2.2.1 0), ()), ())
        else some ((false, ()), ())
      else some ((false, ()), ())
    else
    bif (iEq a0.1 4) then
      (spec_l01SameVec a0.2.1 ((0, 0, 0, ()) : (Vec 3 Nat))).bind fun y446 =>
      bif y446.1.1 then
        bif (iEq (Vec.getD 3 a0.2.2.1 0 (0 : Int)) 0 && (iEq (Vec.getD 3 a0.2.2.1 1 (0 : Int)) 0 && (iEq (Vec.getD 3 a0.2.2.1 2 (0 : Int)) 0 && true))) then
          (spec_l01Finite a0.2.2.2.2.1).bind fun y448 =>
          bif y448.1.1 then
            (spec_l00In a0.2.2.2.1 (0 : Int) (iSub .i64 a1 1)).bind fun y450 =>
            some ((y450.1.1, ()), ())
          else some ((false, ()), ())
        else some ((false, ()), ())
      else some ((false, ()), ())
    else some ((false, ()), ())
  else
  bif (iEq a0.1 1) then some ((false, ()), ()) else
  bif (iEq a0.1 2) then
    (spec_l01Vec a0.2.1).bind fun y453 =>
    bif y453.1.1 then
      (spec_l01Same a0.2.2.2.2.1 (0 : Nat)).bind fun y454 =>
      bif y454.1.1 then
        bif (iEq (Vec.getD 3 a0.2.2.1 0 (0 : Int)) 0 && (iEq (Vec.getD 3 a0.2.2.1 1 (0 : Int)) 0 && (iEq (Vec.getD 3 a0.2.2.1 2 (0 : Int)) 0 && true))) then
          some (((iEq a0.2.2.2.1 0), ()), ())
        else some ((false, ()), ())
      else some ((false, ()), ())
    else some ((false, ()), ())
  else
  bif (iEq a0.1 3) then
    (spec_l01SameVec a0.2.1 ((0, 0, 0, ()) : (Vec 3 Nat))).bind fun y458 =>
    bif y458.1.1 then
      (spec_l01Same a0.2.2.2.2.1 (0 : Nat)).bind fun y459 =>
      bif y459.1.1 then
        some (((iEq a0.2.2.2.1 0), ()), ())
      else some ((false, ()), ())
    else some ((false, ()), ())
  else
  bif (iEq a0.1 4) then
    (spec_l01SameVec a0.2.1 ((0, 0, 0, ()) : (Vec 3 Nat))).bind fun y462 =>
    bif y462.1.1 then
      bif (iEq (Vec.getD 3 a0.2.2.1 0 (0 : Int)) 0 && (iEq (Vec.getD 3 a0.2.2.1 1 (0 : Int)) 0 && (iEq (Vec.getD 3 a0.2.2.1 2 (0 : Int)) 0 && true))) then
        (spec_l01Finite a0.2.2.2.2.1).bind fun y464 =>
        bif y464.1.1 then
          (spec_l00In a0.2.2.2.1 (0 : Int) (iSub .i64 a1 1)).bind fun y466 =>
          some ((y466.1.1, ()), ())
        else some ((false, ()), ())
      else some ((false, ()), ())
    else some ((false, ()), ())
  else some ((false, ()), ())
noncomputable def spec_l08Entry_en : Entry := ⟨⟨[.ro (.pair (.int .i64) (.pair (.arr 3 (.flt .f32)) (.pair (.arr 3 (.int .i16)) (.pair (.int .i64) (.pair (.flt .f32) (.unit)))))), .v (.int .i64)], [.v (.val (.bool))], false⟩, fun x => spec_l08Entry x.1 x.2.1⟩
theorem spec_l08Entry_so : Sound Tryd.prog G 27 spec_l08Entry_en := so_of (envS (l := [(44, spec_l00In_en), (45, spec_l01Vec_en), (46, spec_l01SameVec_en), (47, spec_l01Same_en), (48, spec_l01Finite_en)]) ⟨(spec_l00In_so), (spec_l01Vec_so), (spec_l01SameVec_so), (spec_l01Same_so), (spec_l01Finite_so), trivial⟩) [] Tryd.func27 (by kernel_rfl) rfl fun _ => by kernel_rfl

-- loop.example/g01204/spec.l08Frame
noncomputable def spec_l08Frame_l4 (a2 : (List (Vec 3 Nat))) (s502 : (Int × Unit)) : Option ((Int × Unit) ⊕ ((Bool × Unit) × Unit)) :=
  bif (iLt s502.1 (lenI a2)) then
    bif inB s502.1 (List.length a2) then
      (spec_l01Vec (List.getD a2 s502.1.toNat ((0, 0, 0, ()) : (Vec 3 Nat)))).bind fun y505 =>
      bif (! y505.1.1) then
        Option.map Sum.inr (some ((false, ()), ()))
      else
      some (Sum.inl ((iAdd .i64 s502.1 1), ()))
    else none
  else
  Option.map Sum.inr (some ((true, ()), ()))
noncomputable def spec_l08Frame (a0 : Int) (a1 : (Vec 3 Nat)) (a2 : (List (Vec 3 Nat))) : Option ((Bool × Unit) × Unit) :=
  (spec_l00In a0 (1 : Int) (64 : Int)).bind fun y497 =>
  bif (! y497.1.1) then some ((false, ()), ()) else
  (spec_l01Vec a1).bind fun y499 =>
  bif (! y499.1.1) then some ((false, ()), ()) else
  bif (iLt 6 (lenI a2)) then some ((false, ()), ()) else run (spec_l08Frame_l4 a2) ((0 : Int), ())
noncomputable def spec_l08Frame_en : Entry := ⟨⟨[.v (.int .i64), .v (.arr 3 (.flt .f32)), .v (.list (.arr 3 (.flt .f32)))], [.v (.val (.bool))], false⟩, fun x => spec_l08Frame x.1 x.2.1 x.2.2.1⟩
theorem spec_l08Frame_so : Sound Tryd.prog G 26 spec_l08Frame_en := so_of (envS (l := [(44, spec_l00In_en), (45, spec_l01Vec_en)]) ⟨(spec_l00In_so), (spec_l01Vec_so), trivial⟩) [(4, .vary [(7, .sc (.int .i64))])] Tryd.func26 (by kernel_rfl) rfl fun _ => by kernel_rfl

-- loop.example/g01204/spec.l08Log
noncomputable def spec_l08Log_l4 (a0 : (Int × ((Vec 3 Nat) × ((List (Vec 3 Nat)) × ((List (Int × ((Vec 3 Nat) × ((Vec 3 Int) × (Int × (Nat × Unit)))))) × Unit))))) (s410 : (Int × Unit)) : Option ((Int × Unit) ⊕ ((Bool × Unit) × Unit)) :=
  bif (iLt s410.1 (lenI a0.2.2.2.1)) then
    bif inB s410.1 (List.length a0.2.2.2.1) then
      (spec_l08Entry (List.getD a0.2.2.2.1 s410.1.toNat ((0, (0, 0, 0, ()), (0, 0, 0, ()), 0, 0, ()) : (Int × ((Vec 3 Nat) × ((Vec 3 Int) × (Int × (Nat × Unit))))))) (lenI a0.2.2.1)).bind fun y412 =>
      bif (! y412.1.1) then
        Option.map Sum.inr (some ((false, ()), ()))
      else
      some (Sum.inl ((iAdd .i64 s410.1 1), ()))
    else none
  else
  Option.map Sum.inr (some ((true, ()), ()))
noncomputable def spec_l08Log (a0 : (Int × ((Vec 3 Nat) × ((List (Vec 3 Nat)) × ((List (Int × ((Vec 3 Nat) × ((Vec 3 Int) × (Int × (Nat × Unit)))))) × Unit))))) : Option ((Bool × Unit) × Unit) :=
  (spec_l08Frame a0.1 a0.2.1 a0.2.2.1).bind fun y407 =>
  bif (! y407.1.1) then some ((false, ()), ()) else
  bif (iLt 1200 (lenI a0.2.2.2.1)) then some ((false, ()), ()) else run (spec_l08Log_l4 a0) ((0 : Int), ())
noncomputable def spec_l08Log_en : Entry := ⟨⟨[.ro (.pair (.int .i64) (.pair (.arr 3 (.flt .f32)) (.pair (.list (.arr 3 (.flt .f32))) (.pair (.list (.pair (.int .i64) (.pair (.arr 3 (.flt .f32)) (.pair (.arr 3 (.int .i16)) (.pair (.int .i64) (.pair (.flt .f32) (.unit))))))) (.unit)))))], [.v (.val (.bool))], false⟩, fun x => spec_l08Log x.1⟩
theorem spec_l08Log_so : Sound Tryd.prog G 11 spec_l08Log_en := so_of (envS (l := [(26, spec_l08Frame_en), (27, spec_l08Entry_en)]) ⟨(spec_l08Frame_so), (spec_l08Entry_so), trivial⟩) [(4, .vary [(3, .sc (.int .i64))])] Tryd.func11 (by kernel_rfl) rfl fun _ => by kernel_rfl

-- loop.example/g01204/spec.Decimal
noncomputable def spec_Decimal_r (rec_ : Int → Option ((List UInt8 × Unit) × Unit)) (a0 : Int) : Option ((List UInt8 × Unit) × Unit) :=
  bif (iLe 10 a0) then
    (rec_ (iQuo .i64 a0 10)).bind fun y529 =>
    let x533 := ofBytes ([(iWrap .u8 (iAdd .i64 48 (iRem .i64 a0 10)))])
    bif strRoom y529.1.1 x533 then
      some (((strCat y529.1.1 x533), ()), ())
    else none
  else
  some (((ofBytes ([(iWrap .u8 (iAdd .i64 48 a0))])), ()), ())
noncomputable def spec_Decimal_n : Nat → Int → Option ((List UInt8 × Unit) × Unit)
  | 0 => fun _ => none
  | k + 1 => spec_Decimal_r (spec_Decimal_n k)
noncomputable def spec_Decimal : Int → Option ((List UInt8 × Unit) × Unit) := spec_Decimal_n 64
noncomputable def spec_Decimal_sg : Sig := ⟨[.v (.int .i64)], [.v (.val (.str))], false⟩
noncomputable def spec_Decimal_en : Entry := ⟨spec_Decimal_sg, fun x => spec_Decimal x.1⟩
theorem spec_Decimal_eq (rec_ : Int → Option ((List UInt8 × Unit) × Unit)) {G : List (Nat × Obj)} (x : spec_Decimal_sg.dom) : body (env G [(28, ⟨spec_Decimal_sg, fun x => rec_ x.1⟩)]) [] Tryd.f28 spec_Decimal_sg x = spec_Decimal_r rec_ x.1 := by kernel_rfl
theorem spec_Decimal_so : Sound Tryd.prog G 28 spec_Decimal_en := by
  have h : ∀ k, Sound Tryd.prog G 28 ⟨spec_Decimal_sg, fun x => spec_Decimal_n k x.1⟩ := by
    intro k
    induction k with
    | zero => exact ⟨rfl, fun _ _ _ _ _ _ _ _ _ _ _ h => by cases h⟩
    | succ k ih => exact sound_of_body (envS (l := [(28, ⟨spec_Decimal_sg, fun x => spec_Decimal_n k x.1⟩)]) (⟨ih, trivial⟩)) Tryd.func28 (by kernel_rfl) rfl (fun x y h => (spec_Decimal_eq (spec_Decimal_n k) (G := G) x).trans h)
  exact h 64

-- loop.example/g01204/spec.l01Bits
noncomputable def spec_l01Bits (a0 : Nat) : Option ((Int × Unit) × Unit) :=
  bif (! (fEq .f32 a0 a0)) then some (((2143289344 : Int), ()), ()) else
  allSame fun (q581 : Nat) =>
  some (((bitsF .f32 a0 q581), ()), ())
noncomputable def spec_l01Bits_en : Entry := ⟨⟨[.v (.flt .f32)], [.v (.val (.int .u32))], false⟩, fun x => spec_l01Bits x.1⟩
theorem spec_l01Bits_so : Sound Tryd.prog G 65 spec_l01Bits_en := so_of (envS (l := []) trivial) [] Tryd.func65 (by kernel_rfl) rfl fun _ => by kernel_rfl

-- loop.example/g01204/spec.l01Hex
noncomputable def spec_l01Hex (a0 : Nat) : Option ((List UInt8 × Unit) × Unit) :=
  (spec_l01Bits a0).bind fun y551 =>
  bif (iLe 0 8 && iLe 8 8 && room ((8 : Int)).toNat 1) then
    let x552 := iRem .u32 y551.1.1 16
    bif inB x552 (List.length ([48, 49, 50, 51, 52, 53, 54, 55, 56, 57, 97, 98, 99, 100, 101, 102])) then
      bif inB 7 (List.length (List.replicate (((8 : Int)).toNat) (0 : Int))) then
        let w554 := List.set (List.replicate (((8 : Int)).toNat) (0 : Int)) 7 (strAt ([48, 49, 50, 51, 52, 53, 54, 55, 56, 57, 97, 98, 99, 100, 101, 102]) x552)
        let x555 := iQuo .u32 y551.1.1 16
        let x556 := iRem .u32 x555 16
        bif inB x556 (List.length ([48, 49, 50, 51, 52, 53, 54, 55, 56, 57, 97, 98, 99, 100, 101, 102])) then
          let x557 := strAt ([48, 49, 50, 51, 52, 53, 54, 55, 56, 57, 97, 98, 99, 100, 101, 102]) x556
          bif inB 6 (List.length w554) then
            let x558 := iQuo .u32 x555 16
            let x559 := iRem .u32 x558 16
            bif inB x559 (List.length ([48, 49, 50, 51, 52, 53, 54, 55, 56, 57, 97, 98, 99, 100, 101, 102])) then
              let x560 := strAt ([48, 49, 50, 51, 52, 53, 54, 55, 56, 57, 97, 98, 99, 100, 101, 102]) x559
              bif inB 5 (List.length (List.set w554 6 x557)) then
                let x561 := iQuo .u32 x558 16
                let x562 := iRem .u32 x561 16
                bif inB x562 (List.length ([48, 49, 50, 51, 52, 53, 54, 55, 56, 57, 97, 98, 99, 100, 101, 102])) then
                  bif inB 4 (List.length (List.set (List.set w554 6 x557) 5 x560)) then
                    let w564 := List.set (List.set (List.set w554 6 x557) 5 x560) 4 (strAt ([48, 49, 50, 51, 52, 53, 54, 55, 56, 57, 97, 98, 99, 100, 101, 102]) x562)
                    let x565 := iQuo .u32 x561 16
                    let x566 := iRem .u32 x565 16
                    bif inB x566 (List.length ([48, 49, 50, 51, 52, 53, 54, 55, 56, 57, 97, 98, 99, 100, 101, 102])) then
                      let x567 := strAt ([48, 49, 50, 51, 52, 53, 54, 55, 56, 57, 97, 98, 99, 100, 101, 102]) x566
                      bif inB 3 (List.length w564) then
                        let x568 := iQuo .u32 x565 16
                        let x569 := iRem .u32 x568 16
                        bif inB x569 (List.length ([48, 49, 50, 51, 52, 53, 54, 55, 56, 57, 97, 98, 99, 100, 101, 102])) then
                          let x570 := strAt ([48, 49, 50, 51, 52, 53, 54, 55, 56, 57, 97, 98, 99, 100, 101, 102]) x569
                          bif inB 2 (List.length (List.set w564 3 x567)) then
                            let x571 := iQuo .u32 x568 16
                            let x572 := iRem .u32 x571 16
                            bif inB x572 (List.length ([48, 49, 50, 51, 52, 53, 54, 55, 56, 57, 97, 98, 99, 100, 101, 102])) then
                              bif inB 1 (List.length (List.set (List.set w564 3 x567) 2 x570)) then
                                let w574 := List.set (List.set (List.set w564 3 x567) 2 x570) 1 (strAt ([48, 49, 50, 51, 52, 53, 54, 55, 56, 57, 97, 98, 99, 100, 101, 102]) x572)
                                let x576 := iRem .u32 (iQuo .u32 x571 16) 16
                                bif inB x576 (List.length ([48, 49, 50, 51, 52, 53, 54, 55, 56, 57, 97, 98, 99, 100, 101, 102])) then
                                  bif inB 0 (List.length w574) then
                                    some (((ofBytes (List.set w574 0 (strAt ([48, 49, 50, 51, 52, 53, 54, 55, 56, 57, 97, 98, 99, 100, 101, 102]) x576))), ()), ())
                                  else none
                                else none
                              else none
                            else none
                          else none
                        else none
                      else none
                    else none
                  else none
                else none
              else none
            else none
          else none
        else none
      else none
    else none
  else none
noncomputable def spec_l01Hex_en : Entry := ⟨⟨[.v (.flt .f32)], [.v (.val (.str))], false⟩, fun x => spec_l01Hex x.1⟩
theorem spec_l01Hex_so : Sound Tryd.prog G 51 spec_l01Hex_en := so_of (envS (l := [(65, spec_l01Bits_en)]) ⟨(spec_l01Bits_so), trivial⟩) [(4, .unroll 9)] Tryd.func51 (by kernel_rfl) rfl fun _ => by kernel_rfl

end Go.Proofs.YtildomllnnnofaaDoor
