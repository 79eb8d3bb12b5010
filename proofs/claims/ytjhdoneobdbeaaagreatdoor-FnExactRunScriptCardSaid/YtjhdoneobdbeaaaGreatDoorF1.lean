import Derived.Test.YtjhdoneobdbeaaaGreatDoorE
/- Functions on typed data: what the evaluation of each Go function is, and that it is sound. -/
set_option linter.unusedVariables false
namespace Go.Proofs.YtjhdoneobdbeaaaGreatDoor
open Go Go.Tm
noncomputable section
set_option maxRecDepth 100000
variable {G : List (Nat × Obj)}
def qak (a0:Dq5):Option Dq7 :=
 bif (! a0.2.1) then
  some (((iEq (lenI a0.1) 0),()),())
 else some ((false,()),())
def qdo:Entry:=⟨⟨[.ro (.pair (.list (.str)) Uq9)],[.v (.val (.bool))],false⟩,fun x=>qak x.1⟩
theorem qfq:Sound Tryz.prog G 69 qdo:=qab (envS (l:=[]) trivial) [] Tryz.func69 (by kernel_rfl) rfl fun _=>by kernel_rfl
def qbi (a0:Dq5):Option (Dq17×(Dq5×Unit)) :=
 bif (iEq (lenI a0.1) 0) then some ((([]:List UInt8),()),(((a0.1,true,a0.2.2):Dq5),())) else
 bif inB 0 (List.length a0.1) then
  bif inS 1 ((List.length a0.1:Nat):Int) (List.length a0.1) then some (((List.getD a0.1 0 ([]:List UInt8)),()),(((List.take ((List.length a0.1)-1) (List.drop 1 a0.1),a0.2):Dq5),())) else none
 else none
def qcq:Entry:=⟨⟨[.io (.pair (.rows (.str)) (.val Uq9))],[.v (.val (.str))],false⟩,fun x=>qbi x.1⟩
theorem qd2:Sound Tryz.prog G 67 qcq:=qab (envS (l:=[]) trivial) [] Tryz.func67 (by kernel_rfl) rfl fun _=>by kernel_rfl
theorem qnu (tb:GTab Tryz.prog G):Sound Tryz.prog G 111 qfb:=qaaw Tryz.func111 (by kernel_rfl) (by kernel_rfl) tb Tryz.strconv_FormatInt_10
def qa0 (a0:Int):Option Dq10 :=
 (qbp a0 (10:Int)).bind fun y70 =>
 some ((y70.1.1,()),())
def qdd:Entry:=⟨⟨[.v (.int .i64)],[.v (.val (.str))],false⟩,fun x=>qa0 x.1⟩
theorem qeo (tb:GTab Tryz.prog G):Sound Tryz.prog G 70 qdd:=qab (envS (l:=[(111,qfb)]) ⟨(qnu tb),trivial⟩) [] Tryz.func70 (by kernel_rfl) rfl fun _=>by kernel_rfl
theorem qwv (sy:GErr 1 G) (ra:GErr 2 G):Sound Tryz.prog G 110 strconv_ParseInt_en:=qac7 Tryz.func110 (by kernel_rfl) (by kernel_rfl) sy ra Tryz.strconv_ParseInt_10_at64_ok (fun s hl h1 h2 ev w he hev=>(Tryz.strconv_ParseInt_10_at64_syntax s hl h1 h2 ev w he hev).mono fun e w' ⟨N,h1,_,_,h2⟩=>⟨N,h1,h2⟩) (fun s hl h ev w he hev=>(Tryz.strconv_ParseInt_10_at64_range s hl h ev w he hev).mono fun e w' ⟨N,h1,_,_,h2⟩=>⟨N,h1,h2⟩)
def qac (a0:Dq5):Option ((Int×Unit)×(Dq5×Unit)) :=
 (qbi ((a0.1,a0.2):Dq5)).bind fun y63 =>
 (qc7 y63.1.1 (10:Int) (64:Int)).bind fun y64 =>
 bif y63.2.1.2.1 then some ((y64.1.1,()),(((y63.2.1.1,true,y63.2.1.2.2):Dq5),())) else
 bif (! y64.1.2.1) then some ((y64.1.1,()),(((y63.2.1.1,true,y63.2.1.2.2):Dq5),())) else
 (qa0 y64.1.1).bind fun y66 =>
 some ((y64.1.1,()),(((y63.2.1.1,(! (sEq y66.1.1 y63.1.1)),y63.2.1.2.2):Dq5),()))
def qc0:Entry:=⟨⟨[.io (.pair (.rows (.str)) (.val Uq9))],[.v (.val (.int .i64))],false⟩,fun x=>qac x.1⟩
theorem qet (tb:GTab Tryz.prog G) (sy:GErr 1 G) (ra:GErr 2 G):Sound Tryz.prog G 68 qc0:=qab (envS (l:=[(67,qcq),(70,qdd),(110,strconv_ParseInt_en)]) ⟨(qd2),(qeo tb),(qwv sy ra),trivial⟩) [] Tryz.func68 (by kernel_rfl) rfl fun _=>by kernel_rfl
def qbb (a0:Dq5) (a1:List UInt8):Option ((Unit)×(Dq5×Unit)) :=
 (qbi ((a0.1,a0.2):Dq5)).bind fun y71 =>
 bif (! (sEq y71.1.1 a1)) then some ((),(((y71.2.1.1,true,y71.2.1.2.2):Dq5),())) else some ((),(((y71.2.1.1,y71.2.1.2.1,y71.2.1.2.2):Dq5),()))
def qf4:Entry:=⟨⟨[.io (.pair (.rows (.str)) (.val Uq9)),.v (.str)],[],false⟩,fun x=>qbb x.1 x.2.1⟩
theorem qko:Sound Tryz.prog G 115 qf4:=qab (envS (l:=[(67,qcq)]) ⟨(qd2),trivial⟩) [] Tryz.func115 (by kernel_rfl) rfl fun _=>by kernel_rfl
def qkh (a0:Nat):Option Dq7 :=
 some (((! (fEq .f32 a0 a0)),()),())
def qpw:Entry:=⟨⟨[.v (.flt .f32)],[.v (.val (.bool))],false⟩,fun x=>qkh x.1⟩
theorem qv0:Sound Tryz.prog G 161 qpw:=qab (envS (l:=[]) trivial) [] Tryz.func161 (by kernel_rfl) rfl fun _=>by kernel_rfl
def qa6 (a0:Nat) (a1:Nat):Option Dq7 :=
 (qkh a0).bind fun y82 =>
 bif y82.1.1 then
  (qkh a1).bind fun y83 =>
  bif y83.1.1 then some ((true,()),()) else
  allSame fun (q84:Nat) =>
  allSame fun (q86:Nat) =>
  some (((iEq (bitsF .f32 a0 q84) (bitsF .f32 a1 q86)),()),())
 else
 allSame fun (q89:Nat) =>
 allSame fun (q91:Nat) =>
 some (((iEq (bitsF .f32 a0 q89) (bitsF .f32 a1 q91)),()),())
def qdb:Entry:=⟨⟨[.v (.flt .f32),.v (.flt .f32)],[.v (.val (.bool))],false⟩,fun x=>qa6 x.1 x.2.1⟩
theorem qeg:Sound Tryz.prog G 141 qdb:=qab (envS (l:=[(161,qpw)]) ⟨(qv0),trivial⟩) [] Tryz.func141 (by kernel_rfl) rfl fun _=>by kernel_rfl
def qmq (a0:(Vec 3 Nat)) (a1:(Vec 3 Nat)):Option Dq7 :=
 (qa6 (Vec.getD 3 a0 0 (0:Nat)) (Vec.getD 3 a1 0 (0:Nat))).bind fun y102 =>
 bif (! y102.1.1) then some ((false,()),()) else
 (qa6 (Vec.getD 3 a0 1 (0:Nat)) (Vec.getD 3 a1 1 (0:Nat))).bind fun y106 =>
 bif (! y106.1.1) then some ((false,()),()) else
 (qa6 (Vec.getD 3 a0 2 (0:Nat)) (Vec.getD 3 a1 2 (0:Nat))).bind fun y110 =>
 bif (! y110.1.1) then some ((false,()),()) else some ((true,()),())
def qse:Entry:=⟨⟨[.v (.arr 3 (.flt .f32)),.v (.arr 3 (.flt .f32))],[.v (.val (.bool))],false⟩,fun x=>qmq x.1 x.2.1⟩
theorem qaa4:Sound Tryz.prog G 171 qse:=qab (envS (l:=[(141,qdb)]) ⟨(qeg),trivial⟩) [(2,.unroll 4)] Tryz.func171 (by kernel_rfl) rfl fun _=>by kernel_rfl
def qit (a0:Dq2) (a1:Dq2):Option Dq7 :=
 bif (iEq (Vec.getD 3 a0.1 0 (0:Int)) (Vec.getD 3 a1.1 0 (0:Int))&&(iEq (Vec.getD 3 a0.1 1 (0:Int)) (Vec.getD 3 a1.1 1 (0:Int))&&(iEq (Vec.getD 3 a0.1 2 (0:Int)) (Vec.getD 3 a1.1 2 (0:Int))&&true))) then
  (qmq a0.2.1 a1.2.1).bind fun y96 =>
  bif y96.1.1 then
   (qa6 a0.2.2.1 a1.2.2.1).bind fun y97 =>
   bif y97.1.1 then
    bif (iEq a0.2.2.2.1 a1.2.2.2.1) then
     some (((iEq a0.2.2.2.2.1 a1.2.2.2.2.1),()),())
    else some ((false,()),())
   else some ((false,()),())
  else some ((false,()),())
 else some ((false,()),())
def qri:Entry:=⟨⟨[.v Uq1,.v Uq1],[.v (.val (.bool))],false⟩,fun x=>qit x.1 x.2.1⟩
theorem qz2:Sound Tryz.prog G 143 qri:=qab (envS (l:=[(141,qdb),(171,qse)]) ⟨(qeg),(qaa4),trivial⟩) [] Tryz.func143 (by kernel_rfl) rfl fun _=>by kernel_rfl
def qd0 (a0:(List Dq2)) (a1:(List Dq2)) (a2:((Dq2×Dq2×Unit)→Option Bool)) (s113:(Int×Unit)):Option ((Int×Unit)⊕Dq7) :=
 bif (iLt s113.1 (lenI a0)) then
  bif inB s113.1 (List.length a0) then
   bif inB s113.1 (List.length a1) then
    (a2 ((List.getD a0 s113.1.toNat Lq1),(List.getD a1 s113.1.toNat Lq1),())).bind fun y117 =>
    bif (! y117) then
     Option.map Sum.inr (some ((false,()),()))
    else
    some (Sum.inl ((iAdd .i64 s113.1 1),()))
   else none
  else none
 else
 Option.map Sum.inr (some ((true,()),()))
def qb4 (a0:(List Dq2)) (a1:(List Dq2)) (a2:((Dq2×Dq2×Unit)→Option Bool)):Option Dq7 :=
 bif (! (iEq (lenI a0) (lenI a1))) then some ((false,()),()) else run (qd0 a0 a1 a2) ((0:Int),())
def qg9:Entry:=⟨⟨[.v (.list Uq1),.v (.list Uq1),.fn ⟨[.pair (.arr 3 (.int .i32)) Uq8,.pair (.arr 3 (.int .i32)) Uq8],.bool⟩],[.v (.val (.bool))],false⟩,fun x=>qb4 x.1 x.2.1 x.2.2.1⟩
theorem qnw:Sound Tryz.prog G 142 qg9:=qab (envS (l:=[]) trivial) [(4,.vary [(17,.sc (.int .i64))])] Tryz.func142 (by kernel_rfl) rfl fun _=>by kernel_rfl
def qmp (a0:Dq3) (a1:Dq3):Option Dq7 :=
 (qa6 a0.1 a1.1).bind fun y79 =>
 bif y79.1.1 then
  (qb4 a0.2.1 a1.2.1 (fun (z80:(Dq2×Dq2×Unit))=>(qit z80.1 z80.2.1).map fun y=>y.1.1)).bind fun y81 =>
  some ((y81.1.1,()),())
 else some ((false,()),())
def qsd:Entry:=⟨⟨[.v Uq5,.v Uq5],[.v (.val (.bool))],false⟩,fun x=>qmp x.1 x.2.1⟩
theorem qaa2:Sound Tryz.prog G 103 qsd:=qab (envS (l:=[(141,qdb),(142,qg9),(143,qri)]) ⟨(qeg),(qnw),(qz2),trivial⟩) [] Tryz.func103 (by kernel_rfl) rfl fun _=>by kernel_rfl
def qe9 (a0:Dq6) (a1:Dq3):Option Dq7 :=
 (qmp a0.1 a1).bind fun y77 =>
 some (((! y77.1.1),()),())
def qkp:Entry:=⟨⟨[.v Uq3,.ro Uq5],[.v (.val (.bool))],false⟩,fun x=>qe9 x.1 x.2.1⟩
theorem qr3:Sound Tryz.prog G 102 qkp:=qab (envS (l:=[(103,qsd)]) ⟨(qaa2),trivial⟩) [] Tryz.func102 (by kernel_rfl) rfl fun _=>by kernel_rfl
def qd1 (a0:(List Dq6)) (a1:((Dq6×Unit)→Option Bool)) (s122:(Int×Unit)):Option ((Int×Unit)⊕Dq12) :=
 bif (iLt s122.1 (lenI a0)) then
  bif inB s122.1 (List.length a0) then
   (a1 ((List.getD a0 s122.1.toNat Lq3),())).bind fun y125 =>
   bif y125 then
    Option.map Sum.inr (some ((s122.1,()),()))
   else
   some (Sum.inl ((iAdd .i64 s122.1 1),()))
  else none
 else
 Option.map Sum.inr (some ((Lq6,()),()))
def qc2 (a0:(List Dq6)) (a1:((Dq6×Unit)→Option Bool)):Option Dq12 :=
 run (qd1 a0 a1) ((0:Int),())
def qha:Entry:=⟨⟨[.v (.list Uq3),.fn ⟨[.pair Uq5 (.pair (.int .i64) (.unit))],.bool⟩],[.v (.val (.int .i64))],false⟩,fun x=>qc2 x.1 x.2.1⟩
theorem qny:Sound Tryz.prog G 140 qha:=qab (envS (l:=[]) trivial) [(2,.vary [(8,.sc (.int .i64))])] Tryz.func140 (by kernel_rfl) rfl fun _=>by kernel_rfl
def qbn (a0:(List Dq6)) (a1:((Dq6×Unit)→Option Bool)):Option Dq7 :=
 (qc2 a0 a1).bind fun y120 =>
 some (((iLe 0 y120.1.1),()),())
def qfw:Entry:=⟨⟨[.v (.list Uq3),.fn ⟨[.pair Uq5 (.pair (.int .i64) (.unit))],.bool⟩],[.v (.val (.bool))],false⟩,fun x=>qbn x.1 x.2.1⟩
theorem ql4:Sound Tryz.prog G 101 qfw:=qab (envS (l:=[(140,qha)]) ⟨(qny),trivial⟩) [] Tryz.func101 (by kernel_rfl) rfl fun _=>by kernel_rfl
def qei (a0:Dq1):Option ((Bool×Unit)×(Dq1×Unit)) :=
 bif inB 0 (List.length a0.2.1.1) then
  (qbn a0.2.1.1 (fun (z74:(Dq6×Unit))=>(qe9 z74.1 ((List.getD a0.2.1.1 0 Lq3).1)).map fun y=>y.1.1)).bind fun y75 =>
  some (((! y75.1.1),()),(((a0.1,(a0.2.1.1,a0.2.1.2.1,a0.2.1.2.2.1,a0.2.1.2.2.2),a0.2.2):Dq1),()))
 else none
def qma:Entry:=⟨⟨[.io (.pair (.val Uq2) (.pair (.pair (.rows Uq3) (.pair (.rows Uq3) (.pair (.rows Uq6) (.val (.unit))))) (.val (.unit))))],[.v (.val (.bool))],true⟩,fun x=>qei x.1⟩
theorem qua:Sound Tryz.prog G 53 qma:=qab (envS (l:=[(101,qfw),(102,qkp)]) ⟨(ql4),(qr3),trivial⟩) [] Tryz.func53 (by kernel_rfl) rfl fun _=>by kernel_rfl
def qa3 (a0:Int) (a1:Int) (a2:Int):Option Dq7 :=
 bif (iLe a1 a0) then
  some (((iLe a0 a2),()),())
 else some ((false,()),())
def qcn:Entry:=⟨⟨[.v (.int .i64),.v (.int .i64),.v (.int .i64)],[.v (.val (.bool))],false⟩,fun x=>qa3 x.1 x.2.1 x.2.2.1⟩
theorem qdg:Sound Tryz.prog G 50 qcn:=qab (envS (l:=[]) trivial) [] Tryz.func50 (by kernel_rfl) rfl fun _=>by kernel_rfl
def qa7 (a0:Dq1) (a1:Int):Option ((Bool×Unit)×(Dq1×Unit)) :=
 (qa3 a1 (0:Int) (iSub .i64 (lenI a0.2.1.1) 1)).bind fun y162 =>
 some ((y162.1.1,()),(((a0.1,(a0.2.1.1,a0.2.1.2.1,a0.2.1.2.2.1,a0.2.1.2.2.2),a0.2.2):Dq1),()))
def qgi:Entry:=⟨⟨[.io (.pair (.val Uq2) (.pair (.pair (.rows Uq3) (.pair (.rows Uq3) (.pair (.rows Uq6) (.val (.unit))))) (.val (.unit)))),.v (.int .i64)],[.v (.val (.bool))],true⟩,fun x=>qa7 x.1 x.2.1⟩
theorem qjx:Sound Tryz.prog G 54 qgi:=qab (envS (l:=[(50,qcn)]) ⟨(qdg),trivial⟩) [] Tryz.func54 (by kernel_rfl) rfl fun _=>by kernel_rfl
def cmp_isNaN_int32 (a0:Int):Option Dq7 :=
 some (((! (iEq a0 a0)),()),())
def cmp_isNaN_int32_en:Entry:=⟨⟨[.v (.int .i32)],[.v (.val (.bool))],false⟩,fun x=>cmp_isNaN_int32 x.1⟩
theorem qw1:Sound Tryz.prog G 269 cmp_isNaN_int32_en:=qab (envS (l:=[]) trivial) [] Tryz.func269 (by kernel_rfl) rfl fun _=>by kernel_rfl
def cmp_Compare_int32 (a0:Int) (a1:Int):Option Dq12 :=
 (cmp_isNaN_int32 a0).bind fun y207 =>
 (cmp_isNaN_int32 a1).bind fun y208 =>
 bif y207.1.1 then
  bif y208.1.1 then some (((0:Int),()),()) else some ((Lq6,()),())
 else
 bif y208.1.1 then some (((1:Int),()),()) else
 bif (iLt a0 a1) then some ((Lq6,()),()) else
 bif (iLt a1 a0) then some (((1:Int),()),()) else some (((0:Int),()),())
def cmp_Compare_int32_en:Entry:=⟨⟨[.v (.int .i32),.v (.int .i32)],[.v (.val (.int .i64))],false⟩,fun x=>cmp_Compare_int32 x.1 x.2.1⟩
theorem qu6:Sound Tryz.prog G 255 cmp_Compare_int32_en:=qab (envS (l:=[(269,cmp_isNaN_int32_en)]) ⟨(qw1),trivial⟩) [] Tryz.func255 (by kernel_rfl) rfl fun _=>by kernel_rfl
def qb1 (a0:(List Int)) (a1:(List Int)) (s198:(Int×Unit)):Option ((Int×Unit)⊕Dq12) :=
 bif (iLt s198.1 (lenI a0)) then
  bif inB s198.1 (List.length a0) then
   bif (iLe (lenI a1) s198.1) then
    Option.map Sum.inr (some (((1:Int),()),()))
   else
   bif inB s198.1 (List.length a1) then
    (cmp_Compare_int32 (List.getD a0 s198.1.toNat (0:Int)) (List.getD a1 s198.1.toNat (0:Int))).bind fun y203 =>
    bif (! (iEq y203.1.1 0)) then
     Option.map Sum.inr (some ((y203.1.1,()),()))
    else
    some (Sum.inl ((iAdd .i64 s198.1 1),()))
   else none
  else none
 else
 Option.map Sum.inr (bif (iLt (lenI a0) (lenI a1)) then some ((Lq6,()),()) else some (((0:Int),()),()))
def qin (a0:(List Int)) (a1:(List Int)):Option Dq12 :=
 run (qb1 a0 a1) ((0:Int),())
def qkr:Entry:=⟨⟨[.v (.list (.int .i32)),.v (.list (.int .i32))],[.v (.val (.int .i64))],false⟩,fun x=>qin x.1 x.2.1⟩
theorem qr5:Sound Tryz.prog G 230 qkr:=qab (envS (l:=[(255,cmp_Compare_int32_en)]) ⟨(qu6),trivial⟩) [(2,.vary [(11,.sc (.int .i64))])] Tryz.func230 (by kernel_rfl) rfl fun _=>by kernel_rfl
def qeh (a0:(Vec 3 Int)) (a1:(Vec 3 Int)):Option Dq12 :=
 (qin ([Vec.getD 3 a0 0 (0:Int),Vec.getD 3 a0 1 (0:Int),Vec.getD 3 a0 2 (0:Int)]:(List Int)) ([Vec.getD 3 a1 0 (0:Int),Vec.getD 3 a1 1 (0:Int),Vec.getD 3 a1 2 (0:Int)]:(List Int))).bind fun y197 =>
 some ((y197.1.1,()),())
def qhg:Entry:=⟨⟨[.v (.arr 3 (.int .i32)),.v (.arr 3 (.int .i32))],[.v (.val (.int .i64))],false⟩,fun x=>qeh x.1 x.2.1⟩
theorem ql8:Sound Tryz.prog G 196 qhg:=qab (envS (l:=[(230,qkr)]) ⟨(qr5),trivial⟩) [] Tryz.func196 (by kernel_rfl) rfl fun _=>by kernel_rfl
def qlv (a0:(List Nat)) (s214:(Int×Unit)):Option ((Int×Unit)⊕Dq7) :=
 bif (iLt s214.1 (lenI a0)) then
  bif inB s214.1 (List.length a0) then
   let x216:=List.getD a0 s214.1.toNat (0:Nat)
   bif (! (fEq .f32 (fSub .f32 x216 x216) 0)) then
    Option.map Sum.inr (some ((false,()),()))
   else
   some (Sum.inl ((iAdd .i64 s214.1 1),()))
  else none
 else
 Option.map Sum.inr (some ((true,()),()))
def qcz (a0:(List Nat)):Option Dq7 :=
 run (qlv a0) ((0:Int),())
def qfp:Entry:=⟨⟨[.v (.list (.flt .f32))],[.v (.val (.bool))],false⟩,fun x=>qcz x.1⟩
theorem qif:Sound Tryz.prog G 95 qfp:=qab (envS (l:=[]) trivial) [(2,.vary [(7,.sc (.int .i64))])] Tryz.func95 (by kernel_rfl) rfl fun _=>by kernel_rfl
def qec (a0:Nat):Option Dq7 :=
 (qcz ([a0]:(List Nat))).bind fun y212 =>
 bif y212.1.1 then
  some (((fLt .f32 0 a0),()),())
 else some ((false,()),())
def qfj:Entry:=⟨⟨[.v (.flt .f32)],[.v (.val (.bool))],false⟩,fun x=>qec x.1⟩
theorem qhj:Sound Tryz.prog G 48 qfj:=qab (envS (l:=[(95,qfp)]) ⟨(qif),trivial⟩) [] Tryz.func48 (by kernel_rfl) rfl fun _=>by kernel_rfl
def qfo (a0:(Vec 3 Nat)):Option Dq7 :=
 (qcz ([Vec.getD 3 a0 0 (0:Nat),Vec.getD 3 a0 1 (0:Nat),Vec.getD 3 a0 2 (0:Nat)]:(List Nat))).bind fun y224 =>
 some ((y224.1.1,()),())
def qi7:Entry:=⟨⟨[.v (.arr 3 (.flt .f32))],[.v (.val (.bool))],false⟩,fun x=>qfo x.1⟩
theorem qn0:Sound Tryz.prog G 98 qi7:=qab (envS (l:=[(95,qfp)]) ⟨(qif),trivial⟩) [] Tryz.func98 (by kernel_rfl) rfl fun _=>by kernel_rfl
def qi4 (a0:Int):Option Dq7 :=
 (qa3 a0 (0:Int) (1000000000:Int)).bind fun y225 =>
 some ((y225.1.1,()),())
def qki:Entry:=⟨⟨[.v (.int .i64)],[.v (.val (.bool))],false⟩,fun x=>qi4 x.1⟩
theorem qok:Sound Tryz.prog G 52 qki:=qab (envS (l:=[(50,qcn)]) ⟨(qdg),trivial⟩) [] Tryz.func52 (by kernel_rfl) rfl fun _=>by kernel_rfl
def qfk (a0:Dq2):Option Dq7 :=
 (qfo a0.2.1).bind fun y220 =>
 bif y220.1.1 then
  (qec a0.2.2.1).bind fun y221 =>
  bif y221.1.1 then
   (qa3 a0.2.2.2.1 (1:Int) (1000000:Int)).bind fun y222 =>
   bif y222.1.1 then
    (qi4 a0.2.2.2.2.1).bind fun y223 =>
    some ((y223.1.1,()),())
   else some ((false,()),())
  else some ((false,()),())
 else some ((false,()),())
def qkw:Entry:=⟨⟨[.v Uq1],[.v (.val (.bool))],false⟩,fun x=>qfk x.1⟩
theorem qqh:Sound Tryz.prog G 195 qkw:=qab (envS (l:=[(48,qfj),(50,qcn),(52,qki),(98,qi7)]) ⟨(qhj),(qdg),(qok),(qn0),trivial⟩) [] Tryz.func195 (by kernel_rfl) rfl fun _=>by kernel_rfl
def qic (a0:Dq3) (s185:(Int×Unit)):Option ((Int×Unit)⊕Dq7) :=
 bif (iLt s185.1 (lenI a0.2.1)) then
  bif inB s185.1 (List.length a0.2.1) then
   let x187:=List.getD a0.2.1 s185.1.toNat Lq1
   (qfk x187).bind fun y188 =>
   bif (! y188.1.1) then
    Option.map Sum.inr (some ((false,()),()))
   else
   bif (iLt 0 s185.1) then
    let x191:=iSub .i64 s185.1 1
    bif inB x191 (List.length a0.2.1) then
     (qeh x187.1 ((List.getD a0.2.1 x191.toNat Lq1).1)).bind fun y193 =>
     bif (iLe y193.1.1 0) then
      Option.map Sum.inr (some ((false,()),()))
     else
     some (Sum.inl ((iAdd .i64 s185.1 1),()))
    else none
   else
   some (Sum.inl ((iAdd .i64 s185.1 1),()))
  else none
 else
 Option.map Sum.inr (some ((true,()),()))
def qes (a0:Dq3):Option Dq7 :=
 (qec a0.1).bind fun y182 =>
 bif (! y182.1.1) then some ((false,()),()) else
 bif (iLt 200 (lenI a0.2.1)) then some ((false,()),()) else run (qic a0) ((0:Int),())
def qib:Entry:=⟨⟨[.v Uq5],[.v (.val (.bool))],false⟩,fun x=>qes x.1⟩
theorem qlu:Sound Tryz.prog G 159 qib:=qab (envS (l:=[(48,qfj),(195,qkw),(196,qhg)]) ⟨(qhj),(qqh),(ql8),trivial⟩) [(4,.vary [(18,.sc (.int .i64))])] Tryz.func159 (by kernel_rfl) rfl fun _=>by kernel_rfl
def qca (a0:Dq2) (a1:(Vec 3 Int)):Option Dq12 :=
 (qeh a0.1 a1).bind fun y334 =>
 some ((y334.1.1,()),())
def qk3:Entry:=⟨⟨[.v Uq1,.v (.arr 3 (.int .i32))],[.v (.val (.int .i64))],false⟩,fun x=>qca x.1 x.2.1⟩
theorem qtq:Sound Tryz.prog G 259 qk3:=qab (envS (l:=[(196,qhg)]) ⟨(ql8),trivial⟩) [] Tryz.func259 (by kernel_rfl) rfl fun _=>by kernel_rfl
def qcd (a0:(List Dq2)) (a2:((Dq2×(Vec 3 Int)×Unit)→Option Int)) (a1:(Vec 3 Int)) (s335:Dq19):Option (Dq19⊕Dq14) :=
 bif (iLt s335.1 s335.2.1) then
  let x340:=iWrap .i64 (iShr .u64 (iWrap .u64 (iAdd .i64 s335.1 s335.2.1)) 1)
  bif inB x340 (List.length a0) then
   (a2 ((List.getD a0 x340.toNat Lq1),a1,())).bind fun y342 =>
   bif (iLt y342 0) then
    some (Sum.inl ((iAdd .i64 x340 1),s335.2.1,()))
   else some (Sum.inl (s335.1,x340,()))
  else none
 else
 Option.map Sum.inr (
  bif (iLt s335.1 (lenI a0)) then
   bif inB s335.1 (List.length a0) then
    (a2 ((List.getD a0 s335.1.toNat Lq1),a1,())).bind fun y347 =>
    some ((s335.1,(iEq y347 0),()),())
   else none
  else some ((s335.1,false,()),()))
def qa9 (a0:(List Dq2)) (a1:(Vec 3 Int)) (a2:((Dq2×(Vec 3 Int)×Unit)→Option Int)):Option Dq14 :=
 run (qcd a0 a2 a1) ((0:Int),lenI a0,())
def qeb:Entry:=⟨⟨[.v (.list Uq1),.v (.arr 3 (.int .i32)),.fn ⟨[.pair (.arr 3 (.int .i32)) Uq8,.arr 3 (.int .i32)],.int .i64⟩],[.v (.val (.int .i64)),.v (.val (.bool))],false⟩,fun x=>qa9 x.1 x.2.1 x.2.2.1⟩
theorem qjn:Sound Tryz.prog G 258 qeb:=qab (envS (l:=[]) trivial) [(3,.vary [(9,.sc (.int .i64)),(10,.sc (.int .i64))])] Tryz.func258 (by kernel_rfl) rfl fun _=>by kernel_rfl
def qe2 (a0:Dq3) (a1:(Vec 3 Int)):Option Dq14 :=
 (qa9 a0.2.1 a1 (fun (z332:(Dq2×(Vec 3 Int)×Unit))=>(qca z332.1 z332.2.1).map fun y=>y.1.1)).bind fun y333 =>
 some ((y333.1.1,y333.1.2.1,()),())
def qmm:Entry:=⟨⟨[.v Uq5,.v (.arr 3 (.int .i32))],[.v (.val (.int .i64)),.v (.val (.bool))],false⟩,fun x=>qe2 x.1 x.2.1⟩
theorem qvh:Sound Tryz.prog G 233 qmm:=qab (envS (l:=[(258,qeb),(259,qk3)]) ⟨(qjn),(qtq),trivial⟩) [] Tryz.func233 (by kernel_rfl) rfl fun _=>by kernel_rfl
def qft (a0:Nat):Option Dq7 :=
 allSame fun (q401:Nat) =>
 some (((iLt (iWrap .i64 (bitsF .f64 a0 q401)) 0),()),())
def qsv:Entry:=⟨⟨[.v (.flt .f64)],[.v (.val (.bool))],false⟩,fun x=>qft x.1⟩
theorem qaby:Sound Tryz.prog G 260 qsv:=qab (envS (l:=[]) trivial) [] Tryz.func260 (by kernel_rfl) rfl fun _=>by kernel_rfl
def qi9 (a0:Dq2) (a1:Dq2):Option Dq7 :=
 (qfk a0).bind fun y349 =>
 bif (! y349.1.1) then some ((false,()),()) else
 (qfk a1).bind fun y351 =>
 bif (! y351.1.1) then some ((false,()),()) else
 bif (! (iEq a0.2.2.2.2.1 a1.2.2.2.2.1)) then
  some (((iLt a1.2.2.2.2.1 a0.2.2.2.2.1),()),())
 else
 bif (! (fEq .f32 a0.2.2.1 a1.2.2.1)) then
  some (((fLt .f32 a1.2.2.1 a0.2.2.1),()),())
 else
 bif (! (iEq a0.2.2.2.1 a1.2.2.2.1)) then
  some (((iLt a1.2.2.2.1 a0.2.2.2.1),()),())
 else
 (qa6 (Vec.getD 3 a0.2.1 0 (0:Nat)) (Vec.getD 3 a1.2.1 0 (0:Nat))).bind fun y361 =>
 bif (! y361.1.1) then
  bif (fLt .f32 (Vec.getD 3 a1.2.1 0 (0:Nat)) (Vec.getD 3 a0.2.1 0 (0:Nat))) then some ((true,()),()) else
  bif (fEq .f32 (Vec.getD 3 a0.2.1 0 (0:Nat)) (Vec.getD 3 a1.2.1 0 (0:Nat))) then
   (fConv .f32 .f64 (Vec.getD 3 a0.2.1 0 (0:Nat))).bind fun y370 =>
   (qft y370).bind fun y371 =>
   some (((! y371.1.1),()),())
  else some ((false,()),())
 else
 (qa6 (Vec.getD 3 a0.2.1 1 (0:Nat)) (Vec.getD 3 a1.2.1 1 (0:Nat))).bind fun y375 =>
 bif (! y375.1.1) then
  bif (fLt .f32 (Vec.getD 3 a1.2.1 1 (0:Nat)) (Vec.getD 3 a0.2.1 1 (0:Nat))) then some ((true,()),()) else
  bif (fEq .f32 (Vec.getD 3 a0.2.1 1 (0:Nat)) (Vec.getD 3 a1.2.1 1 (0:Nat))) then
   (fConv .f32 .f64 (Vec.getD 3 a0.2.1 1 (0:Nat))).bind fun y384 =>
   (qft y384).bind fun y385 =>
   some (((! y385.1.1),()),())
  else some ((false,()),())
 else
 (qa6 (Vec.getD 3 a0.2.1 2 (0:Nat)) (Vec.getD 3 a1.2.1 2 (0:Nat))).bind fun y389 =>
 bif (! y389.1.1) then
  bif (fLt .f32 (Vec.getD 3 a1.2.1 2 (0:Nat)) (Vec.getD 3 a0.2.1 2 (0:Nat))) then some ((true,()),()) else
  bif (fEq .f32 (Vec.getD 3 a0.2.1 2 (0:Nat)) (Vec.getD 3 a1.2.1 2 (0:Nat))) then
   (fConv .f32 .f64 (Vec.getD 3 a0.2.1 2 (0:Nat))).bind fun y398 =>
   (qft y398).bind fun y399 =>
   some (((! y399.1.1),()),())
  else some ((false,()),())
 else some ((false,()),())
def qpg:Entry:=⟨⟨[.v Uq1,.v Uq1],[.v (.val (.bool))],false⟩,fun x=>qi9 x.1 x.2.1⟩
theorem qxc:Sound Tryz.prog G 234 qpg:=qab (envS (l:=[(141,qdb),(195,qkw),(260,qsv)]) ⟨(qeg),(qqh),(qaby),trivial⟩) [(10,.unroll 4)] Tryz.func234 (by kernel_rfl) rfl fun _=>by kernel_rfl
theorem qp4:Sound Tryz.prog G 235 qix:=qaoj
def qa4 (a0:Dq3) (a1:Dq2):Option ((Bool×Unit)×(Dq3×Unit)) :=
 (qe2 ((a0.1,a0.2.1,a0.2.2):Dq3) a1.1).bind fun y325 =>
 bif y325.1.2.1 then
  bif inB y325.1.1 (List.length a0.2.1) then
   (qi9 a1 (List.getD a0.2.1 y325.1.1.toNat Lq1)).bind fun y327 =>
   bif y327.1.1 then
    bif inB y325.1.1 (List.length a0.2.1) then some ((true,()),(((a0.1,List.set a0.2.1 y325.1.1.toNat a1,a0.2.2):Dq3),())) else none
   else
   bif y325.1.2.1 then some ((true,()),(((a0.1,a0.2.1,a0.2.2):Dq3),())) else
   bif (iEq (lenI a0.2.1) 200) then some ((false,()),(((a0.1,a0.2.1,a0.2.2):Dq3),())) else
   (qd4 a0.2.1 y325.1.1 ([a1]:(List Dq2))).bind fun y329 =>
   some ((true,()),(((a0.1,y329.1.1,a0.2.2):Dq3),()))
  else none
 else
 bif y325.1.2.1 then some ((true,()),(((a0.1,a0.2.1,a0.2.2):Dq3),())) else
 bif (iEq (lenI a0.2.1) 200) then some ((false,()),(((a0.1,a0.2.1,a0.2.2):Dq3),())) else
 (qd4 a0.2.1 y325.1.1 ([a1]:(List Dq2))).bind fun y331 =>
 some ((true,()),(((a0.1,y331.1.1,a0.2.2):Dq3),()))
def qi8:Entry:=⟨⟨[.io (.pair (.val (.flt .f32)) (.pair (.rows Uq1) (.val (.unit)))),.v Uq1],[.v (.val (.bool))],false⟩,fun x=>qa4 x.1 x.2.1⟩
theorem qn1:Sound Tryz.prog G 199 qi8:=qab (envS (l:=[(233,qmm),(234,qpg),(235,qix)]) ⟨(qvh),(qxc),(qp4),trivial⟩) [] Tryz.func199 (by kernel_rfl) rfl fun _=>by kernel_rfl
theorem qr4:Sound Tryz.prog G 138 qf5:=qpy Tryz.func138 (by kernel_rfl) (by kernel_rfl) (by kernel_rfl) (by kernel_rfl)
def ql1 (a0:Nat):Option Dq18 :=
 allSame fun (q430:Nat) =>
 (qm3 (iAndNot .u64 (bitsF .f64 a0 q430) 9223372036854775808)).bind fun y433 =>
 some ((y433.1.1,()),())
def qzf:Entry:=⟨⟨[.v (.flt .f64)],[.v (.val (.flt .f64))],false⟩,fun x=>ql1 x.1⟩
theorem qahm:Sound Tryz.prog G 100 qzf:=qab (envS (l:=[(138,qf5)]) ⟨(qr4),trivial⟩) [] Tryz.func100 (by kernel_rfl) rfl fun _=>by kernel_rfl
theorem qyv:Sound Tryz.prog G 136 qql:=qahv (name := "math.archFloor") Tryz.func136 (by kernel_rfl) (by kernel_rfl) (by kernel_rfl) (by kernel_rfl)
def qgn (a0:Nat):Option Dq18 :=
 (qud a0).bind fun y434 =>
 some ((y434.1.1,()),())
def qpz:Entry:=⟨⟨[.v (.flt .f64)],[.v (.val (.flt .f64))],false⟩,fun x=>qgn x.1⟩
theorem qv6:Sound Tryz.prog G 99 qpz:=qab (envS (l:=[(136,qql)]) ⟨(qyv),trivial⟩) [] Tryz.func99 (by kernel_rfl) rfl fun _=>by kernel_rfl
def qck (a0:Nat) (a1:(Vec 3 Nat)):Option Dq23 :=
 (qec a0).bind fun y405 =>
 bif (! y405.1.1) then some ((Lq2,(2:Int),()),()) else
 (qfo a1).bind fun y407 =>
 bif (! y407.1.1) then some ((Lq2,(2:Int),()),()) else
 (fConv .f32 .f64 (fDiv .f32 (Vec.getD 3 a1 0 (0:Nat)) a0)).bind fun y411 =>
 (qgn y411).bind fun y412 =>
 (ql1 y412.1.1).bind fun y413 =>
 bif (fLt .f64 4696837146684686336 y413.1.1) then some ((Lq2,(3:Int),()),()) else
 (fToInt .f64 y412.1.1 .i32).bind fun n415 =>
 (fConv .f32 .f64 (fDiv .f32 (Vec.getD 3 a1 1 (0:Nat)) a0)).bind fun y418 =>
 (qgn y418).bind fun y419 =>
 (ql1 y419.1.1).bind fun y420 =>
 bif (fLt .f64 4696837146684686336 y420.1.1) then some ((Lq2,(3:Int),()),()) else
 (fToInt .f64 y419.1.1 .i32).bind fun n422 =>
 (fConv .f32 .f64 (fDiv .f32 (Vec.getD 3 a1 2 (0:Nat)) a0)).bind fun y425 =>
 (qgn y425).bind fun y426 =>
 (ql1 y426.1.1).bind fun y427 =>
 bif (fLt .f64 4696837146684686336 y427.1.1) then some ((Lq2,(3:Int),()),()) else
 (fToInt .f64 y426.1.1 .i32).bind fun n429 =>
 some ((((n415,n422,n429,()):(Vec 3 Int)),(0:Int),()),())
def qkd:Entry:=⟨⟨[.v (.flt .f32),.v (.arr 3 (.flt .f32))],[.v (.val (.arr 3 (.int .i32))),.v (.val (.int .i64))],false⟩,fun x=>qck x.1 x.2.1⟩
theorem qoi:Sound Tryz.prog G 51 qkd:=qab (envS (l:=[(48,qfj),(98,qi7),(99,qpz),(100,qzf)]) ⟨(qhj),(qn0),(qv6),(qahm),trivial⟩) [(5,.unroll 4)] Tryz.func51 (by kernel_rfl) rfl fun _=>by kernel_rfl
def qiu (a0:(List Nat)) (a1:(List Nat)) (s458:(Nat×Int×Unit)):Option ((Nat×Int×Unit)⊕Dq18) :=
 bif (iLt s458.2.1 (lenI a0)) then
  bif inB s458.2.1 (List.length a0) then
   bif inB s458.2.1 (List.length a1) then
    let x462:=fMul .f32 (List.getD a0 s458.2.1.toNat (0:Nat)) (List.getD a1 s458.2.1.toNat (0:Nat))
    bif (iEq s458.2.1 0) then
     some (Sum.inl (x462,(iAdd .i64 s458.2.1 1),()))
    else
    some (Sum.inl ((fAdd .f32 s458.1 x462),(iAdd .i64 s458.2.1 1),()))
   else none
  else none
 else
 Option.map Sum.inr (some ((s458.1,()),()))
def qmw (a0:(List Nat)) (a1:(List Nat)):Option Dq18 :=
 run (qiu a0 a1) ((0:Nat),(0:Int),())
def qv1:Entry:=⟨⟨[.v (.list (.flt .f32)),.v (.list (.flt .f32))],[.v (.val (.flt .f32))],false⟩,fun x=>qmw x.1 x.2.1⟩
theorem qae6:Sound Tryz.prog G 275 qv1:=qab (envS (l:=[]) trivial) [(3,.vary [(5,.sc (.flt .f32)),(10,.sc (.int .i64))])] Tryz.func275 (by kernel_rfl) rfl fun _=>by kernel_rfl
def qo1 (a0:(Vec 3 Nat)) (a1:(Vec 3 Nat)):Option Dq18 :=
 (qmw ([Vec.getD 3 a0 0 (0:Nat),Vec.getD 3 a0 1 (0:Nat),Vec.getD 3 a0 2 (0:Nat)]:(List Nat)) ([Vec.getD 3 a1 0 (0:Nat),Vec.getD 3 a1 1 (0:Nat),Vec.getD 3 a1 2 (0:Nat)]:(List Nat))).bind fun y457 =>
 some ((y457.1.1,()),())
def qt7:Entry:=⟨⟨[.v (.arr 3 (.flt .f32)),.v (.arr 3 (.flt .f32))],[.v (.val (.flt .f32))],false⟩,fun x=>qo1 x.1 x.2.1⟩
theorem qac1:Sound Tryz.prog G 271 qt7:=qab (envS (l:=[(275,qv1)]) ⟨(qae6),trivial⟩) [] Tryz.func271 (by kernel_rfl) rfl fun _=>by kernel_rfl
theorem qagh:Sound Tryz.prog G 277 qrp:=qabz Tryz.func277 (by kernel_rfl) (by kernel_rfl) (by kernel_rfl) (by kernel_rfl)
def qsw (a0:Nat):Option Dq18 :=
 (qael a0).bind fun y470 =>
 some ((y470.1.1,()),())
def qro:Entry:=⟨⟨[.v (.flt .f64)],[.v (.val (.flt .f64))],false⟩,fun x=>qsw x.1⟩
theorem qxo:Sound Tryz.prog G 274 qro:=qab (envS (l:=[(277,qrp)]) ⟨(qagh),trivial⟩) [] Tryz.func274 (by kernel_rfl) rfl fun _=>by kernel_rfl
def qsn (a0:Nat):Option Dq18 :=
 (fConv .f32 .f64 a0).bind fun y467 =>
 (qsw y467).bind fun y468 =>
 (fConv .f64 .f32 y468.1.1).bind fun y469 =>
 some ((y469,()),())
def qxf:Entry:=⟨⟨[.v (.flt .f32)],[.v (.val (.flt .f32))],false⟩,fun x=>qsn x.1⟩
theorem qaga:Sound Tryz.prog G 270 qxf:=qab (envS (l:=[(274,qro)]) ⟨(qxo),trivial⟩) [] Tryz.func270 (by kernel_rfl) rfl fun _=>by kernel_rfl
def qf8 (a0:(Vec 3 Nat)):Option Dq18 :=
 (qo1 a0 a0).bind fun y455 =>
 (qsn y455.1.1).bind fun y456 =>
 some ((y456.1.1,()),())
def qrf:Entry:=⟨⟨[.v (.arr 3 (.flt .f32))],[.v (.val (.flt .f32))],false⟩,fun x=>qf8 x.1⟩
theorem qzy:Sound Tryz.prog G 256 qrf:=qab (envS (l:=[(270,qxf),(271,qt7)]) ⟨(qaga),(qac1),trivial⟩) [] Tryz.func256 (by kernel_rfl) rfl fun _=>by kernel_rfl
def qo2 (a0:(Vec 3 Nat)) (a1:(Vec 3 Nat)):Option (((Vec 3 Nat)×Unit)×Unit) :=
 let x473:=fSub .f32 (Vec.getD 3 a0 0 (0:Nat)) (Vec.getD 3 a1 0 (0:Nat))
 let x476:=fSub .f32 (Vec.getD 3 (Vec.set 3 a0 0 x473) 1 (0:Nat)) (Vec.getD 3 a1 1 (0:Nat))
 some (((Vec.set 3 (Vec.set 3 (Vec.set 3 a0 0 x473) 1 x476) 2 (fSub .f32 (Vec.getD 3 (Vec.set 3 (Vec.set 3 a0 0 x473) 1 x476) 2 (0:Nat)) (Vec.getD 3 a1 2 (0:Nat)))),()),())
def qt8:Entry:=⟨⟨[.v (.arr 3 (.flt .f32)),.v (.arr 3 (.flt .f32))],[.v (.val (.arr 3 (.flt .f32)))],false⟩,fun x=>qo2 x.1 x.2.1⟩
theorem qac2:Sound Tryz.prog G 257 qt8:=qab (envS (l:=[]) trivial) [(2,.unroll 4)] Tryz.func257 (by kernel_rfl) rfl fun _=>by kernel_rfl
def qhb (a0:Dq2) (a1:(Vec 3 Nat)):Option Dq18 :=
 (qo2 a0.2.1 a1).bind fun y453 =>
 (qf8 y453.1.1).bind fun y454 =>
 some ((y454.1.1,()),())
def qmn:Entry:=⟨⟨[.v Uq1,.v (.arr 3 (.flt .f32))],[.v (.val (.flt .f32))],false⟩,fun x=>qhb x.1 x.2.1⟩
theorem qvi:Sound Tryz.prog G 231 qmn:=qab (envS (l:=[(256,qrf),(257,qt8)]) ⟨(qzy),(qac2),trivial⟩) [] Tryz.func231 (by kernel_rfl) rfl fun _=>by kernel_rfl
def qjv (a0:(Vec 3 Int)) (a1:(Vec 3 Int)):Option Dq7 :=
 (qa3 (iSub .i64 (iWrap .i64 (Vec.getD 3 a0 0 (0:Int))) (iWrap .i64 (Vec.getD 3 a1 0 (0:Int)))) Lq6 (1:Int)).bind fun y486 =>
 bif (! y486.1.1) then some ((false,()),()) else
 (qa3 (iSub .i64 (iWrap .i64 (Vec.getD 3 a0 1 (0:Int))) (iWrap .i64 (Vec.getD 3 a1 1 (0:Int)))) Lq6 (1:Int)).bind fun y493 =>
 bif (! y493.1.1) then some ((false,()),()) else
 (qa3 (iSub .i64 (iWrap .i64 (Vec.getD 3 a0 2 (0:Int))) (iWrap .i64 (Vec.getD 3 a1 2 (0:Int)))) Lq6 (1:Int)).bind fun y500 =>
 bif (! y500.1.1) then some ((false,()),()) else some ((true,()),())
def qsg:Entry:=⟨⟨[.v (.arr 3 (.int .i32)),.v (.arr 3 (.int .i32))],[.v (.val (.bool))],false⟩,fun x=>qjv x.1 x.2.1⟩
theorem qaa7:Sound Tryz.prog G 232 qsg:=qab (envS (l:=[(50,qcn)]) ⟨(qdg),trivial⟩) [(2,.unroll 4)] Tryz.func232 (by kernel_rfl) rfl fun _=>by kernel_rfl
def qf3 (a0:Dq3) (a1:(Vec 3 Nat)) (y435:Dq23) (a2:Nat) (s439:(Int×Nat×Int×Unit)):Option ((Int×Nat×Int×Unit)⊕(Dq19×Unit)) :=
 bif (iLt s439.2.2.1 (lenI a0.2.1)) then
  bif inB s439.2.2.1 (List.length a0.2.1) then
   let x441:=List.getD a0.2.1 s439.2.2.1.toNat Lq1
   (qhb x441 a1).bind fun y442 =>
   (qjv x441.1 y435.1.1).bind fun y443 =>
   bif y443.1.1 then
    bif (fLe .f32 y442.1.1 a2) then
     bif (iLt s439.1 0) then
      some (Sum.inl (s439.2.2.1,y442.1.1,(iAdd .i64 s439.2.2.1 1),()))
     else
     bif (fLt .f32 y442.1.1 s439.2.1) then
      some (Sum.inl (s439.2.2.1,y442.1.1,(iAdd .i64 s439.2.2.1 1),()))
     else
     some (Sum.inl (s439.1,s439.2.1,(iAdd .i64 s439.2.2.1 1),()))
    else
    some (Sum.inl (s439.1,s439.2.1,(iAdd .i64 s439.2.2.1 1),()))
   else
   some (Sum.inl (s439.1,s439.2.1,(iAdd .i64 s439.2.2.1 1),()))
  else none
 else
 Option.map Sum.inr (bif (iLt s439.1 0) then some (((0:Int),(6:Int),()),()) else some ((s439.1,(0:Int),()),()))
def qc3 (a0:Dq3) (a1:(Vec 3 Nat)) (a2:Nat):Option (Dq19×Unit) :=
 (qck a0.1 a1).bind fun y435 =>
 bif (! (fLe .f32 0 a2)) then some (((0:Int),(2:Int),()),()) else
 bif (! (iEq y435.1.2.1 0)) then some (((0:Int),y435.1.2.1,()),()) else run (qf3 a0 a1 y435 a2) (Lq6,(0:Nat),(0:Int),())
def qn4:Entry:=⟨⟨[.v Uq5,.v (.arr 3 (.flt .f32)),.v (.flt .f32)],[.v (.val (.int .i64)),.v (.val (.int .i64))],false⟩,fun x=>qc3 x.1 x.2.1 x.2.2.1⟩
theorem qwm:Sound Tryz.prog G 197 qn4:=qab (envS (l:=[(51,qkd),(231,qmn),(232,qsg)]) ⟨(qoi),(qvi),(qaa7),trivial⟩) [(8,.vary [(10,.sc (.int .i64)),(11,.sc (.flt .f32)),(31,.sc (.int .i64))])] Tryz.func197 (by kernel_rfl) rfl fun _=>by kernel_rfl
def qed (a0:(List Dq2)):Option (((List Dq2)×Unit)×Unit) :=
 bif List.isEmpty a0 then
  allSame fun (q503:Bool) =>
  bif q503 then some ((([]:(List Dq2)),()),()) else
  bif room (0+List.length a0) 48 then
   some (((([]:(List Dq2))++a0),()),())
  else none
 else
 bif room (0+List.length a0) 48 then
  some (((([]:(List Dq2))++a0),()),())
 else none
def qjd:Entry:=⟨⟨[.v (.list Uq1)],[.v (.rows Uq1)],false⟩,fun x=>qed x.1⟩
theorem qq2:Sound Tryz.prog G 165 qjd:=qab (envS (l:=[]) trivial) [] Tryz.func165 (by kernel_rfl) rfl fun _=>by kernel_rfl
def qg4 (a0:Dq3):Option ((Dq3×Unit)×Unit) :=
 (qed a0.2.1).bind fun y502 =>
 some ((((a0.1,y502.1.1,()):Dq3),()),())
def qkj:Entry:=⟨⟨[.v Uq5],[.v (.pair (.val (.flt .f32)) (.pair (.rows Uq1) (.val (.unit))))],false⟩,fun x=>qg4 x.1⟩
theorem qol:Sound Tryz.prog G 132 qkj:=qab (envS (l:=[(165,qjd)]) ⟨(qq2),trivial⟩) [] Tryz.func132 (by kernel_rfl) rfl fun _=>by kernel_rfl
theorem qp3:Sound Tryz.prog G 198 qiw:=qaoi
def qhm (a0:Dq3) (a1:(Vec 3 Nat)) (a2:Nat) (a3:Int) (a4:Nat):Option ((Dq3×(Vec 3 Int)×Bool×Int×Unit)×Unit) :=
 (qec a2).bind fun y226 =>
 bif (! y226.1.1) then some ((Lq4,Lq2,false,(2:Int),()),()) else
 (qi4 a3).bind fun y228 =>
 bif (! y228.1.1) then some ((Lq4,Lq2,false,(2:Int),()),()) else
 (qc3 a0 a1 a4).bind fun y230 =>
 bif (! (iEq y230.1.2.1 0)) then
  bif (! (iEq y230.1.2.1 6)) then some ((Lq4,Lq2,false,y230.1.2.1,()),()) else
  (qg4 a0).bind fun y233 =>
  let x234:=iEq y230.1.2.1 0
  bif x234 then
   bif inB y230.1.1 (List.length a0.2.1) then
    let x235:=List.getD a0.2.1 y230.1.1.toNat Lq1
    (qf6 y233.1.1.2.1 y230.1.1 (iAdd .i64 y230.1.1 1)).bind fun y237 =>
    let x238:=fAdd .f32 x235.2.2.1 a2
    let x244:=fDiv .f32 (fAdd .f32 (fMul .f32 x235.2.2.1 (Vec.getD 3 x235.2.1 0 (0:Nat))) (fMul .f32 a2 (Vec.getD 3 a1 0 (0:Nat)))) x238
    let x250:=fDiv .f32 (fAdd .f32 (fMul .f32 x235.2.2.1 (Vec.getD 3 x235.2.1 1 (0:Nat))) (fMul .f32 a2 (Vec.getD 3 a1 1 (0:Nat)))) x238
    let x256:=fDiv .f32 (fAdd .f32 (fMul .f32 x235.2.2.1 (Vec.getD 3 x235.2.1 2 (0:Nat))) (fMul .f32 a2 (Vec.getD 3 a1 2 (0:Nat)))) x238
    (qcz ([x238]:(List Nat))).bind fun y257 =>
    bif (! y257.1.1) then
     (qck a0.1 (Vec.set 3 (Vec.set 3 (Vec.set 3 a1 0 x244) 1 x250) 2 x256)).bind fun y263 =>
     bif (! (iEq y263.1.2.1 0)) then some ((Lq4,Lq2,false,(3:Int),()),()) else
     (qa4 ((y233.1.1.1,y237.1.1,y233.1.1.2.2):Dq3) ((y263.1.1,Vec.set 3 (Vec.set 3 (Vec.set 3 a1 0 x244) 1 x250) 2 x256,x235.2.2.1,(iMin (iAdd .i64 x235.2.2.2.1 1) 1000000),(iMax x235.2.2.2.2.1 a3),()):Dq2)).bind fun y265 =>
     bif (! y265.1.1) then some ((Lq4,Lq2,false,(3:Int),()),()) else some ((((y265.2.1.1,y265.2.1.2.1,y265.2.1.2.2):Dq3),y263.1.1,x234,(0:Int),()),())
    else
    (qck a0.1 (Vec.set 3 (Vec.set 3 (Vec.set 3 a1 0 x244) 1 x250) 2 x256)).bind fun y271 =>
    bif (! (iEq y271.1.2.1 0)) then some ((Lq4,Lq2,false,(3:Int),()),()) else
    (qa4 ((y233.1.1.1,y237.1.1,y233.1.1.2.2):Dq3) ((y271.1.1,Vec.set 3 (Vec.set 3 (Vec.set 3 a1 0 x244) 1 x250) 2 x256,x238,(iMin (iAdd .i64 x235.2.2.2.1 1) 1000000),(iMax x235.2.2.2.2.1 a3),()):Dq2)).bind fun y273 =>
    bif (! y273.1.1) then some ((Lq4,Lq2,false,(3:Int),()),()) else some ((((y273.2.1.1,y273.2.1.2.1,y273.2.1.2.2):Dq3),y271.1.1,x234,(0:Int),()),())
   else none
  else
  (qck a0.1 a1).bind fun y275 =>
  bif (! (iEq y275.1.2.1 0)) then some ((Lq4,Lq2,false,(3:Int),()),()) else
  (qa4 ((y233.1.1.1,y233.1.1.2.1,y233.1.1.2.2):Dq3) ((y275.1.1,a1,a2,1,a3,()):Dq2)).bind fun y277 =>
  bif (! y277.1.1) then some ((Lq4,Lq2,false,(3:Int),()),()) else some ((((y277.2.1.1,y277.2.1.2.1,y277.2.1.2.2):Dq3),y275.1.1,x234,(0:Int),()),())
 else
 (qg4 a0).bind fun y279 =>
 let x280:=iEq y230.1.2.1 0
 bif x280 then
  bif inB y230.1.1 (List.length a0.2.1) then
   let x281:=List.getD a0.2.1 y230.1.1.toNat Lq1
   (qf6 y279.1.1.2.1 y230.1.1 (iAdd .i64 y230.1.1 1)).bind fun y283 =>
   let x284:=fAdd .f32 x281.2.2.1 a2
   let x290:=fDiv .f32 (fAdd .f32 (fMul .f32 x281.2.2.1 (Vec.getD 3 x281.2.1 0 (0:Nat))) (fMul .f32 a2 (Vec.getD 3 a1 0 (0:Nat)))) x284
   let x296:=fDiv .f32 (fAdd .f32 (fMul .f32 x281.2.2.1 (Vec.getD 3 x281.2.1 1 (0:Nat))) (fMul .f32 a2 (Vec.getD 3 a1 1 (0:Nat)))) x284
   let x302:=fDiv .f32 (fAdd .f32 (fMul .f32 x281.2.2.1 (Vec.getD 3 x281.2.1 2 (0:Nat))) (fMul .f32 a2 (Vec.getD 3 a1 2 (0:Nat)))) x284
   (qcz ([x284]:(List Nat))).bind fun y303 =>
   bif (! y303.1.1) then
    (qck a0.1 (Vec.set 3 (Vec.set 3 (Vec.set 3 a1 0 x290) 1 x296) 2 x302)).bind fun y309 =>
    bif (! (iEq y309.1.2.1 0)) then some ((Lq4,Lq2,false,(3:Int),()),()) else
    (qa4 ((y279.1.1.1,y283.1.1,y279.1.1.2.2):Dq3) ((y309.1.1,Vec.set 3 (Vec.set 3 (Vec.set 3 a1 0 x290) 1 x296) 2 x302,x281.2.2.1,(iMin (iAdd .i64 x281.2.2.2.1 1) 1000000),(iMax x281.2.2.2.2.1 a3),()):Dq2)).bind fun y311 =>
    bif (! y311.1.1) then some ((Lq4,Lq2,false,(3:Int),()),()) else some ((((y311.2.1.1,y311.2.1.2.1,y311.2.1.2.2):Dq3),y309.1.1,x280,(0:Int),()),())
   else
   (qck a0.1 (Vec.set 3 (Vec.set 3 (Vec.set 3 a1 0 x290) 1 x296) 2 x302)).bind fun y317 =>
   bif (! (iEq y317.1.2.1 0)) then some ((Lq4,Lq2,false,(3:Int),()),()) else
   (qa4 ((y279.1.1.1,y283.1.1,y279.1.1.2.2):Dq3) ((y317.1.1,Vec.set 3 (Vec.set 3 (Vec.set 3 a1 0 x290) 1 x296) 2 x302,x284,(iMin (iAdd .i64 x281.2.2.2.1 1) 1000000),(iMax x281.2.2.2.2.1 a3),()):Dq2)).bind fun y319 =>
   bif (! y319.1.1) then some ((Lq4,Lq2,false,(3:Int),()),()) else some ((((y319.2.1.1,y319.2.1.2.1,y319.2.1.2.2):Dq3),y317.1.1,x280,(0:Int),()),())
  else none
 else
 (qck a0.1 a1).bind fun y321 =>
 bif (! (iEq y321.1.2.1 0)) then some ((Lq4,Lq2,false,(3:Int),()),()) else
 (qa4 ((y279.1.1.1,y279.1.1.2.1,y279.1.1.2.2):Dq3) ((y321.1.1,a1,a2,1,a3,()):Dq2)).bind fun y323 =>
 bif (! y323.1.1) then some ((Lq4,Lq2,false,(3:Int),()),()) else some ((((y323.2.1.1,y323.2.1.2.1,y323.2.1.2.2):Dq3),y321.1.1,x280,(0:Int),()),())
def qsk:Entry:=⟨⟨[.v Uq5,.v (.arr 3 (.flt .f32)),.v (.flt .f32),.v (.int .i64),.v (.flt .f32)],[.v (.pair (.val (.flt .f32)) (.pair (.rows Uq1) (.val (.unit)))),.v (.val (.arr 3 (.int .i32))),.v (.val (.bool)),.v (.val (.int .i64))],false⟩,fun x=>qhm x.1 x.2.1 x.2.2.1 x.2.2.2.1 x.2.2.2.2.1⟩
theorem qabd:Sound Tryz.prog G 160 qsk:=qab (envS (l:=[(48,qfj),(51,qkd),(52,qki),(95,qfp),(132,qkj),(197,qn4),(198,qiw),(199,qi8)]) ⟨(qhj),(qoi),(qok),(qif),(qol),(qwm),(qp3),(qn1),trivial⟩) [(14,.unroll 4)] Tryz.func160 (by kernel_rfl) rfl fun _=>by kernel_rfl
def qh8 (a0:Dq3) (a1:(Vec 3 Nat)) (a2:Nat) (a3:Int) (a4:Nat):Option ((Dq3×(Vec 3 Int)×Int×Unit)×Unit) :=
 (qes a0).bind fun y179 =>
 bif (! y179.1.1) then some ((Lq4,Lq2,(1:Int),()),()) else
 (qhm a0 a1 a2 a3 a4).bind fun y181 =>
 some ((((y181.1.1.1,y181.1.1.2.1,y181.1.1.2.2):Dq3),y181.1.2.1,y181.1.2.2.2.1,()),())
def qn2:Entry:=⟨⟨[.v Uq5,.v (.arr 3 (.flt .f32)),.v (.flt .f32),.v (.int .i64),.v (.flt .f32)],[.v (.pair (.val (.flt .f32)) (.pair (.rows Uq1) (.val (.unit)))),.v (.val (.arr 3 (.int .i32))),.v (.val (.int .i64))],false⟩,fun x=>qh8 x.1 x.2.1 x.2.2.1 x.2.2.2.1 x.2.2.2.2.1⟩
theorem qwh:Sound Tryz.prog G 127 qn2:=qab (envS (l:=[(159,qib),(160,qsk)]) ⟨(qlu),(qabd),trivial⟩) [] Tryz.func127 (by kernel_rfl) rfl fun _=>by kernel_rfl
def qgj (a0:Dq1) (a1:Int):Option Dq22 :=
 (qa7 ((a0.1,(a0.2.1.1,a0.2.1.2.1,a0.2.1.2.2.1,a0.2.1.2.2.2),a0.2.2):Dq1) a1).bind fun y165 =>
 bif (! y165.1.1) then
  some (((2:Int),()),(((y165.2.1.1,(y165.2.1.2.1.1,y165.2.1.2.1.2.1,y165.2.1.2.1.2.2.1,y165.2.1.2.1.2.2.2),y165.2.1.2.2):Dq1),()))
 else
 bif inB a1 (List.length y165.2.1.2.1.1) then
  bif inB a1 (List.length y165.2.1.1.2.2.1) then
   let x167:=List.getD y165.2.1.1.2.2.1 a1.toNat ([]:(List Dq4))
   bif (iEq (((List.getD y165.2.1.2.1.1 a1.toNat Lq3).2).1) (lenI x167)) then
    some (((4:Int),()),(((y165.2.1.1,(y165.2.1.2.1.1,y165.2.1.2.1.2.1,y165.2.1.2.1.2.2.1,y165.2.1.2.1.2.2.2),y165.2.1.2.2):Dq1),()))
   else
   let x170:=((List.getD y165.2.1.2.1.1 a1.toNat Lq3).2).1
   bif inB x170 (List.length x167) then
    let x171:=List.getD x167 x170.toNat Lq7
    (qh8 ((List.getD y165.2.1.2.1.1 a1.toNat Lq3).1) x171.1 x171.2.1 x171.2.2.1 y165.2.1.1.2.1).bind fun y173 =>
    bif (! (iEq y173.1.2.2.1 0)) then
     some (((3:Int),()),(((y165.2.1.1,(y165.2.1.2.1.1,y165.2.1.2.1.2.1,y165.2.1.2.1.2.2.1,y165.2.1.2.1.2.2.2),y165.2.1.2.2):Dq1),()))
    else
    let w175:=List.set y165.2.1.2.1.1 a1.toNat (((y173.1.1.1,y173.1.1.2.1,y173.1.1.2.2),(List.getD y165.2.1.2.1.1 a1.toNat Lq3).2):Dq6)
    some (((0:Int),()),(((y165.2.1.1,((List.set w175 a1.toNat (((List.getD w175 a1.toNat Lq3).1,(iAdd .i64 (((List.getD w175 a1.toNat Lq3).2).1) 1),((List.getD w175 a1.toNat Lq3).2).2):Dq6)),y165.2.1.2.1.2.1,y165.2.1.2.1.2.2.1,y165.2.1.2.1.2.2.2),y165.2.1.2.2):Dq1),()))
   else none
  else none
 else none
def qpk:Entry:=⟨⟨[.io (.pair (.val Uq2) (.pair (.pair (.rows Uq3) (.pair (.rows Uq3) (.pair (.rows Uq6) (.val (.unit))))) (.val (.unit)))),.v (.int .i64)],[.v (.val (.int .i64))],true⟩,fun x=>qgj x.1 x.2.1⟩
theorem qxg:Sound Tryz.prog G 91 qpk:=qab (envS (l:=[(54,qgi),(127,qn2)]) ⟨(qjx),(qwh),trivial⟩) [] Tryz.func91 (by kernel_rfl) rfl fun _=>by kernel_rfl
def qkg (a0:Dq3) (a1:Dq3):Option Dq12 :=
 (qes a0).bind fun y538 =>
 bif (! y538.1.1) then some (((1:Int),()),()) else
 (qes a1).bind fun y540 =>
 bif (! y540.1.1) then some (((1:Int),()),()) else
 (qa6 a0.1 a1.1).bind fun y542 =>
 bif (! y542.1.1) then some (((4:Int),()),()) else some (((0:Int),()),())
def qqa:Entry:=⟨⟨[.v Uq5,.v Uq5],[.v (.val (.int .i64))],false⟩,fun x=>qkg x.1 x.2.1⟩
theorem qym:Sound Tryz.prog G 204 qqa:=qab (envS (l:=[(141,qdb),(159,qib)]) ⟨(qeg),(qlu),trivial⟩) [] Tryz.func204 (by kernel_rfl) rfl fun _=>by kernel_rfl
def qcs (a1:Dq3) (s532:(Int×Dq3×Unit)):Option ((Int×Dq3×Unit)⊕Dq20) :=
 bif (iLt s532.1 (lenI a1.2.1)) then
  bif inB s532.1 (List.length a1.2.1) then
   (qa4 ((s532.2.1.1,s532.2.1.2.1,s532.2.1.2.2):Dq3) (List.getD a1.2.1 s532.1.toNat Lq1)).bind fun y535 =>
   bif (! y535.1.1) then
    Option.map Sum.inr (some ((Lq4,(3:Int),()),()))
   else
   some (Sum.inl ((iAdd .i64 s532.1 1),((y535.2.1.1,y535.2.1.2.1,y535.2.1.2.2):Dq3),()))
  else none
 else
 Option.map Sum.inr (some ((((s532.2.1.1,s532.2.1.2.1,s532.2.1.2.2):Dq3),(0:Int),()),()))
def qhf (a0:Dq3) (a1:Dq3):Option Dq20 :=
 (qkg a0 a1).bind fun y523 =>
 bif (! (iEq y523.1.1 0)) then some ((Lq4,y523.1.1,()),()) else
 (qg4 a0).bind fun y525 =>
 run (qcs a1) ((0:Int),((y525.1.1.1,y525.1.1.2.1,y525.1.1.2.2):Dq3),())
def qp8:Entry:=⟨⟨[.v Uq5,.v Uq5],[.v (.pair (.val (.flt .f32)) (.pair (.rows Uq1) (.val (.unit)))),.v (.val (.int .i64))],false⟩,fun x=>qhf x.1 x.2.1⟩
theorem qyg:Sound Tryz.prog G 167 qp8:=qab (envS (l:=[(132,qkj),(199,qi8),(204,qqa)]) ⟨(qol),(qn1),(qym),trivial⟩) [(6,.vary [(22,.sc (.int .i64)),(7,.box (.pair (.val (.flt .f32)) (.pair (.rows Uq1) (.val (.unit)))))])] Tryz.func167 (by kernel_rfl) rfl fun _=>by kernel_rfl
theorem qf2 (mx:GMax 4 G):Sound Tryz.prog G 109 qc8:=qahz Tryz.func109 (by kernel_rfl) (by kernel_rfl) mx (fun s sep m w h1 h2 h3=>Tryz.strings_Split s sep m w h1 h2 h3)
def qmt (a0:List UInt8):Option (((List (List UInt8))×Bool×Unit)×Unit) :=
 (strings_Split a0 ([10]:List UInt8)).bind fun y549 =>
 let x550:=iSub .i64 (lenI y549.1.1) 1
 bif inS 0 x550 (List.length y549.1.1) then
  bif (iLt 0 x550) then
   bif inB x550 (List.length y549.1.1) then
    some ((List.take x550.toNat (List.drop 0 y549.1.1),(sEq (List.getD y549.1.1 x550.toNat ([]:List UInt8)) ([])),()),())
   else none
  else some ((List.take x550.toNat (List.drop 0 y549.1.1),false,()),())
 else none
def qsi:Entry:=⟨⟨[.v (.str)],[.v (.rows (.str)),.v (.val (.bool))],false⟩,fun x=>qmt x.1⟩
theorem qaba (mx:GMax 4 G):Sound Tryz.prog G 202 qsi:=qab (envS (l:=[(109,qc8)]) ⟨(qf2 mx),trivial⟩) [] Tryz.func202 (by kernel_rfl) rfl fun _=>by kernel_rfl
def qce (a0:Int):Option Dq7 :=
 some (((iEq (iAnd .i64 a0 (iSub .i64 a0 1)) 0),()),())
def qfs:Entry:=⟨⟨[.v (.int .i64)],[.v (.val (.bool))],false⟩,fun x=>qce x.1⟩
theorem qlx:Sound Tryz.prog G 219 qfs:=qab (envS (l:=[]) trivial) [] Tryz.func219 (by kernel_rfl) rfl fun _=>by kernel_rfl
theorem qp0 (db:GDeb Tryz.prog G):Sound Tryz.prog G 220 qev:=qadn Tryz.func220 (by kernel_rfl) (by kernel_rfl) db Tryz.trail
def qmi (x712:Int) (x714:Int) (x711:Int) (a3:Bool) (a4:Bool) (s721:Dq16):Option (Dq16⊕Dq21) :=
 bif (iLe x712 s721.1) then
  let x723:=iSub .i64 s721.2.1 1
  let x724:=iAnd .u64 s721.1 x714
  bif inB x724 (List.length ([48,49,50,51,52,53,54,55,56,57,97,98,99,100,101,102,103,104,105,106,107,108,109,110,111,112,113,114,115,116,117,118,119,120,121,122])) then
   bif inB x723 65 then
    bif iLe 0 x711 then
     some (Sum.inl ((iShr .u64 s721.1 x711),x723,Vec.set 65 s721.2.2.1 x723.toNat (strAt ([48,49,50,51,52,53,54,55,56,57,97,98,99,100,101,102,103,104,105,106,107,108,109,110,111,112,113,114,115,116,117,118,119,120,121,122]) x724),()))
    else none
   else none
  else none
 else
 Option.map Sum.inr (
  let x727:=iSub .i64 s721.2.1 1
  bif inB s721.1 (List.length ([48,49,50,51,52,53,54,55,56,57,97,98,99,100,101,102,103,104,105,106,107,108,109,110,111,112,113,114,115,116,117,118,119,120,121,122])) then
   let x728:=strAt ([48,49,50,51,52,53,54,55,56,57,97,98,99,100,101,102,103,104,105,106,107,108,109,110,111,112,113,114,115,116,117,118,119,120,121,122]) s721.1
   bif inB x727 65 then
    bif a3 then
     let x729:=iSub .i64 x727 1
     bif inB x729 65 then
      bif a4 then
       bif inS x729 Lq8 65 then none else none
      else
      bif inS x729 Lq8 65 then
       some ((([]:(List Int)),(ofBytes (List.take (65-x729.toNat) (List.drop x729.toNat ([Vec.getD 65 (Vec.set 65 (Vec.set 65 s721.2.2.1 x727.toNat x728) x729.toNat (45:Int)) 0 (0:Int),Vec.getD 65 (Vec.set 65 (Vec.set 65 s721.2.2.1 x727.toNat x728) x729.toNat (45:Int)) 1 (0:Int),Vec.getD 65 (Vec.set 65 (Vec.set 65 s721.2.2.1 x727.toNat x728) x729.toNat (45:Int)) 2 (0:Int),Vec.getD 65 (Vec.set 65 (Vec.set 65 s721.2.2.1 x727.toNat x728) x729.toNat (45:Int)) 3 (0:Int),Vec.getD 65 (Vec.set 65 (Vec.set 65 s721.2.2.1 x727.toNat x728) x729.toNat (45:Int)) 4 (0:Int),Vec.getD 65 (Vec.set 65 (Vec.set 65 s721.2.2.1 x727.toNat x728) x729.toNat (45:Int)) 5 (0:Int),Vec.getD 65 (Vec.set 65 (Vec.set 65 s721.2.2.1 x727.toNat x728) x729.toNat (45:Int)) 6 (0:Int),Vec.getD 65 (Vec.set 65 (Vec.set 65 s721.2.2.1 x727.toNat x728) x729.toNat (45:Int)) 7 (0:Int),Vec.getD 65 (Vec.set 65 (Vec.set 65 s721.2.2.1 x727.toNat x728) x729.toNat (45:Int)) 8 (0:Int),Vec.getD 65 (Vec.set 65 (Vec.set 65 s721.2.2.1 x727.toNat x728) x729.toNat (45:Int)) 9 (0:Int),Vec.getD 65 (Vec.set 65 (Vec.set 65 s721.2.2.1 x727.toNat x728) x729.toNat (45:Int)) 10 (0:Int),Vec.getD 65 (Vec.set 65 (Vec.set 65 s721.2.2.1 x727.toNat x728) x729.toNat (45:Int)) 11 (0:Int),Vec.getD 65 (Vec.set 65 (Vec.set 65 s721.2.2.1 x727.toNat x728) x729.toNat (45:Int)) 12 (0:Int),Vec.getD 65 (Vec.set 65 (Vec.set 65 s721.2.2.1 x727.toNat x728) x729.toNat (45:Int)) 13 (0:Int),Vec.getD 65 (Vec.set 65 (Vec.set 65 s721.2.2.1 x727.toNat x728) x729.toNat (45:Int)) 14 (0:Int),Vec.getD 65 (Vec.set 65 (Vec.set 65 s721.2.2.1 x727.toNat x728) x729.toNat (45:Int)) 15 (0:Int),Vec.getD 65 (Vec.set 65 (Vec.set 65 s721.2.2.1 x727.toNat x728) x729.toNat (45:Int)) 16 (0:Int),Vec.getD 65 (Vec.set 65 (Vec.set 65 s721.2.2.1 x727.toNat x728) x729.toNat (45:Int)) 17 (0:Int),Vec.getD 65 (Vec.set 65 (Vec.set 65 s721.2.2.1 x727.toNat x728) x729.toNat (45:Int)) 18 (0:Int),Vec.getD 65 (Vec.set 65 (Vec.set 65 s721.2.2.1 x727.toNat x728) x729.toNat (45:Int)) 19 (0:Int),Vec.getD 65 (Vec.set 65 (Vec.set 65 s721.2.2.1 x727.toNat x728) x729.toNat (45:Int)) 20 (0:Int),Vec.getD 65 (Vec.set 65 (Vec.set 65 s721.2.2.1 x727.toNat x728) x729.toNat (45:Int)) 21 (0:Int),Vec.getD 65 (Vec.set 65 (Vec.set 65 s721.2.2.1 x727.toNat x728) x729.toNat (45:Int)) 22 (0:Int),Vec.getD 65 (Vec.set 65 (Vec.set 65 s721.2.2.1 x727.toNat x728) x729.toNat (45:Int)) 23 (0:Int),Vec.getD 65 (Vec.set 65 (Vec.set 65 s721.2.2.1 x727.toNat x728) x729.toNat (45:Int)) 24 (0:Int),Vec.getD 65 (Vec.set 65 (Vec.set 65 s721.2.2.1 x727.toNat x728) x729.toNat (45:Int)) 25 (0:Int),Vec.getD 65 (Vec.set 65 (Vec.set 65 s721.2.2.1 x727.toNat x728) x729.toNat (45:Int)) 26 (0:Int),Vec.getD 65 (Vec.set 65 (Vec.set 65 s721.2.2.1 x727.toNat x728) x729.toNat (45:Int)) 27 (0:Int),Vec.getD 65 (Vec.set 65 (Vec.set 65 s721.2.2.1 x727.toNat x728) x729.toNat (45:Int)) 28 (0:Int),Vec.getD 65 (Vec.set 65 (Vec.set 65 s721.2.2.1 x727.toNat x728) x729.toNat (45:Int)) 29 (0:Int),Vec.getD 65 (Vec.set 65 (Vec.set 65 s721.2.2.1 x727.toNat x728) x729.toNat (45:Int)) 30 (0:Int),Vec.getD 65 (Vec.set 65 (Vec.set 65 s721.2.2.1 x727.toNat x728) x729.toNat (45:Int)) 31 (0:Int),Vec.getD 65 (Vec.set 65 (Vec.set 65 s721.2.2.1 x727.toNat x728) x729.toNat (45:Int)) 32 (0:Int),Vec.getD 65 (Vec.set 65 (Vec.set 65 s721.2.2.1 x727.toNat x728) x729.toNat (45:Int)) 33 (0:Int),Vec.getD 65 (Vec.set 65 (Vec.set 65 s721.2.2.1 x727.toNat x728) x729.toNat (45:Int)) 34 (0:Int),Vec.getD 65 (Vec.set 65 (Vec.set 65 s721.2.2.1 x727.toNat x728) x729.toNat (45:Int)) 35 (0:Int),Vec.getD 65 (Vec.set 65 (Vec.set 65 s721.2.2.1 x727.toNat x728) x729.toNat (45:Int)) 36 (0:Int),Vec.getD 65 (Vec.set 65 (Vec.set 65 s721.2.2.1 x727.toNat x728) x729.toNat (45:Int)) 37 (0:Int),Vec.getD 65 (Vec.set 65 (Vec.set 65 s721.2.2.1 x727.toNat x728) x729.toNat (45:Int)) 38 (0:Int),Vec.getD 65 (Vec.set 65 (Vec.set 65 s721.2.2.1 x727.toNat x728) x729.toNat (45:Int)) 39 (0:Int),Vec.getD 65 (Vec.set 65 (Vec.set 65 s721.2.2.1 x727.toNat x728) x729.toNat (45:Int)) 40 (0:Int),Vec.getD 65 (Vec.set 65 (Vec.set 65 s721.2.2.1 x727.toNat x728) x729.toNat (45:Int)) 41 (0:Int),Vec.getD 65 (Vec.set 65 (Vec.set 65 s721.2.2.1 x727.toNat x728) x729.toNat (45:Int)) 42 (0:Int),Vec.getD 65 (Vec.set 65 (Vec.set 65 s721.2.2.1 x727.toNat x728) x729.toNat (45:Int)) 43 (0:Int),Vec.getD 65 (Vec.set 65 (Vec.set 65 s721.2.2.1 x727.toNat x728) x729.toNat (45:Int)) 44 (0:Int),Vec.getD 65 (Vec.set 65 (Vec.set 65 s721.2.2.1 x727.toNat x728) x729.toNat (45:Int)) 45 (0:Int),Vec.getD 65 (Vec.set 65 (Vec.set 65 s721.2.2.1 x727.toNat x728) x729.toNat (45:Int)) 46 (0:Int),Vec.getD 65 (Vec.set 65 (Vec.set 65 s721.2.2.1 x727.toNat x728) x729.toNat (45:Int)) 47 (0:Int),Vec.getD 65 (Vec.set 65 (Vec.set 65 s721.2.2.1 x727.toNat x728) x729.toNat (45:Int)) 48 (0:Int),Vec.getD 65 (Vec.set 65 (Vec.set 65 s721.2.2.1 x727.toNat x728) x729.toNat (45:Int)) 49 (0:Int),Vec.getD 65 (Vec.set 65 (Vec.set 65 s721.2.2.1 x727.toNat x728) x729.toNat (45:Int)) 50 (0:Int),Vec.getD 65 (Vec.set 65 (Vec.set 65 s721.2.2.1 x727.toNat x728) x729.toNat (45:Int)) 51 (0:Int),Vec.getD 65 (Vec.set 65 (Vec.set 65 s721.2.2.1 x727.toNat x728) x729.toNat (45:Int)) 52 (0:Int),Vec.getD 65 (Vec.set 65 (Vec.set 65 s721.2.2.1 x727.toNat x728) x729.toNat (45:Int)) 53 (0:Int),Vec.getD 65 (Vec.set 65 (Vec.set 65 s721.2.2.1 x727.toNat x728) x729.toNat (45:Int)) 54 (0:Int),Vec.getD 65 (Vec.set 65 (Vec.set 65 s721.2.2.1 x727.toNat x728) x729.toNat (45:Int)) 55 (0:Int),Vec.getD 65 (Vec.set 65 (Vec.set 65 s721.2.2.1 x727.toNat x728) x729.toNat (45:Int)) 56 (0:Int),Vec.getD 65 (Vec.set 65 (Vec.set 65 s721.2.2.1 x727.toNat x728) x729.toNat (45:Int)) 57 (0:Int),Vec.getD 65 (Vec.set 65 (Vec.set 65 s721.2.2.1 x727.toNat x728) x729.toNat (45:Int)) 58 (0:Int),Vec.getD 65 (Vec.set 65 (Vec.set 65 s721.2.2.1 x727.toNat x728) x729.toNat (45:Int)) 59 (0:Int),Vec.getD 65 (Vec.set 65 (Vec.set 65 s721.2.2.1 x727.toNat x728) x729.toNat (45:Int)) 60 (0:Int),Vec.getD 65 (Vec.set 65 (Vec.set 65 s721.2.2.1 x727.toNat x728) x729.toNat (45:Int)) 61 (0:Int),Vec.getD 65 (Vec.set 65 (Vec.set 65 s721.2.2.1 x727.toNat x728) x729.toNat (45:Int)) 62 (0:Int),Vec.getD 65 (Vec.set 65 (Vec.set 65 s721.2.2.1 x727.toNat x728) x729.toNat (45:Int)) 63 (0:Int),Vec.getD 65 (Vec.set 65 (Vec.set 65 s721.2.2.1 x727.toNat x728) x729.toNat (45:Int)) 64 (0:Int)]:(List Int))))),()),())
      else none
     else none
    else
    bif a4 then
     bif inS x727 Lq8 65 then none else none
    else
    bif inS x727 Lq8 65 then
     some ((([]:(List Int)),(ofBytes (List.take (65-x727.toNat) (List.drop x727.toNat ([Vec.getD 65 (Vec.set 65 s721.2.2.1 x727.toNat x728) 0 (0:Int),Vec.getD 65 (Vec.set 65 s721.2.2.1 x727.toNat x728) 1 (0:Int),Vec.getD 65 (Vec.set 65 s721.2.2.1 x727.toNat x728) 2 (0:Int),Vec.getD 65 (Vec.set 65 s721.2.2.1 x727.toNat x728) 3 (0:Int),Vec.getD 65 (Vec.set 65 s721.2.2.1 x727.toNat x728) 4 (0:Int),Vec.getD 65 (Vec.set 65 s721.2.2.1 x727.toNat x728) 5 (0:Int),Vec.getD 65 (Vec.set 65 s721.2.2.1 x727.toNat x728) 6 (0:Int),Vec.getD 65 (Vec.set 65 s721.2.2.1 x727.toNat x728) 7 (0:Int),Vec.getD 65 (Vec.set 65 s721.2.2.1 x727.toNat x728) 8 (0:Int),Vec.getD 65 (Vec.set 65 s721.2.2.1 x727.toNat x728) 9 (0:Int),Vec.getD 65 (Vec.set 65 s721.2.2.1 x727.toNat x728) 10 (0:Int),Vec.getD 65 (Vec.set 65 s721.2.2.1 x727.toNat x728) 11 (0:Int),Vec.getD 65 (Vec.set 65 s721.2.2.1 x727.toNat x728) 12 (0:Int),Vec.getD 65 (Vec.set 65 s721.2.2.1 x727.toNat x728) 13 (0:Int),Vec.getD 65 (Vec.set 65 s721.2.2.1 x727.toNat x728) 14 (0:Int),Vec.getD 65 (Vec.set 65 s721.2.2.1 x727.toNat x728) 15 (0:Int),Vec.getD 65 (Vec.set 65 s721.2.2.1 x727.toNat x728) 16 (0:Int),Vec.getD 65 (Vec.set 65 s721.2.2.1 x727.toNat x728) 17 (0:Int),Vec.getD 65 (Vec.set 65 s721.2.2.1 x727.toNat x728) 18 (0:Int),Vec.getD 65 (Vec.set 65 s721.2.2.1 x727.toNat x728) 19 (0:Int),Vec.getD 65 (Vec.set 65 s721.2.2.1 x727.toNat x728) 20 (0:Int),Vec.getD 65 (Vec.set 65 s721.2.2.1 x727.toNat x728) 21 (0:Int),Vec.getD 65 (Vec.set 65 s721.2.2.1 x727.toNat x728) 22 (0:Int),Vec.getD 65 (Vec.set 65 s721.2.2.1 x727.toNat x728) 23 (0:Int),Vec.getD 65 (Vec.set 65 s721.2.2.1 x727.toNat x728) 24 (0:Int),Vec.getD 65 (Vec.set 65 s721.2.2.1 x727.toNat x728) 25 (0:Int),Vec.getD 65 (Vec.set 65 s721.2.2.1 x727.toNat x728) 26 (0:Int),Vec.getD 65 (Vec.set 65 s721.2.2.1 x727.toNat x728) 27 (0:Int),Vec.getD 65 (Vec.set 65 s721.2.2.1 x727.toNat x728) 28 (0:Int),Vec.getD 65 (Vec.set 65 s721.2.2.1 x727.toNat x728) 29 (0:Int),Vec.getD 65 (Vec.set 65 s721.2.2.1 x727.toNat x728) 30 (0:Int),Vec.getD 65 (Vec.set 65 s721.2.2.1 x727.toNat x728) 31 (0:Int),Vec.getD 65 (Vec.set 65 s721.2.2.1 x727.toNat x728) 32 (0:Int),Vec.getD 65 (Vec.set 65 s721.2.2.1 x727.toNat x728) 33 (0:Int),Vec.getD 65 (Vec.set 65 s721.2.2.1 x727.toNat x728) 34 (0:Int),Vec.getD 65 (Vec.set 65 s721.2.2.1 x727.toNat x728) 35 (0:Int),Vec.getD 65 (Vec.set 65 s721.2.2.1 x727.toNat x728) 36 (0:Int),Vec.getD 65 (Vec.set 65 s721.2.2.1 x727.toNat x728) 37 (0:Int),Vec.getD 65 (Vec.set 65 s721.2.2.1 x727.toNat x728) 38 (0:Int),Vec.getD 65 (Vec.set 65 s721.2.2.1 x727.toNat x728) 39 (0:Int),Vec.getD 65 (Vec.set 65 s721.2.2.1 x727.toNat x728) 40 (0:Int),Vec.getD 65 (Vec.set 65 s721.2.2.1 x727.toNat x728) 41 (0:Int),Vec.getD 65 (Vec.set 65 s721.2.2.1 x727.toNat x728) 42 (0:Int),Vec.getD 65 (Vec.set 65 s721.2.2.1 x727.toNat x728) 43 (0:Int),Vec.getD 65 (Vec.set 65 s721.2.2.1 x727.toNat x728) 44 (0:Int),Vec.getD 65 (Vec.set 65 s721.2.2.1 x727.toNat x728) 45 (0:Int),Vec.getD 65 (Vec.set 65 s721.2.2.1 x727.toNat x728) 46 (0:Int),Vec.getD 65 (Vec.set 65 s721.2.2.1 x727.toNat x728) 47 (0:Int),Vec.getD 65 (Vec.set 65 s721.2.2.1 x727.toNat x728) 48 (0:Int),Vec.getD 65 (Vec.set 65 s721.2.2.1 x727.toNat x728) 49 (0:Int),Vec.getD 65 (Vec.set 65 s721.2.2.1 x727.toNat x728) 50 (0:Int),Vec.getD 65 (Vec.set 65 s721.2.2.1 x727.toNat x728) 51 (0:Int),Vec.getD 65 (Vec.set 65 s721.2.2.1 x727.toNat x728) 52 (0:Int),Vec.getD 65 (Vec.set 65 s721.2.2.1 x727.toNat x728) 53 (0:Int),Vec.getD 65 (Vec.set 65 s721.2.2.1 x727.toNat x728) 54 (0:Int),Vec.getD 65 (Vec.set 65 s721.2.2.1 x727.toNat x728) 55 (0:Int),Vec.getD 65 (Vec.set 65 s721.2.2.1 x727.toNat x728) 56 (0:Int),Vec.getD 65 (Vec.set 65 s721.2.2.1 x727.toNat x728) 57 (0:Int),Vec.getD 65 (Vec.set 65 s721.2.2.1 x727.toNat x728) 58 (0:Int),Vec.getD 65 (Vec.set 65 s721.2.2.1 x727.toNat x728) 59 (0:Int),Vec.getD 65 (Vec.set 65 s721.2.2.1 x727.toNat x728) 60 (0:Int),Vec.getD 65 (Vec.set 65 s721.2.2.1 x727.toNat x728) 61 (0:Int),Vec.getD 65 (Vec.set 65 s721.2.2.1 x727.toNat x728) 62 (0:Int),Vec.getD 65 (Vec.set 65 s721.2.2.1 x727.toNat x728) 63 (0:Int),Vec.getD 65 (Vec.set 65 s721.2.2.1 x727.toNat x728) 64 (0:Int)]:(List Int))))),()),())
    else none
   else none
  else none)
def qmj (x732:Int) (a3:Bool) (a4:Bool) (s740:Dq16):Option (Dq16⊕Dq21) :=
 bif (iLe x732 s740.1) then
  let x742:=iSub .i64 s740.2.1 1
  bif iEq x732 0 then none else
  let x743:=iQuo .u64 s740.1 x732
  let x745:=iSub .u64 s740.1 (iMul .u64 x743 x732)
  bif inB x745 (List.length ([48,49,50,51,52,53,54,55,56,57,97,98,99,100,101,102,103,104,105,106,107,108,109,110,111,112,113,114,115,116,117,118,119,120,121,122])) then
   bif inB x742 65 then some (Sum.inl (x743,x742,Vec.set 65 s740.2.2.1 x742.toNat (strAt ([48,49,50,51,52,53,54,55,56,57,97,98,99,100,101,102,103,104,105,106,107,108,109,110,111,112,113,114,115,116,117,118,119,120,121,122]) x745),())) else none
  else none
 else
 Option.map Sum.inr (
  let x747:=iSub .i64 s740.2.1 1
  bif inB s740.1 (List.length ([48,49,50,51,52,53,54,55,56,57,97,98,99,100,101,102,103,104,105,106,107,108,109,110,111,112,113,114,115,116,117,118,119,120,121,122])) then
   let x748:=strAt ([48,49,50,51,52,53,54,55,56,57,97,98,99,100,101,102,103,104,105,106,107,108,109,110,111,112,113,114,115,116,117,118,119,120,121,122]) s740.1
   bif inB x747 65 then
    bif a3 then
     let x749:=iSub .i64 x747 1
     bif inB x749 65 then
      bif a4 then
       bif inS x749 Lq8 65 then none else none
      else
      bif inS x749 Lq8 65 then
       some ((([]:(List Int)),(ofBytes (List.take (65-x749.toNat) (List.drop x749.toNat ([Vec.getD 65 (Vec.set 65 (Vec.set 65 s740.2.2.1 x747.toNat x748) x749.toNat (45:Int)) 0 (0:Int),Vec.getD 65 (Vec.set 65 (Vec.set 65 s740.2.2.1 x747.toNat x748) x749.toNat (45:Int)) 1 (0:Int),Vec.getD 65 (Vec.set 65 (Vec.set 65 s740.2.2.1 x747.toNat x748) x749.toNat (45:Int)) 2 (0:Int),Vec.getD 65 (Vec.set 65 (Vec.set 65 s740.2.2.1 x747.toNat x748) x749.toNat (45:Int)) 3 (0:Int),Vec.getD 65 (Vec.set 65 (Vec.set 65 s740.2.2.1 x747.toNat x748) x749.toNat (45:Int)) 4 (0:Int),Vec.getD 65 (Vec.set 65 (Vec.set 65 s740.2.2.1 x747.toNat x748) x749.toNat (45:Int)) 5 (0:Int),Vec.getD 65 (Vec.set 65 (Vec.set 65 s740.2.2.1 x747.toNat x748) x749.toNat (45:Int)) 6 (0:Int),Vec.getD 65 (Vec.set 65 (Vec.set 65 s740.2.2.1 x747.toNat x748) x749.toNat (45:Int)) 7 (0:Int),Vec.getD 65 (Vec.set 65 (Vec.set 65 s740.2.2.1 x747.toNat x748) x749.toNat (45:Int)) 8 (0:Int),Vec.getD 65 (Vec.set 65 (Vec.set 65 s740.2.2.1 x747.toNat x748) x749.toNat (45:Int)) 9 (0:Int),Vec.getD 65 (Vec.set 65 (Vec.set 65 s740.2.2.1 x747.toNat x748) x749.toNat (45:Int)) 10 (0:Int),Vec.getD 65 (Vec.set 65 (Vec.set 65 s740.2.2.1 x747.toNat x748) x749.toNat (45:Int)) 11 (0:Int),Vec.getD 65 (Vec.set 65 (Vec.set 65 s740.2.2.1 x747.toNat x748) x749.toNat (45:Int)) 12 (0:Int),Vec.getD 65 (Vec.set 65 (Vec.set 65 s740.2.2.1 x747.toNat x748) x749.toNat (45:Int)) 13 (0:Int),Vec.getD 65 (Vec.set 65 (Vec.set 65 s740.2.2.1 x747.toNat x748) x749.toNat (45:Int)) 14 (0:Int),Vec.getD 65 (Vec.set 65 (Vec.set 65 s740.2.2.1 x747.toNat x748) x749.toNat (45:Int)) 15 (0:Int),Vec.getD 65 (Vec.set 65 (Vec.set 65 s740.2.2.1 x747.toNat x748) x749.toNat (45:Int)) 16 (0:Int),Vec.getD 65 (Vec.set 65 (Vec.set 65 s740.2.2.1 x747.toNat x748) x749.toNat (45:Int)) 17 (0:Int),Vec.getD 65 (Vec.set 65 (Vec.set 65 s740.2.2.1 x747.toNat x748) x749.toNat (45:Int)) 18 (0:Int),Vec.getD 65 (Vec.set 65 (Vec.set 65 s740.2.2.1 x747.toNat x748) x749.toNat (45:Int)) 19 (0:Int),Vec.getD 65 (Vec.set 65 (Vec.set 65 s740.2.2.1 x747.toNat x748) x749.toNat (45:Int)) 20 (0:Int),Vec.getD 65 (Vec.set 65 (Vec.set 65 s740.2.2.1 x747.toNat x748) x749.toNat (45:Int)) 21 (0:Int),Vec.getD 65 (Vec.set 65 (Vec.set 65 s740.2.2.1 x747.toNat x748) x749.toNat (45:Int)) 22 (0:Int),Vec.getD 65 (Vec.set 65 (Vec.set 65 s740.2.2.1 x747.toNat x748) x749.toNat (45:Int)) 23 (0:Int),Vec.getD 65 (Vec.set 65 (Vec.set 65 s740.2.2.1 x747.toNat x748) x749.toNat (45:Int)) 24 (0:Int),Vec.getD 65 (Vec.set 65 (Vec.set 65 s740.2.2.1 x747.toNat x748) x749.toNat (45:Int)) 25 (0:Int),Vec.getD 65 (Vec.set 65 (Vec.set 65 s740.2.2.1 x747.toNat x748) x749.toNat (45:Int)) 26 (0:Int),Vec.getD 65 (Vec.set 65 (Vec.set 65 s740.2.2.1 x747.toNat x748) x749.toNat (45:Int)) 27 (0:Int),Vec.getD 65 (Vec.set 65 (Vec.set 65 s740.2.2.1 x747.toNat x748) x749.toNat (45:Int)) 28 (0:Int),Vec.getD 65 (Vec.set 65 (Vec.set 65 s740.2.2.1 x747.toNat x748) x749.toNat (45:Int)) 29 (0:Int),Vec.getD 65 (Vec.set 65 (Vec.set 65 s740.2.2.1 x747.toNat x748) x749.toNat (45:Int)) 30 (0:Int),Vec.getD 65 (Vec.set 65 (Vec.set 65 s740.2.2.1 x747.toNat x748) x749.toNat (45:Int)) 31 (0:Int),Vec.getD 65 (Vec.set 65 (Vec.set 65 s740.2.2.1 x747.toNat x748) x749.toNat (45:Int)) 32 (0:Int),Vec.getD 65 (Vec.set 65 (Vec.set 65 s740.2.2.1 x747.toNat x748) x749.toNat (45:Int)) 33 (0:Int),Vec.getD 65 (Vec.set 65 (Vec.set 65 s740.2.2.1 x747.toNat x748) x749.toNat (45:Int)) 34 (0:Int),Vec.getD 65 (Vec.set 65 (Vec.set 65 s740.2.2.1 x747.toNat x748) x749.toNat (45:Int)) 35 (0:Int),Vec.getD 65 (Vec.set 65 (Vec.set 65 s740.2.2.1 x747.toNat x748) x749.toNat (45:Int)) 36 (0:Int),Vec.getD 65 (Vec.set 65 (Vec.set 65 s740.2.2.1 x747.toNat x748) x749.toNat (45:Int)) 37 (0:Int),Vec.getD 65 (Vec.set 65 (Vec.set 65 s740.2.2.1 x747.toNat x748) x749.toNat (45:Int)) 38 (0:Int),Vec.getD 65 (Vec.set 65 (Vec.set 65 s740.2.2.1 x747.toNat x748) x749.toNat (45:Int)) 39 (0:Int),Vec.getD 65 (Vec.set 65 (Vec.set 65 s740.2.2.1 x747.toNat x748) x749.toNat (45:Int)) 40 (0:Int),Vec.getD 65 (Vec.set 65 (Vec.set 65 s740.2.2.1 x747.toNat x748) x749.toNat (45:Int)) 41 (0:Int),Vec.getD 65 (Vec.set 65 (Vec.set 65 s740.2.2.1 x747.toNat x748) x749.toNat (45:Int)) 42 (0:Int),Vec.getD 65 (Vec.set 65 (Vec.set 65 s740.2.2.1 x747.toNat x748) x749.toNat (45:Int)) 43 (0:Int),Vec.getD 65 (Vec.set 65 (Vec.set 65 s740.2.2.1 x747.toNat x748) x749.toNat (45:Int)) 44 (0:Int),Vec.getD 65 (Vec.set 65 (Vec.set 65 s740.2.2.1 x747.toNat x748) x749.toNat (45:Int)) 45 (0:Int),Vec.getD 65 (Vec.set 65 (Vec.set 65 s740.2.2.1 x747.toNat x748) x749.toNat (45:Int)) 46 (0:Int),Vec.getD 65 (Vec.set 65 (Vec.set 65 s740.2.2.1 x747.toNat x748) x749.toNat (45:Int)) 47 (0:Int),Vec.getD 65 (Vec.set 65 (Vec.set 65 s740.2.2.1 x747.toNat x748) x749.toNat (45:Int)) 48 (0:Int),Vec.getD 65 (Vec.set 65 (Vec.set 65 s740.2.2.1 x747.toNat x748) x749.toNat (45:Int)) 49 (0:Int),Vec.getD 65 (Vec.set 65 (Vec.set 65 s740.2.2.1 x747.toNat x748) x749.toNat (45:Int)) 50 (0:Int),Vec.getD 65 (Vec.set 65 (Vec.set 65 s740.2.2.1 x747.toNat x748) x749.toNat (45:Int)) 51 (0:Int),Vec.getD 65 (Vec.set 65 (Vec.set 65 s740.2.2.1 x747.toNat x748) x749.toNat (45:Int)) 52 (0:Int),Vec.getD 65 (Vec.set 65 (Vec.set 65 s740.2.2.1 x747.toNat x748) x749.toNat (45:Int)) 53 (0:Int),Vec.getD 65 (Vec.set 65 (Vec.set 65 s740.2.2.1 x747.toNat x748) x749.toNat (45:Int)) 54 (0:Int),Vec.getD 65 (Vec.set 65 (Vec.set 65 s740.2.2.1 x747.toNat x748) x749.toNat (45:Int)) 55 (0:Int),Vec.getD 65 (Vec.set 65 (Vec.set 65 s740.2.2.1 x747.toNat x748) x749.toNat (45:Int)) 56 (0:Int),Vec.getD 65 (Vec.set 65 (Vec.set 65 s740.2.2.1 x747.toNat x748) x749.toNat (45:Int)) 57 (0:Int),Vec.getD 65 (Vec.set 65 (Vec.set 65 s740.2.2.1 x747.toNat x748) x749.toNat (45:Int)) 58 (0:Int),Vec.getD 65 (Vec.set 65 (Vec.set 65 s740.2.2.1 x747.toNat x748) x749.toNat (45:Int)) 59 (0:Int),Vec.getD 65 (Vec.set 65 (Vec.set 65 s740.2.2.1 x747.toNat x748) x749.toNat (45:Int)) 60 (0:Int),Vec.getD 65 (Vec.set 65 (Vec.set 65 s740.2.2.1 x747.toNat x748) x749.toNat (45:Int)) 61 (0:Int),Vec.getD 65 (Vec.set 65 (Vec.set 65 s740.2.2.1 x747.toNat x748) x749.toNat (45:Int)) 62 (0:Int),Vec.getD 65 (Vec.set 65 (Vec.set 65 s740.2.2.1 x747.toNat x748) x749.toNat (45:Int)) 63 (0:Int),Vec.getD 65 (Vec.set 65 (Vec.set 65 s740.2.2.1 x747.toNat x748) x749.toNat (45:Int)) 64 (0:Int)]:(List Int))))),()),())
      else none
     else none
    else
    bif a4 then
     bif inS x747 Lq8 65 then none else none
    else
    bif inS x747 Lq8 65 then
     some ((([]:(List Int)),(ofBytes (List.take (65-x747.toNat) (List.drop x747.toNat ([Vec.getD 65 (Vec.set 65 s740.2.2.1 x747.toNat x748) 0 (0:Int),Vec.getD 65 (Vec.set 65 s740.2.2.1 x747.toNat x748) 1 (0:Int),Vec.getD 65 (Vec.set 65 s740.2.2.1 x747.toNat x748) 2 (0:Int),Vec.getD 65 (Vec.set 65 s740.2.2.1 x747.toNat x748) 3 (0:Int),Vec.getD 65 (Vec.set 65 s740.2.2.1 x747.toNat x748) 4 (0:Int),Vec.getD 65 (Vec.set 65 s740.2.2.1 x747.toNat x748) 5 (0:Int),Vec.getD 65 (Vec.set 65 s740.2.2.1 x747.toNat x748) 6 (0:Int),Vec.getD 65 (Vec.set 65 s740.2.2.1 x747.toNat x748) 7 (0:Int),Vec.getD 65 (Vec.set 65 s740.2.2.1 x747.toNat x748) 8 (0:Int),Vec.getD 65 (Vec.set 65 s740.2.2.1 x747.toNat x748) 9 (0:Int),Vec.getD 65 (Vec.set 65 s740.2.2.1 x747.toNat x748) 10 (0:Int),Vec.getD 65 (Vec.set 65 s740.2.2.1 x747.toNat x748) 11 (0:Int),Vec.getD 65 (Vec.set 65 s740.2.2.1 x747.toNat x748) 12 (0:Int),Vec.getD 65 (Vec.set 65 s740.2.2.1 x747.toNat x748) 13 (0:Int),Vec.getD 65 (Vec.set 65 s740.2.2.1 x747.toNat x748) 14 (0:Int),Vec.getD 65 (Vec.set 65 s740.2.2.1 x747.toNat x748) 15 (0:Int),Vec.getD 65 (Vec.set 65 s740.2.2.1 x747.toNat x748) 16 (0:Int),Vec.getD 65 (Vec.set 65 s740.2.2.1 x747.toNat x748) 17 (0:Int),Vec.getD 65 (Vec.set 65 s740.2.2.1 x747.toNat x748) 18 (0:Int),Vec.getD 65 (Vec.set 65 s740.2.2.1 x747.toNat x748) 19 (0:Int),Vec.getD 65 (Vec.set 65 s740.2.2.1 x747.toNat x748) 20 (0:Int),Vec.getD 65 (Vec.set 65 s740.2.2.1 x747.toNat x748) 21 (0:Int),Vec.getD 65 (Vec.set 65 s740.2.2.1 x747.toNat x748) 22 (0:Int),Vec.getD 65 (Vec.set 65 s740.2.2.1 x747.toNat x748) 23 (0:Int),Vec.getD 65 (Vec.set 65 s740.2.2.1 x747.toNat x748) 24 (0:Int),Vec.getD 65 (Vec.set 65 s740.2.2.1 x747.toNat x748) 25 (0:Int),Vec.getD 65 (Vec.set 65 s740.2.2.1 x747.toNat x748) 26 (0:Int),Vec.getD 65 (Vec.set 65 s740.2.2.1 x747.toNat x748) 27 (0:Int),Vec.getD 65 (Vec.set 65 s740.2.2.1 x747.toNat x748) 28 (0:Int),Vec.getD 65 (Vec.set 65 s740.2.2.1 x747.toNat x748) 29 (0:Int),Vec.getD 65 (Vec.set 65 s740.2.2.1 x747.toNat x748) 30 (0:Int),Vec.getD 65 (Vec.set 65 s740.2.2.1 x747.toNat x748) 31 (0:Int),Vec.getD 65 (Vec.set 65 s740.2.2.1 x747.toNat x748) 32 (0:Int),Vec.getD 65 (Vec.set 65 s740.2.2.1 x747.toNat x748) 33 (0:Int),Vec.getD 65 (Vec.set 65 s740.2.2.1 x747.toNat x748) 34 (0:Int),Vec.getD 65 (Vec.set 65 s740.2.2.1 x747.toNat x748) 35 (0:Int),Vec.getD 65 (Vec.set 65 s740.2.2.1 x747.toNat x748) 36 (0:Int),Vec.getD 65 (Vec.set 65 s740.2.2.1 x747.toNat x748) 37 (0:Int),Vec.getD 65 (Vec.set 65 s740.2.2.1 x747.toNat x748) 38 (0:Int),Vec.getD 65 (Vec.set 65 s740.2.2.1 x747.toNat x748) 39 (0:Int),Vec.getD 65 (Vec.set 65 s740.2.2.1 x747.toNat x748) 40 (0:Int),Vec.getD 65 (Vec.set 65 s740.2.2.1 x747.toNat x748) 41 (0:Int),Vec.getD 65 (Vec.set 65 s740.2.2.1 x747.toNat x748) 42 (0:Int),Vec.getD 65 (Vec.set 65 s740.2.2.1 x747.toNat x748) 43 (0:Int),Vec.getD 65 (Vec.set 65 s740.2.2.1 x747.toNat x748) 44 (0:Int),Vec.getD 65 (Vec.set 65 s740.2.2.1 x747.toNat x748) 45 (0:Int),Vec.getD 65 (Vec.set 65 s740.2.2.1 x747.toNat x748) 46 (0:Int),Vec.getD 65 (Vec.set 65 s740.2.2.1 x747.toNat x748) 47 (0:Int),Vec.getD 65 (Vec.set 65 s740.2.2.1 x747.toNat x748) 48 (0:Int),Vec.getD 65 (Vec.set 65 s740.2.2.1 x747.toNat x748) 49 (0:Int),Vec.getD 65 (Vec.set 65 s740.2.2.1 x747.toNat x748) 50 (0:Int),Vec.getD 65 (Vec.set 65 s740.2.2.1 x747.toNat x748) 51 (0:Int),Vec.getD 65 (Vec.set 65 s740.2.2.1 x747.toNat x748) 52 (0:Int),Vec.getD 65 (Vec.set 65 s740.2.2.1 x747.toNat x748) 53 (0:Int),Vec.getD 65 (Vec.set 65 s740.2.2.1 x747.toNat x748) 54 (0:Int),Vec.getD 65 (Vec.set 65 s740.2.2.1 x747.toNat x748) 55 (0:Int),Vec.getD 65 (Vec.set 65 s740.2.2.1 x747.toNat x748) 56 (0:Int),Vec.getD 65 (Vec.set 65 s740.2.2.1 x747.toNat x748) 57 (0:Int),Vec.getD 65 (Vec.set 65 s740.2.2.1 x747.toNat x748) 58 (0:Int),Vec.getD 65 (Vec.set 65 s740.2.2.1 x747.toNat x748) 59 (0:Int),Vec.getD 65 (Vec.set 65 s740.2.2.1 x747.toNat x748) 60 (0:Int),Vec.getD 65 (Vec.set 65 s740.2.2.1 x747.toNat x748) 61 (0:Int),Vec.getD 65 (Vec.set 65 s740.2.2.1 x747.toNat x748) 62 (0:Int),Vec.getD 65 (Vec.set 65 s740.2.2.1 x747.toNat x748) 63 (0:Int),Vec.getD 65 (Vec.set 65 s740.2.2.1 x747.toNat x748) 64 (0:Int)]:(List Int))))),()),())
    else none
   else none
  else none)
def qbx (x756:Int) (x758:Int) (x755:Int) (a3:Bool) (a4:Bool) (s765:Dq16):Option (Dq16⊕Dq21) :=
 bif (iLe x756 s765.1) then
  let x767:=iSub .i64 s765.2.1 1
  let x768:=iAnd .u64 s765.1 x758
  bif inB x768 (List.length ([48,49,50,51,52,53,54,55,56,57,97,98,99,100,101,102,103,104,105,106,107,108,109,110,111,112,113,114,115,116,117,118,119,120,121,122])) then
   bif inB x767 65 then
    bif iLe 0 x755 then
     some (Sum.inl ((iShr .u64 s765.1 x755),x767,Vec.set 65 s765.2.2.1 x767.toNat (strAt ([48,49,50,51,52,53,54,55,56,57,97,98,99,100,101,102,103,104,105,106,107,108,109,110,111,112,113,114,115,116,117,118,119,120,121,122]) x768),()))
    else none
   else none
  else none
 else
 Option.map Sum.inr (
  let x771:=iSub .i64 s765.2.1 1
  bif inB s765.1 (List.length ([48,49,50,51,52,53,54,55,56,57,97,98,99,100,101,102,103,104,105,106,107,108,109,110,111,112,113,114,115,116,117,118,119,120,121,122])) then
   let x772:=strAt ([48,49,50,51,52,53,54,55,56,57,97,98,99,100,101,102,103,104,105,106,107,108,109,110,111,112,113,114,115,116,117,118,119,120,121,122]) s765.1
   bif inB x771 65 then
    bif a3 then
     let x773:=iSub .i64 x771 1
     bif inB x773 65 then
      bif a4 then
       bif inS x773 Lq8 65 then none else none
      else
      bif inS x773 Lq8 65 then
       some ((([]:(List Int)),(ofBytes (List.take (65-x773.toNat) (List.drop x773.toNat ([Vec.getD 65 (Vec.set 65 (Vec.set 65 s765.2.2.1 x771.toNat x772) x773.toNat (45:Int)) 0 (0:Int),Vec.getD 65 (Vec.set 65 (Vec.set 65 s765.2.2.1 x771.toNat x772) x773.toNat (45:Int)) 1 (0:Int),Vec.getD 65 (Vec.set 65 (Vec.set 65 s765.2.2.1 x771.toNat x772) x773.toNat (45:Int)) 2 (0:Int),Vec.getD 65 (Vec.set 65 (Vec.set 65 s765.2.2.1 x771.toNat x772) x773.toNat (45:Int)) 3 (0:Int),Vec.getD 65 (Vec.set 65 (Vec.set 65 s765.2.2.1 x771.toNat x772) x773.toNat (45:Int)) 4 (0:Int),Vec.getD 65 (Vec.set 65 (Vec.set 65 s765.2.2.1 x771.toNat x772) x773.toNat (45:Int)) 5 (0:Int),Vec.getD 65 (Vec.set 65 (Vec.set 65 s765.2.2.1 x771.toNat x772) x773.toNat (45:Int)) 6 (0:Int),Vec.getD 65 (Vec.set 65 (Vec.set 65 s765.2.2.1 x771.toNat x772) x773.toNat (45:Int)) 7 (0:Int),Vec.getD 65 (Vec.set 65 (Vec.set 65 s765.2.2.1 x771.toNat x772) x773.toNat (45:Int)) 8 (0:Int),Vec.getD 65 (Vec.set 65 (Vec.set 65 s765.2.2.1 x771.toNat x772) x773.toNat (45:Int)) 9 (0:Int),Vec.getD 65 (Vec.set 65 (Vec.set 65 s765.2.2.1 x771.toNat x772) x773.toNat (45:Int)) 10 (0:Int),Vec.getD 65 (Vec.set 65 (Vec.set 65 s765.2.2.1 x771.toNat x772) x773.toNat (45:Int)) 11 (0:Int),Vec.getD 65 (Vec.set 65 (Vec.set 65 s765.2.2.1 x771.toNat x772) x773.toNat (45:Int)) 12 (0:Int),Vec.getD 65 (Vec.set 65 (Vec.set 65 s765.2.2.1 x771.toNat x772) x773.toNat (45:Int)) 13 (0:Int),Vec.getD 65 (Vec.set 65 (Vec.set 65 s765.2.2.1 x771.toNat x772) x773.toNat (45:Int)) 14 (0:Int),Vec.getD 65 (Vec.set 65 (Vec.set 65 s765.2.2.1 x771.toNat x772) x773.toNat (45:Int)) 15 (0:Int),Vec.getD 65 (Vec.set 65 (Vec.set 65 s765.2.2.1 x771.toNat x772) x773.toNat (45:Int)) 16 (0:Int),Vec.getD 65 (Vec.set 65 (Vec.set 65 s765.2.2.1 x771.toNat x772) x773.toNat (45:Int)) 17 (0:Int),Vec.getD 65 (Vec.set 65 (Vec.set 65 s765.2.2.1 x771.toNat x772) x773.toNat (45:Int)) 18 (0:Int),Vec.getD 65 (Vec.set 65 (Vec.set 65 s765.2.2.1 x771.toNat x772) x773.toNat (45:Int)) 19 (0:Int),Vec.getD 65 (Vec.set 65 (Vec.set 65 s765.2.2.1 x771.toNat x772) x773.toNat (45:Int)) 20 (0:Int),Vec.getD 65 (Vec.set 65 (Vec.set 65 s765.2.2.1 x771.toNat x772) x773.toNat (45:Int)) 21 (0:Int),Vec.getD 65 (Vec.set 65 (Vec.set 65 s765.2.2.1 x771.toNat x772) x773.toNat (45:Int)) 22 (0:Int),Vec.getD 65 (Vec.set 65 (Vec.set 65 s765.2.2.1 x771.toNat x772) x773.toNat (45:Int)) 23 (0:Int),Vec.getD 65 (Vec.set 65 (Vec.set 65 s765.2.2.1 x771.toNat x772) x773.toNat (45:Int)) 24 (0:Int),Vec.getD 65 (Vec.set 65 (Vec.set 65 s765.2.2.1 x771.toNat x772) x773.toNat (45:Int)) 25 (0:Int),Vec.getD 65 (Vec.set 65 (Vec.set 65 s765.2.2.1 x771.toNat x772) x773.toNat (45:Int)) 26 (0:Int),Vec.getD 65 (Vec.set 65 (Vec.set 65 s765.2.2.1 x771.toNat x772) x773.toNat (45:Int)) 27 (0:Int),Vec.getD 65 (Vec.set 65 (Vec.set 65 s765.2.2.1 x771.toNat x772) x773.toNat (45:Int)) 28 (0:Int),Vec.getD 65 (Vec.set 65 (Vec.set 65 s765.2.2.1 x771.toNat x772) x773.toNat (45:Int)) 29 (0:Int),Vec.getD 65 (Vec.set 65 (Vec.set 65 s765.2.2.1 x771.toNat x772) x773.toNat (45:Int)) 30 (0:Int),Vec.getD 65 (Vec.set 65 (Vec.set 65 s765.2.2.1 x771.toNat x772) x773.toNat (45:Int)) 31 (0:Int),Vec.getD 65 (Vec.set 65 (Vec.set 65 s765.2.2.1 x771.toNat x772) x773.toNat (45:Int)) 32 (0:Int),Vec.getD 65 (Vec.set 65 (Vec.set 65 s765.2.2.1 x771.toNat x772) x773.toNat (45:Int)) 33 (0:Int),Vec.getD 65 (Vec.set 65 (Vec.set 65 s765.2.2.1 x771.toNat x772) x773.toNat (45:Int)) 34 (0:Int),Vec.getD 65 (Vec.set 65 (Vec.set 65 s765.2.2.1 x771.toNat x772) x773.toNat (45:Int)) 35 (0:Int),Vec.getD 65 (Vec.set 65 (Vec.set 65 s765.2.2.1 x771.toNat x772) x773.toNat (45:Int)) 36 (0:Int),Vec.getD 65 (Vec.set 65 (Vec.set 65 s765.2.2.1 x771.toNat x772) x773.toNat (45:Int)) 37 (0:Int),Vec.getD 65 (Vec.set 65 (Vec.set 65 s765.2.2.1 x771.toNat x772) x773.toNat (45:Int)) 38 (0:Int),Vec.getD 65 (Vec.set 65 (Vec.set 65 s765.2.2.1 x771.toNat x772) x773.toNat (45:Int)) 39 (0:Int),Vec.getD 65 (Vec.set 65 (Vec.set 65 s765.2.2.1 x771.toNat x772) x773.toNat (45:Int)) 40 (0:Int),Vec.getD 65 (Vec.set 65 (Vec.set 65 s765.2.2.1 x771.toNat x772) x773.toNat (45:Int)) 41 (0:Int),Vec.getD 65 (Vec.set 65 (Vec.set 65 s765.2.2.1 x771.toNat x772) x773.toNat (45:Int)) 42 (0:Int),Vec.getD 65 (Vec.set 65 (Vec.set 65 s765.2.2.1 x771.toNat x772) x773.toNat (45:Int)) 43 (0:Int),Vec.getD 65 (Vec.set 65 (Vec.set 65 s765.2.2.1 x771.toNat x772) x773.toNat (45:Int)) 44 (0:Int),Vec.getD 65 (Vec.set 65 (Vec.set 65 s765.2.2.1 x771.toNat x772) x773.toNat (45:Int)) 45 (0:Int),Vec.getD 65 (Vec.set 65 (Vec.set 65 s765.2.2.1 x771.toNat x772) x773.toNat (45:Int)) 46 (0:Int),Vec.getD 65 (Vec.set 65 (Vec.set 65 s765.2.2.1 x771.toNat x772) x773.toNat (45:Int)) 47 (0:Int),Vec.getD 65 (Vec.set 65 (Vec.set 65 s765.2.2.1 x771.toNat x772) x773.toNat (45:Int)) 48 (0:Int),Vec.getD 65 (Vec.set 65 (Vec.set 65 s765.2.2.1 x771.toNat x772) x773.toNat (45:Int)) 49 (0:Int),Vec.getD 65 (Vec.set 65 (Vec.set 65 s765.2.2.1 x771.toNat x772) x773.toNat (45:Int)) 50 (0:Int),Vec.getD 65 (Vec.set 65 (Vec.set 65 s765.2.2.1 x771.toNat x772) x773.toNat (45:Int)) 51 (0:Int),Vec.getD 65 (Vec.set 65 (Vec.set 65 s765.2.2.1 x771.toNat x772) x773.toNat (45:Int)) 52 (0:Int),Vec.getD 65 (Vec.set 65 (Vec.set 65 s765.2.2.1 x771.toNat x772) x773.toNat (45:Int)) 53 (0:Int),Vec.getD 65 (Vec.set 65 (Vec.set 65 s765.2.2.1 x771.toNat x772) x773.toNat (45:Int)) 54 (0:Int),Vec.getD 65 (Vec.set 65 (Vec.set 65 s765.2.2.1 x771.toNat x772) x773.toNat (45:Int)) 55 (0:Int),Vec.getD 65 (Vec.set 65 (Vec.set 65 s765.2.2.1 x771.toNat x772) x773.toNat (45:Int)) 56 (0:Int),Vec.getD 65 (Vec.set 65 (Vec.set 65 s765.2.2.1 x771.toNat x772) x773.toNat (45:Int)) 57 (0:Int),Vec.getD 65 (Vec.set 65 (Vec.set 65 s765.2.2.1 x771.toNat x772) x773.toNat (45:Int)) 58 (0:Int),Vec.getD 65 (Vec.set 65 (Vec.set 65 s765.2.2.1 x771.toNat x772) x773.toNat (45:Int)) 59 (0:Int),Vec.getD 65 (Vec.set 65 (Vec.set 65 s765.2.2.1 x771.toNat x772) x773.toNat (45:Int)) 60 (0:Int),Vec.getD 65 (Vec.set 65 (Vec.set 65 s765.2.2.1 x771.toNat x772) x773.toNat (45:Int)) 61 (0:Int),Vec.getD 65 (Vec.set 65 (Vec.set 65 s765.2.2.1 x771.toNat x772) x773.toNat (45:Int)) 62 (0:Int),Vec.getD 65 (Vec.set 65 (Vec.set 65 s765.2.2.1 x771.toNat x772) x773.toNat (45:Int)) 63 (0:Int),Vec.getD 65 (Vec.set 65 (Vec.set 65 s765.2.2.1 x771.toNat x772) x773.toNat (45:Int)) 64 (0:Int)]:(List Int))))),()),())
      else none
     else none
    else
    bif a4 then
     bif inS x771 Lq8 65 then none else none
    else
    bif inS x771 Lq8 65 then
     some ((([]:(List Int)),(ofBytes (List.take (65-x771.toNat) (List.drop x771.toNat ([Vec.getD 65 (Vec.set 65 s765.2.2.1 x771.toNat x772) 0 (0:Int),Vec.getD 65 (Vec.set 65 s765.2.2.1 x771.toNat x772) 1 (0:Int),Vec.getD 65 (Vec.set 65 s765.2.2.1 x771.toNat x772) 2 (0:Int),Vec.getD 65 (Vec.set 65 s765.2.2.1 x771.toNat x772) 3 (0:Int),Vec.getD 65 (Vec.set 65 s765.2.2.1 x771.toNat x772) 4 (0:Int),Vec.getD 65 (Vec.set 65 s765.2.2.1 x771.toNat x772) 5 (0:Int),Vec.getD 65 (Vec.set 65 s765.2.2.1 x771.toNat x772) 6 (0:Int),Vec.getD 65 (Vec.set 65 s765.2.2.1 x771.toNat x772) 7 (0:Int),Vec.getD 65 (Vec.set 65 s765.2.2.1 x771.toNat x772) 8 (0:Int),Vec.getD 65 (Vec.set 65 s765.2.2.1 x771.toNat x772) 9 (0:Int),Vec.getD 65 (Vec.set 65 s765.2.2.1 x771.toNat x772) 10 (0:Int),Vec.getD 65 (Vec.set 65 s765.2.2.1 x771.toNat x772) 11 (0:Int),Vec.getD 65 (Vec.set 65 s765.2.2.1 x771.toNat x772) 12 (0:Int),Vec.getD 65 (Vec.set 65 s765.2.2.1 x771.toNat x772) 13 (0:Int),Vec.getD 65 (Vec.set 65 s765.2.2.1 x771.toNat x772) 14 (0:Int),Vec.getD 65 (Vec.set 65 s765.2.2.1 x771.toNat x772) 15 (0:Int),Vec.getD 65 (Vec.set 65 s765.2.2.1 x771.toNat x772) 16 (0:Int),Vec.getD 65 (Vec.set 65 s765.2.2.1 x771.toNat x772) 17 (0:Int),Vec.getD 65 (Vec.set 65 s765.2.2.1 x771.toNat x772) 18 (0:Int),Vec.getD 65 (Vec.set 65 s765.2.2.1 x771.toNat x772) 19 (0:Int),Vec.getD 65 (Vec.set 65 s765.2.2.1 x771.toNat x772) 20 (0:Int),Vec.getD 65 (Vec.set 65 s765.2.2.1 x771.toNat x772) 21 (0:Int),Vec.getD 65 (Vec.set 65 s765.2.2.1 x771.toNat x772) 22 (0:Int),Vec.getD 65 (Vec.set 65 s765.2.2.1 x771.toNat x772) 23 (0:Int),Vec.getD 65 (Vec.set 65 s765.2.2.1 x771.toNat x772) 24 (0:Int),Vec.getD 65 (Vec.set 65 s765.2.2.1 x771.toNat x772) 25 (0:Int),Vec.getD 65 (Vec.set 65 s765.2.2.1 x771.toNat x772) 26 (0:Int),Vec.getD 65 (Vec.set 65 s765.2.2.1 x771.toNat x772) 27 (0:Int),Vec.getD 65 (Vec.set 65 s765.2.2.1 x771.toNat x772) 28 (0:Int),Vec.getD 65 (Vec.set 65 s765.2.2.1 x771.toNat x772) 29 (0:Int),Vec.getD 65 (Vec.set 65 s765.2.2.1 x771.toNat x772) 30 (0:Int),Vec.getD 65 (Vec.set 65 s765.2.2.1 x771.toNat x772) 31 (0:Int),Vec.getD 65 (Vec.set 65 s765.2.2.1 x771.toNat x772) 32 (0:Int),Vec.getD 65 (Vec.set 65 s765.2.2.1 x771.toNat x772) 33 (0:Int),Vec.getD 65 (Vec.set 65 s765.2.2.1 x771.toNat x772) 34 (0:Int),Vec.getD 65 (Vec.set 65 s765.2.2.1 x771.toNat x772) 35 (0:Int),Vec.getD 65 (Vec.set 65 s765.2.2.1 x771.toNat x772) 36 (0:Int),Vec.getD 65 (Vec.set 65 s765.2.2.1 x771.toNat x772) 37 (0:Int),Vec.getD 65 (Vec.set 65 s765.2.2.1 x771.toNat x772) 38 (0:Int),Vec.getD 65 (Vec.set 65 s765.2.2.1 x771.toNat x772) 39 (0:Int),Vec.getD 65 (Vec.set 65 s765.2.2.1 x771.toNat x772) 40 (0:Int),Vec.getD 65 (Vec.set 65 s765.2.2.1 x771.toNat x772) 41 (0:Int),Vec.getD 65 (Vec.set 65 s765.2.2.1 x771.toNat x772) 42 (0:Int),Vec.getD 65 (Vec.set 65 s765.2.2.1 x771.toNat x772) 43 (0:Int),Vec.getD 65 (Vec.set 65 s765.2.2.1 x771.toNat x772) 44 (0:Int),Vec.getD 65 (Vec.set 65 s765.2.2.1 x771.toNat x772) 45 (0:Int),Vec.getD 65 (Vec.set 65 s765.2.2.1 x771.toNat x772) 46 (0:Int),Vec.getD 65 (Vec.set 65 s765.2.2.1 x771.toNat x772) 47 (0:Int),Vec.getD 65 (Vec.set 65 s765.2.2.1 x771.toNat x772) 48 (0:Int),Vec.getD 65 (Vec.set 65 s765.2.2.1 x771.toNat x772) 49 (0:Int),Vec.getD 65 (Vec.set 65 s765.2.2.1 x771.toNat x772) 50 (0:Int),Vec.getD 65 (Vec.set 65 s765.2.2.1 x771.toNat x772) 51 (0:Int),Vec.getD 65 (Vec.set 65 s765.2.2.1 x771.toNat x772) 52 (0:Int),Vec.getD 65 (Vec.set 65 s765.2.2.1 x771.toNat x772) 53 (0:Int),Vec.getD 65 (Vec.set 65 s765.2.2.1 x771.toNat x772) 54 (0:Int),Vec.getD 65 (Vec.set 65 s765.2.2.1 x771.toNat x772) 55 (0:Int),Vec.getD 65 (Vec.set 65 s765.2.2.1 x771.toNat x772) 56 (0:Int),Vec.getD 65 (Vec.set 65 s765.2.2.1 x771.toNat x772) 57 (0:Int),Vec.getD 65 (Vec.set 65 s765.2.2.1 x771.toNat x772) 58 (0:Int),Vec.getD 65 (Vec.set 65 s765.2.2.1 x771.toNat x772) 59 (0:Int),Vec.getD 65 (Vec.set 65 s765.2.2.1 x771.toNat x772) 60 (0:Int),Vec.getD 65 (Vec.set 65 s765.2.2.1 x771.toNat x772) 61 (0:Int),Vec.getD 65 (Vec.set 65 s765.2.2.1 x771.toNat x772) 62 (0:Int),Vec.getD 65 (Vec.set 65 s765.2.2.1 x771.toNat x772) 63 (0:Int),Vec.getD 65 (Vec.set 65 s765.2.2.1 x771.toNat x772) 64 (0:Int)]:(List Int))))),()),())
    else none
   else none
  else none)
def qk5 (x776:Int) (a3:Bool) (a4:Bool) (s784:Dq16):Option (Dq16⊕Dq21) :=
 bif (iLe x776 s784.1) then
  let x786:=iSub .i64 s784.2.1 1
  bif iEq x776 0 then none else
  let x787:=iQuo .u64 s784.1 x776
  let x789:=iSub .u64 s784.1 (iMul .u64 x787 x776)
  bif inB x789 (List.length ([48,49,50,51,52,53,54,55,56,57,97,98,99,100,101,102,103,104,105,106,107,108,109,110,111,112,113,114,115,116,117,118,119,120,121,122])) then
   bif inB x786 65 then some (Sum.inl (x787,x786,Vec.set 65 s784.2.2.1 x786.toNat (strAt ([48,49,50,51,52,53,54,55,56,57,97,98,99,100,101,102,103,104,105,106,107,108,109,110,111,112,113,114,115,116,117,118,119,120,121,122]) x789),())) else none
  else none
 else
 Option.map Sum.inr (
  let x791:=iSub .i64 s784.2.1 1
  bif inB s784.1 (List.length ([48,49,50,51,52,53,54,55,56,57,97,98,99,100,101,102,103,104,105,106,107,108,109,110,111,112,113,114,115,116,117,118,119,120,121,122])) then
   let x792:=strAt ([48,49,50,51,52,53,54,55,56,57,97,98,99,100,101,102,103,104,105,106,107,108,109,110,111,112,113,114,115,116,117,118,119,120,121,122]) s784.1
   bif inB x791 65 then
    bif a3 then
     let x793:=iSub .i64 x791 1
     bif inB x793 65 then
      bif a4 then
       bif inS x793 Lq8 65 then none else none
      else
      bif inS x793 Lq8 65 then
       some ((([]:(List Int)),(ofBytes (List.take (65-x793.toNat) (List.drop x793.toNat ([Vec.getD 65 (Vec.set 65 (Vec.set 65 s784.2.2.1 x791.toNat x792) x793.toNat (45:Int)) 0 (0:Int),Vec.getD 65 (Vec.set 65 (Vec.set 65 s784.2.2.1 x791.toNat x792) x793.toNat (45:Int)) 1 (0:Int),Vec.getD 65 (Vec.set 65 (Vec.set 65 s784.2.2.1 x791.toNat x792) x793.toNat (45:Int)) 2 (0:Int),Vec.getD 65 (Vec.set 65 (Vec.set 65 s784.2.2.1 x791.toNat x792) x793.toNat (45:Int)) 3 (0:Int),Vec.getD 65 (Vec.set 65 (Vec.set 65 s784.2.2.1 x791.toNat x792) x793.toNat (45:Int)) 4 (0:Int),Vec.getD 65 (Vec.set 65 (Vec.set 65 s784.2.2.1 x791.toNat x792) x793.toNat (45:Int)) 5 (0:Int),Vec.getD 65 (Vec.set 65 (Vec.set 65 s784.2.2.1 x791.toNat x792) x793.toNat (45:Int)) 6 (0:Int),Vec.getD 65 (Vec.set 65 (Vec.set 65 s784.2.2.1 x791.toNat x792) x793.toNat (45:Int)) 7 (0:Int),Vec.getD 65 (Vec.set 65 (Vec.set 65 s784.2.2.1 x791.toNat x792) x793.toNat (45:Int)) 8 (0:Int),Vec.getD 65 (Vec.set 65 (Vec.set 65 s784.2.2.1 x791.toNat x792) x793.toNat (45:Int)) 9 (0:Int),Vec.getD 65 (Vec.set 65 (Vec.set 65 s784.2.2.1 x791.toNat x792) x793.toNat (45:Int)) 10 (0:Int),Vec.getD 65 (Vec.set 65 (Vec.set 65 s784.2.2.1 x791.toNat x792) x793.toNat (45:Int)) 11 (0:Int),Vec.getD 65 (Vec.set 65 (Vec.set 65 s784.2.2.1 x791.toNat x792) x793.toNat (45:Int)) 12 (0:Int),Vec.getD 65 (Vec.set 65 (Vec.set 65 s784.2.2.1 x791.toNat x792) x793.toNat (45:Int)) 13 (0:Int),Vec.getD 65 (Vec.set 65 (Vec.set 65 s784.2.2.1 x791.toNat x792) x793.toNat (45:Int)) 14 (0:Int),Vec.getD 65 (Vec.set 65 (Vec.set 65 s784.2.2.1 x791.toNat x792) x793.toNat (45:Int)) 15 (0:Int),Vec.getD 65 (Vec.set 65 (Vec.set 65 s784.2.2.1 x791.toNat x792) x793.toNat (45:Int)) 16 (0:Int),Vec.getD 65 (Vec.set 65 (Vec.set 65 s784.2.2.1 x791.toNat x792) x793.toNat (45:Int)) 17 (0:Int),Vec.getD 65 (Vec.set 65 (Vec.set 65 s784.2.2.1 x791.toNat x792) x793.toNat (45:Int)) 18 (0:Int),Vec.getD 65 (Vec.set 65 (Vec.set 65 s784.2.2.1 x791.toNat x792) x793.toNat (45:Int)) 19 (0:Int),Vec.getD 65 (Vec.set 65 (Vec.set 65 s784.2.2.1 x791.toNat x792) x793.toNat (45:Int)) 20 (0:Int),Vec.getD 65 (Vec.set 65 (Vec.set 65 s784.2.2.1 x791.toNat x792) x793.toNat (45:Int)) 21 (0:Int),Vec.getD 65 (Vec.set 65 (Vec.set 65 s784.2.2.1 x791.toNat x792) x793.toNat (45:Int)) 22 (0:Int),Vec.getD 65 (Vec.set 65 (Vec.set 65 s784.2.2.1 x791.toNat x792) x793.toNat (45:Int)) 23 (0:Int),Vec.getD 65 (Vec.set 65 (Vec.set 65 s784.2.2.1 x791.toNat x792) x793.toNat (45:Int)) 24 (0:Int),Vec.getD 65 (Vec.set 65 (Vec.set 65 s784.2.2.1 x791.toNat x792) x793.toNat (45:Int)) 25 (0:Int),Vec.getD 65 (Vec.set 65 (Vec.set 65 s784.2.2.1 x791.toNat x792) x793.toNat (45:Int)) 26 (0:Int),Vec.getD 65 (Vec.set 65 (Vec.set 65 s784.2.2.1 x791.toNat x792) x793.toNat (45:Int)) 27 (0:Int),Vec.getD 65 (Vec.set 65 (Vec.set 65 s784.2.2.1 x791.toNat x792) x793.toNat (45:Int)) 28 (0:Int),Vec.getD 65 (Vec.set 65 (Vec.set 65 s784.2.2.1 x791.toNat x792) x793.toNat (45:Int)) 29 (0:Int),Vec.getD 65 (Vec.set 65 (Vec.set 65 s784.2.2.1 x791.toNat x792) x793.toNat (45:Int)) 30 (0:Int),Vec.getD 65 (Vec.set 65 (Vec.set 65 s784.2.2.1 x791.toNat x792) x793.toNat (45:Int)) 31 (0:Int),Vec.getD 65 (Vec.set 65 (Vec.set 65 s784.2.2.1 x791.toNat x792) x793.toNat (45:Int)) 32 (0:Int),Vec.getD 65 (Vec.set 65 (Vec.set 65 s784.2.2.1 x791.toNat x792) x793.toNat (45:Int)) 33 (0:Int),Vec.getD 65 (Vec.set 65 (Vec.set 65 s784.2.2.1 x791.toNat x792) x793.toNat (45:Int)) 34 (0:Int),Vec.getD 65 (Vec.set 65 (Vec.set 65 s784.2.2.1 x791.toNat x792) x793.toNat (45:Int)) 35 (0:Int),Vec.getD 65 (Vec.set 65 (Vec.set 65 s784.2.2.1 x791.toNat x792) x793.toNat (45:Int)) 36 (0:Int),Vec.getD 65 (Vec.set 65 (Vec.set 65 s784.2.2.1 x791.toNat x792) x793.toNat (45:Int)) 37 (0:Int),Vec.getD 65 (Vec.set 65 (Vec.set 65 s784.2.2.1 x791.toNat x792) x793.toNat (45:Int)) 38 (0:Int),Vec.getD 65 (Vec.set 65 (Vec.set 65 s784.2.2.1 x791.toNat x792) x793.toNat (45:Int)) 39 (0:Int),Vec.getD 65 (Vec.set 65 (Vec.set 65 s784.2.2.1 x791.toNat x792) x793.toNat (45:Int)) 40 (0:Int),Vec.getD 65 (Vec.set 65 (Vec.set 65 s784.2.2.1 x791.toNat x792) x793.toNat (45:Int)) 41 (0:Int),Vec.getD 65 (Vec.set 65 (Vec.set 65 s784.2.2.1 x791.toNat x792) x793.toNat (45:Int)) 42 (0:Int),Vec.getD 65 (Vec.set 65 (Vec.set 65 s784.2.2.1 x791.toNat x792) x793.toNat (45:Int)) 43 (0:Int),Vec.getD 65 (Vec.set 65 (Vec.set 65 s784.2.2.1 x791.toNat x792) x793.toNat (45:Int)) 44 (0:Int),Vec.getD 65 (Vec.set 65 (Vec.set 65 s784.2.2.1 x791.toNat x792) x793.toNat (45:Int)) 45 (0:Int),Vec.getD 65 (Vec.set 65 (Vec.set 65 s784.2.2.1 x791.toNat x792) x793.toNat (45:Int)) 46 (0:Int),Vec.getD 65 (Vec.set 65 (Vec.set 65 s784.2.2.1 x791.toNat x792) x793.toNat (45:Int)) 47 (0:Int),Vec.getD 65 (Vec.set 65 (Vec.set 65 s784.2.2.1 x791.toNat x792) x793.toNat (45:Int)) 48 (0:Int),Vec.getD 65 (Vec.set 65 (Vec.set 65 s784.2.2.1 x791.toNat x792) x793.toNat (45:Int)) 49 (0:Int),Vec.getD 65 (Vec.set 65 (Vec.set 65 s784.2.2.1 x791.toNat x792) x793.toNat (45:Int)) 50 (0:Int),Vec.getD 65 (Vec.set 65 (Vec.set 65 s784.2.2.1 x791.toNat x792) x793.toNat (45:Int)) 51 (0:Int),Vec.getD 65 (Vec.set 65 (Vec.set 65 s784.2.2.1 x791.toNat x792) x793.toNat (45:Int)) 52 (0:Int),Vec.getD 65 (Vec.set 65 (Vec.set 65 s784.2.2.1 x791.toNat x792) x793.toNat (45:Int)) 53 (0:Int),Vec.getD 65 (Vec.set 65 (Vec.set 65 s784.2.2.1 x791.toNat x792) x793.toNat (45:Int)) 54 (0:Int),Vec.getD 65 (Vec.set 65 (Vec.set 65 s784.2.2.1 x791.toNat x792) x793.toNat (45:Int)) 55 (0:Int),Vec.getD 65 (Vec.set 65 (Vec.set 65 s784.2.2.1 x791.toNat x792) x793.toNat (45:Int)) 56 (0:Int),Vec.getD 65 (Vec.set 65 (Vec.set 65 s784.2.2.1 x791.toNat x792) x793.toNat (45:Int)) 57 (0:Int),Vec.getD 65 (Vec.set 65 (Vec.set 65 s784.2.2.1 x791.toNat x792) x793.toNat (45:Int)) 58 (0:Int),Vec.getD 65 (Vec.set 65 (Vec.set 65 s784.2.2.1 x791.toNat x792) x793.toNat (45:Int)) 59 (0:Int),Vec.getD 65 (Vec.set 65 (Vec.set 65 s784.2.2.1 x791.toNat x792) x793.toNat (45:Int)) 60 (0:Int),Vec.getD 65 (Vec.set 65 (Vec.set 65 s784.2.2.1 x791.toNat x792) x793.toNat (45:Int)) 61 (0:Int),Vec.getD 65 (Vec.set 65 (Vec.set 65 s784.2.2.1 x791.toNat x792) x793.toNat (45:Int)) 62 (0:Int),Vec.getD 65 (Vec.set 65 (Vec.set 65 s784.2.2.1 x791.toNat x792) x793.toNat (45:Int)) 63 (0:Int),Vec.getD 65 (Vec.set 65 (Vec.set 65 s784.2.2.1 x791.toNat x792) x793.toNat (45:Int)) 64 (0:Int)]:(List Int))))),()),())
      else none
     else none
    else
    bif a4 then
     bif inS x791 Lq8 65 then none else none
    else
    bif inS x791 Lq8 65 then
     some ((([]:(List Int)),(ofBytes (List.take (65-x791.toNat) (List.drop x791.toNat ([Vec.getD 65 (Vec.set 65 s784.2.2.1 x791.toNat x792) 0 (0:Int),Vec.getD 65 (Vec.set 65 s784.2.2.1 x791.toNat x792) 1 (0:Int),Vec.getD 65 (Vec.set 65 s784.2.2.1 x791.toNat x792) 2 (0:Int),Vec.getD 65 (Vec.set 65 s784.2.2.1 x791.toNat x792) 3 (0:Int),Vec.getD 65 (Vec.set 65 s784.2.2.1 x791.toNat x792) 4 (0:Int),Vec.getD 65 (Vec.set 65 s784.2.2.1 x791.toNat x792) 5 (0:Int),Vec.getD 65 (Vec.set 65 s784.2.2.1 x791.toNat x792) 6 (0:Int),Vec.getD 65 (Vec.set 65 s784.2.2.1 x791.toNat x792) 7 (0:Int),Vec.getD 65 (Vec.set 65 s784.2.2.1 x791.toNat x792) 8 (0:Int),Vec.getD 65 (Vec.set 65 s784.2.2.1 x791.toNat x792) 9 (0:Int),Vec.getD 65 (Vec.set 65 s784.2.2.1 x791.toNat x792) 10 (0:Int),Vec.getD 65 (Vec.set 65 s784.2.2.1 x791.toNat x792) 11 (0:Int),Vec.getD 65 (Vec.set 65 s784.2.2.1 x791.toNat x792) 12 (0:Int),Vec.getD 65 (Vec.set 65 s784.2.2.1 x791.toNat x792) 13 (0:Int),Vec.getD 65 (Vec.set 65 s784.2.2.1 x791.toNat x792) 14 (0:Int),Vec.getD 65 (Vec.set 65 s784.2.2.1 x791.toNat x792) 15 (0:Int),Vec.getD 65 (Vec.set 65 s784.2.2.1 x791.toNat x792) 16 (0:Int),Vec.getD 65 (Vec.set 65 s784.2.2.1 x791.toNat x792) 17 (0:Int),Vec.getD 65 (Vec.set 65 s784.2.2.1 x791.toNat x792) 18 (0:Int),Vec.getD 65 (Vec.set 65 s784.2.2.1 x791.toNat x792) 19 (0:Int),Vec.getD 65 (Vec.set 65 s784.2.2.1 x791.toNat x792) 20 (0:Int),Vec.getD 65 (Vec.set 65 s784.2.2.1 x791.toNat x792) 21 (0:Int),Vec.getD 65 (Vec.set 65 s784.2.2.1 x791.toNat x792) 22 (0:Int),Vec.getD 65 (Vec.set 65 s784.2.2.1 x791.toNat x792) 23 (0:Int),Vec.getD 65 (Vec.set 65 s784.2.2.1 x791.toNat x792) 24 (0:Int),Vec.getD 65 (Vec.set 65 s784.2.2.1 x791.toNat x792) 25 (0:Int),Vec.getD 65 (Vec.set 65 s784.2.2.1 x791.toNat x792) 26 (0:Int),Vec.getD 65 (Vec.set 65 s784.2.2.1 x791.toNat x792) 27 (0:Int),Vec.getD 65 (Vec.set 65 s784.2.2.1 x791.toNat x792) 28 (0:Int),Vec.getD 65 (Vec.set 65 s784.2.2.1 x791.toNat x792) 29 (0:Int),Vec.getD 65 (Vec.set 65 s784.2.2.1 x791.toNat x792) 30 (0:Int),Vec.getD 65 (Vec.set 65 s784.2.2.1 x791.toNat x792) 31 (0:Int),Vec.getD 65 (Vec.set 65 s784.2.2.1 x791.toNat x792) 32 (0:Int),Vec.getD 65 (Vec.set 65 s784.2.2.1 x791.toNat x792) 33 (0:Int),Vec.getD 65 (Vec.set 65 s784.2.2.1 x791.toNat x792) 34 (0:Int),Vec.getD 65 (Vec.set 65 s784.2.2.1 x791.toNat x792) 35 (0:Int),Vec.getD 65 (Vec.set 65 s784.2.2.1 x791.toNat x792) 36 (0:Int),Vec.getD 65 (Vec.set 65 s784.2.2.1 x791.toNat x792) 37 (0:Int),Vec.getD 65 (Vec.set 65 s784.2.2.1 x791.toNat x792) 38 (0:Int),Vec.getD 65 (Vec.set 65 s784.2.2.1 x791.toNat x792) 39 (0:Int),Vec.getD 65 (Vec.set 65 s784.2.2.1 x791.toNat x792) 40 (0:Int),Vec.getD 65 (Vec.set 65 s784.2.2.1 x791.toNat x792) 41 (0:Int),Vec.getD 65 (Vec.set 65 s784.2.2.1 x791.toNat x792) 42 (0:Int),Vec.getD 65 (Vec.set 65 s784.2.2.1 x791.toNat x792) 43 (0:Int),Vec.getD 65 (Vec.set 65 s784.2.2.1 x791.toNat x792) 44 (0:Int),Vec.getD 65 (Vec.set 65 s784.2.2.1 x791.toNat x792) 45 (0:Int),Vec.getD 65 (Vec.set 65 s784.2.2.1 x791.toNat x792) 46 (0:Int),Vec.getD 65 (Vec.set 65 s784.2.2.1 x791.toNat x792) 47 (0:Int),Vec.getD 65 (Vec.set 65 s784.2.2.1 x791.toNat x792) 48 (0:Int),Vec.getD 65 (Vec.set 65 s784.2.2.1 x791.toNat x792) 49 (0:Int),Vec.getD 65 (Vec.set 65 s784.2.2.1 x791.toNat x792) 50 (0:Int),Vec.getD 65 (Vec.set 65 s784.2.2.1 x791.toNat x792) 51 (0:Int),Vec.getD 65 (Vec.set 65 s784.2.2.1 x791.toNat x792) 52 (0:Int),Vec.getD 65 (Vec.set 65 s784.2.2.1 x791.toNat x792) 53 (0:Int),Vec.getD 65 (Vec.set 65 s784.2.2.1 x791.toNat x792) 54 (0:Int),Vec.getD 65 (Vec.set 65 s784.2.2.1 x791.toNat x792) 55 (0:Int),Vec.getD 65 (Vec.set 65 s784.2.2.1 x791.toNat x792) 56 (0:Int),Vec.getD 65 (Vec.set 65 s784.2.2.1 x791.toNat x792) 57 (0:Int),Vec.getD 65 (Vec.set 65 s784.2.2.1 x791.toNat x792) 58 (0:Int),Vec.getD 65 (Vec.set 65 s784.2.2.1 x791.toNat x792) 59 (0:Int),Vec.getD 65 (Vec.set 65 s784.2.2.1 x791.toNat x792) 60 (0:Int),Vec.getD 65 (Vec.set 65 s784.2.2.1 x791.toNat x792) 61 (0:Int),Vec.getD 65 (Vec.set 65 s784.2.2.1 x791.toNat x792) 62 (0:Int),Vec.getD 65 (Vec.set 65 s784.2.2.1 x791.toNat x792) 63 (0:Int),Vec.getD 65 (Vec.set 65 s784.2.2.1 x791.toNat x792) 64 (0:Int)]:(List Int))))),()),())
    else none
   else none
  else none)
def qcw (a0:(List Int)) (a1:Int) (a2:Int) (a3:Bool) (a4:Bool):Option Dq21 :=
 bif (iLt a2 2) then none else
 bif (iEq a2 10) then none else
 bif (iLt 36 a2) then none else
 bif a3 then
  let x707:=iSub .u64 0 a1
  (qce a2).bind fun y708 =>
  bif y708.1.1 then
   (qbg (iWrap .u64 a2)).bind fun y710 =>
   let x711:=iWrap .u64 y710.1.1
   let x712:=iWrap .u64 a2
   let x714:=iSub .u64 (iWrap .u64 a2) 1
   run (qmi x712 x714 x711 a3 a4) (x707,(65:Int),Lq5,())
  else
  let x732:=iWrap .u64 a2
  run (qmj x732 a3 a4) (x707,(65:Int),Lq5,())
 else
 (qce a2).bind fun y752 =>
 bif y752.1.1 then
  (qbg (iWrap .u64 a2)).bind fun y754 =>
  let x755:=iWrap .u64 y754.1.1
  let x756:=iWrap .u64 a2
  let x758:=iSub .u64 (iWrap .u64 a2) 1
  run (qbx x756 x758 x755 a3 a4) (a1,(65:Int),Lq5,())
 else
 let x776:=iWrap .u64 a2
 run (qk5 x776 a3 a4) (a1,(65:Int),Lq5,())
def qgl:Entry:=⟨⟨[.v (.list (.int .u8)),.v (.int .u64),.v (.int .i64),.v (.bool),.v (.bool)],[.v (.rows (.int .u8)),.v (.val (.str))],false⟩,fun x=>qcw x.1 x.2.1 x.2.2.1 x.2.2.2.1 x.2.2.2.2.1⟩
theorem qmy (db:GDeb Tryz.prog G):Sound Tryz.prog G 185 qgl:=qab (envS (l:=[(219,qfs),(220,qev)]) ⟨(qlx),(qp0 db),trivial⟩) [(11,.vary [(1,.sc (.int .u64)),(13,.sc (.int .i64)),(12,.box (.val (.arr 65 (.int .u8))))]),(18,.vary [(1,.sc (.int .u64)),(13,.sc (.int .i64)),(12,.box (.val (.arr 65 (.int .u8))))])] Tryz.func185 (by kernel_rfl) rfl fun _=>by kernel_rfl
end
end Go.Proofs.YtjhdoneobdbeaaaGreatDoor
