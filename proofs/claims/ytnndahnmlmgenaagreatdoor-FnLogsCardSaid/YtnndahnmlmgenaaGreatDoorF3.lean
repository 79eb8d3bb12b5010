import Derived.Test.YtnndahnmlmgenaaGreatDoorF2
/- Functions on typed data: what the evaluation of each Go function is, and that it is sound. -/
set_option linter.unusedVariables false
namespace Go.Proofs.YtnndahnmlmgenaaGreatDoor
open Go Go.Tm
noncomputable section
set_option maxRecDepth 100000
variable {G : List (Nat × Obj)}
def qbd (a0:Dq1) (a1:List UInt8) (a2:Int) (a3:Int):Option ((Int×Unit)×(Dq1×Unit)) :=
 bif (sEq a1 ([114,97,116,101])) then
  (qby a2 (1:Int) (64:Int)).bind fun y1928 =>
  bif (! y1928.1.1) then
   some (((2:Int),()),((((a0.1.1,a0.1.2.1,a0.1.2.2.1,a0.1.2.2.2.1,a0.1.2.2.2.2),a0.2.1,a0.2.2.1,a0.2.2.2.1,a0.2.2.2.2.1,a0.2.2.2.2.2):Dq1),()))
  else
  bif (iLt 0 (lenI a0.1.2.2.2.1)) then
   some (((4:Int),()),((((a0.1.1,a0.1.2.1,a0.1.2.2.1,a0.1.2.2.2.1,a0.1.2.2.2.2),a0.2.1,a0.2.2.1,a0.2.2.2.1,a0.2.2.2.2.1,a0.2.2.2.2.2):Dq1),()))
  else
  some (((0:Int),()),((((a2,a0.1.2.1,a0.1.2.2.1,a0.1.2.2.2.1,a0.1.2.2.2.2),a0.2.1,a0.2.2.1,a0.2.2.2.1,a0.2.2.2.2.1,a0.2.2.2.2.2):Dq1),()))
 else
 bif (sEq a1 ([102,105,120])) then
  bif (iLt 400 a2) then
   some (((2:Int),()),((((a0.1.1,a0.1.2.1,a0.1.2.2.1,a0.1.2.2.2.1,a0.1.2.2.2.2),a0.2.1,a0.2.2.1,a0.2.2.2.1,a0.2.2.2.2.1,a0.2.2.2.2.2):Dq1),()))
  else
  some (((0:Int),()),((((a0.1.1,a0.1.2.1,a0.1.2.2.1,a0.1.2.2.2.1,a0.1.2.2.2.2),a2,a0.2.2.1,a0.2.2.2.1,a0.2.2.2.2.1,a0.2.2.2.2.2):Dq1),()))
 else
 bif (sEq a1 ([104,111,108,100])) then
  (qcx (((a0.1.1,a0.1.2.1,a0.1.2.2.1,a0.1.2.2.2.1,a0.1.2.2.2.2),a0.2.1,a0.2.2.1,a0.2.2.2.1,a0.2.2.2.2.1,a0.2.2.2.2.2):Dq1) Lq6 a2).bind fun y1934 =>
  some ((y1934.1.1,()),((((y1934.2.1.1.1,y1934.2.1.1.2.1,y1934.2.1.1.2.2.1,y1934.2.1.1.2.2.2.1,y1934.2.1.1.2.2.2.2),y1934.2.1.2.1,y1934.2.1.2.2.1,y1934.2.1.2.2.2.1,y1934.2.1.2.2.2.2.1,y1934.2.1.2.2.2.2.2):Dq1),()))
 else
 bif (sEq a1 ([114,97,110,103,101])) then
  (ql9 (((a0.1.1,a0.1.2.1,a0.1.2.2.1,a0.1.2.2.2.1,a0.1.2.2.2.2),a0.2.1,a0.2.2.1,a0.2.2.2.1,a0.2.2.2.2.1,a0.2.2.2.2.2):Dq1) a2).bind fun y1936 =>
  some ((y1936.1.1,()),((((y1936.2.1.1.1,y1936.2.1.1.2.1,y1936.2.1.1.2.2.1,y1936.2.1.1.2.2.2.1,y1936.2.1.1.2.2.2.2),y1936.2.1.2.1,y1936.2.1.2.2.1,y1936.2.1.2.2.2.1,y1936.2.1.2.2.2.2.1,y1936.2.1.2.2.2.2.2):Dq1),()))
 else
 (qby a2 (1:Int) (16:Int)).bind fun y1937 =>
 bif (! y1937.1.1) then
  some (((2:Int),()),((((a0.1.1,a0.1.2.1,a0.1.2.2.1,a0.1.2.2.2.1,a0.1.2.2.2.2),a0.2.1,a0.2.2.1,a0.2.2.2.1,a0.2.2.2.2.1,a0.2.2.2.2.2):Dq1),()))
 else
 bif (iEq (lenI a0.2.2.2.1) 3) then
  some (((3:Int),()),((((a0.1.1,a0.1.2.1,a0.1.2.2.1,a0.1.2.2.2.1,a0.1.2.2.2.2),a0.2.1,a0.2.2.1,a0.2.2.2.1,a0.2.2.2.2.1,a0.2.2.2.2.2):Dq1),()))
 else
 bif room (List.length a0.2.2.2.1+1) 8 then
  bif room (List.length a0.2.2.2.2.1+1) 8 then
   some (((0:Int),()),((((a0.1.1,a0.1.2.1,a0.1.2.2.1,a0.1.2.2.2.1,a0.1.2.2.2.2),a0.2.1,a0.2.2.1,(a0.2.2.2.1++([(iAdd .i64 a3 1)]:(List Int))),(a0.2.2.2.2.1++([(iSub .i64 a2 1)]:(List Int))),a0.2.2.2.2.2):Dq1),()))
  else none
 else none
def qpy:Entry:=⟨⟨[.io (.pair (.pair (.val (.int .i64)) (.pair (.val (.arr 3 (.flt .f32))) (.pair (.rows (.arr 3 (.flt .f32))) (.pair (.rows Uq10) (.val (.unit)))))) (.pair (.val (.int .i64)) (.pair (.val (.int .i64)) (.pair (.rows (.int .i64)) (.pair (.rows (.int .i64)) (.val (.unit))))))),.v (.str),.v (.int .i64),.v (.int .i64)],[.v (.val (.int .i64))],false⟩,fun x=>qbd x.1 x.2.1 x.2.2.1 x.2.2.2.1⟩
theorem qzj:Sound Tryz.prog G 185 qpy:=qab (envS (l:=[(117,qeo),(232,qkj),(233,qpb)]) ⟨(qfw),(qpx),(qyv),trivial⟩) [] Tryz.func185 (by kernel_rfl) rfl fun _=>by kernel_rfl
def qdt (a0:List UInt8) (a1:Int) (s2058:((List (List UInt8))×Int×Int×Unit)):Option (((List (List UInt8))×Int×Int×Unit)⊕Dq33) :=
 bif (iLt s2058.2.2.1 (lenI a0)) then
  bif inB s2058.2.2.1 (List.length a0) then
   bif (iEq (strAt a0 s2058.2.2.1) a1) then
    bif inS s2058.2.1 s2058.2.2.1 (List.length a0) then
     bif room (List.length s2058.1+1) 16 then
      some (Sum.inl ((s2058.1++([(subL a0 s2058.2.1 s2058.2.2.1)]:(List (List UInt8)))),(iAdd .i64 s2058.2.2.1 1),(iAdd .i64 s2058.2.2.1 1),()))
     else none
    else none
   else
   some (Sum.inl (s2058.1,s2058.2.1,(iAdd .i64 s2058.2.2.1 1),()))
  else none
 else
 Option.map Sum.inr (
  bif inS s2058.2.1 (lenI a0) (List.length a0) then
   bif room (List.length s2058.1+1) 16 then
    some (((s2058.1++([(dropL a0 s2058.2.1)]:(List (List UInt8)))),()),())
   else none
  else none)
def qbx (a0:List UInt8) (a1:Int):Option Dq33 :=
 run (qdt a0 a1) (([]:(List (List UInt8))),(0:Int),(0:Int),())
def qjk:Entry:=⟨⟨[.v (.str),.v (.int .u8)],[.v (.rows (.str))],false⟩,fun x=>qbx x.1 x.2.1⟩
theorem qnf:Sound Tryz.prog G 150 qjk:=qab (envS (l:=[]) trivial) [(4,.vary [(5,.rows (.str)),(6,.sc (.int .i64)),(7,.sc (.int .i64))])] Tryz.func150 (by kernel_rfl) rfl fun _=>by kernel_rfl
def qbs (a0:List UInt8) (s2076:Dq26):Option (Dq26⊕((Int×Bool×Unit)×Unit)) :=
 bif (iLt s2076.2.1 (lenI a0)) then
  bif inB s2076.2.1 (List.length a0) then
   bif (iLt (strAt a0 s2076.2.1) 48) then
    Option.map Sum.inr (some (((0:Int),false,()),()))
   else
   bif inB s2076.2.1 (List.length a0) then
    bif (iLt 57 (strAt a0 s2076.2.1)) then
     Option.map Sum.inr (some (((0:Int),false,()),()))
    else
    bif inB s2076.2.1 (List.length a0) then
     some (Sum.inl ((iAdd .i64 (iMul .i64 s2076.1 10) (iWrap .i64 (iSub .u8 (strAt a0 s2076.2.1) 48))),(iAdd .i64 s2076.2.1 1),()))
    else none
   else none
  else none
 else
 Option.map Sum.inr (some ((s2076.1,true,()),()))
def qps (a0:List UInt8) (s2088:Dq26):Option (Dq26⊕((Int×Bool×Unit)×Unit)) :=
 bif (iLt s2088.2.1 (lenI a0)) then
  bif inB s2088.2.1 (List.length a0) then
   bif (iLt (strAt a0 s2088.2.1) 48) then
    Option.map Sum.inr (some (((0:Int),false,()),()))
   else
   bif inB s2088.2.1 (List.length a0) then
    bif (iLt 57 (strAt a0 s2088.2.1)) then
     Option.map Sum.inr (some (((0:Int),false,()),()))
    else
    bif inB s2088.2.1 (List.length a0) then
     some (Sum.inl ((iAdd .i64 (iMul .i64 s2088.1 10) (iWrap .i64 (iSub .u8 (strAt a0 s2088.2.1) 48))),(iAdd .i64 s2088.2.1 1),()))
    else none
   else none
  else none
 else
 Option.map Sum.inr (some ((s2088.1,true,()),()))
def qgi (a0:List UInt8):Option ((Int×Bool×Unit)×Unit) :=
 bif (iLt (lenI a0) 1) then some (((0:Int),false,()),()) else
 bif (iLt 9 (lenI a0)) then some (((0:Int),false,()),()) else
 bif inB 0 (List.length a0) then
  bif (iEq (strAt a0 0) 48) then
   bif (iLt 1 (lenI a0)) then some (((0:Int),false,()),()) else run (qbs a0) ((0:Int),(0:Int),())
  else run (qps a0) ((0:Int),(0:Int),())
 else none
def qsu:Entry:=⟨⟨[.v (.str)],[.v (.val (.int .i64)),.v (.val (.bool))],false⟩,fun x=>qgi x.1⟩
theorem qabu:Sound Tryz.prog G 231 qsu:=qab (envS (l:=[]) trivial) [(5,.vary [(4,.sc (.int .i64)),(5,.sc (.int .i64))])] Tryz.func231 (by kernel_rfl) rfl fun _=>by kernel_rfl
def qa4 (a0:List UInt8):Option ((Int×Bool×Unit)×Unit) :=
 bif (iLt 6 (lenI a0)) then some (((0:Int),false,()),()) else
 (qgi a0).bind fun y2070 =>
 some ((y2070.1.1,y2070.1.2.1,()),())
def qjo:Entry:=⟨⟨[.v (.str)],[.v (.val (.int .i64)),.v (.val (.bool))],false⟩,fun x=>qa4 x.1⟩
theorem qnp:Sound Tryz.prog G 184 qjo:=qab (envS (l:=[(231,qsu)]) ⟨(qabu),trivial⟩) [] Tryz.func184 (by kernel_rfl) rfl fun _=>by kernel_rfl
def qam (a0:List UInt8):Option ((Nat×Bool×Unit)×Unit) :=
 (qbx a0 (47:Int)).bind fun y1998 =>
 bif inB 0 (List.length y1998.1.1) then
  let x1999:=List.getD y1998.1.1 0 ([]:List UInt8)
  bif (iLt 0 (lenI x1999)) then
   bif inB 0 (List.length x1999) then
    bif (iEq (strAt x1999 0) 45) then
     bif inS 1 (lenI x1999) (List.length x1999) then
      (qa4 (dropL x1999 1)).bind fun y2004 =>
      bif (! y2004.1.2.1) then some (((0:Nat),false,()),()) else
      bif (iLt 2 (lenI y1998.1.1)) then some (((0:Nat),false,()),()) else
      bif (iEq (lenI y1998.1.1) 1) then
       some (((fOfInt .f32 (iMul .i64 (-1:Int) y2004.1.1)),true,()),())
      else
      bif inB 1 (List.length y1998.1.1) then
       (qa4 (List.getD y1998.1.1 1 ([]:List UInt8))).bind fun y2011 =>
       bif (! y2011.1.2.1) then some (((0:Nat),false,()),()) else
       bif (iLt y2011.1.1 2) then some (((0:Nat),false,()),()) else
       bif (iLt 1024 y2011.1.1) then some (((0:Nat),false,()),()) else
       bif (! (iEq (iAnd .i64 y2011.1.1 (iSub .i64 y2011.1.1 1)) 0)) then some (((0:Nat),false,()),()) else
       some (((fDiv .f32 (fOfInt .f32 (iMul .i64 (-1:Int) y2004.1.1)) (fOfInt .f32 y2011.1.1)),true,()),())
      else none
     else none
    else
    (qa4 x1999).bind fun y2022 =>
    bif (! y2022.1.2.1) then some (((0:Nat),false,()),()) else
    bif (iLt 2 (lenI y1998.1.1)) then some (((0:Nat),false,()),()) else
    bif (iEq (lenI y1998.1.1) 1) then
     some (((fOfInt .f32 (iMul .i64 1 y2022.1.1)),true,()),())
    else
    bif inB 1 (List.length y1998.1.1) then
     (qa4 (List.getD y1998.1.1 1 ([]:List UInt8))).bind fun y2029 =>
     bif (! y2029.1.2.1) then some (((0:Nat),false,()),()) else
     bif (iLt y2029.1.1 2) then some (((0:Nat),false,()),()) else
     bif (iLt 1024 y2029.1.1) then some (((0:Nat),false,()),()) else
     bif (! (iEq (iAnd .i64 y2029.1.1 (iSub .i64 y2029.1.1 1)) 0)) then some (((0:Nat),false,()),()) else
     some (((fDiv .f32 (fOfInt .f32 (iMul .i64 1 y2022.1.1)) (fOfInt .f32 y2029.1.1)),true,()),())
    else none
   else none
  else
  (qa4 x1999).bind fun y2040 =>
  bif (! y2040.1.2.1) then some (((0:Nat),false,()),()) else
  bif (iLt 2 (lenI y1998.1.1)) then some (((0:Nat),false,()),()) else
  bif (iEq (lenI y1998.1.1) 1) then
   some (((fOfInt .f32 (iMul .i64 1 y2040.1.1)),true,()),())
  else
  bif inB 1 (List.length y1998.1.1) then
   (qa4 (List.getD y1998.1.1 1 ([]:List UInt8))).bind fun y2047 =>
   bif (! y2047.1.2.1) then some (((0:Nat),false,()),()) else
   bif (iLt y2047.1.1 2) then some (((0:Nat),false,()),()) else
   bif (iLt 1024 y2047.1.1) then some (((0:Nat),false,()),()) else
   bif (! (iEq (iAnd .i64 y2047.1.1 (iSub .i64 y2047.1.1 1)) 0)) then some (((0:Nat),false,()),()) else
   some (((fDiv .f32 (fOfInt .f32 (iMul .i64 1 y2040.1.1)) (fOfInt .f32 y2047.1.1)),true,()),())
  else none
 else none
def qpt:Entry:=⟨⟨[.v (.str)],[.v (.val (.flt .f32)),.v (.val (.bool))],false⟩,fun x=>qam x.1⟩
theorem qzf:Sound Tryz.prog G 256 qpt:=qab (envS (l:=[(150,qjk),(184,qjo)]) ⟨(qnf),(qnp),trivial⟩) [] Tryz.func256 (by kernel_rfl) rfl fun _=>by kernel_rfl
def qge (a0:(List (List UInt8))):Option (((Vec 3 Nat)×Bool×Unit)×Unit) :=
 bif inB 0 (List.length a0) then
  (qam (List.getD a0 0 ([]:List UInt8))).bind fun y1990 =>
  bif (! y1990.1.2.1) then some ((Lq6,false,()),()) else
  bif inB 1 (List.length a0) then
   (qam (List.getD a0 1 ([]:List UInt8))).bind fun y1993 =>
   bif (! y1993.1.2.1) then some ((Lq6,false,()),()) else
   bif inB 2 (List.length a0) then
    (qam (List.getD a0 2 ([]:List UInt8))).bind fun y1996 =>
    bif (! y1996.1.2.1) then some ((Lq6,false,()),()) else some ((((y1990.1.1,y1993.1.1,y1996.1.1,()):(Vec 3 Nat)),true,()),())
   else none
  else none
 else none
def qxw:Entry:=⟨⟨[.v (.list (.str))],[.v (.val (.arr 3 (.flt .f32))),.v (.val (.bool))],false⟩,fun x=>qge x.1⟩
theorem qagf:Sound Tryz.prog G 234 qxw:=qab (envS (l:=[(256,qpt)]) ⟨(qzf),trivial⟩) [(3,.unroll 4)] Tryz.func234 (by kernel_rfl) rfl fun _=>by kernel_rfl
def qai (a0:Dq1) (a1:(List (List UInt8))):Option ((Int×Unit)×(Dq1×Unit)) :=
 bif inB 0 (List.length a1) then
  bif (sEq (List.getD a1 0 ([]:List UInt8)) ([109,111,118,101])) then
   bif (! (iEq (lenI a1) 5)) then
    some (((5:Int),()),((((a0.1.1,a0.1.2.1,a0.1.2.2.1,a0.1.2.2.2.1,a0.1.2.2.2.2),a0.2.1,a0.2.2.1,a0.2.2.2.1,a0.2.2.2.2.1,a0.2.2.2.2.2):Dq1),()))
   else
   bif inS 1 (lenI a1) (List.length a1) then
    (qge (dropL a1 1)).bind fun y1963 =>
    bif (! y1963.1.2.1) then
     some (((5:Int),()),((((a0.1.1,a0.1.2.1,a0.1.2.2.1,a0.1.2.2.2.1,a0.1.2.2.2.2),a0.2.1,a0.2.2.1,a0.2.2.2.1,a0.2.2.2.2.1,a0.2.2.2.2.2):Dq1),()))
    else
    bif inB 0 (List.length a1) then
     let x1965:=List.getD a1 0 ([]:List UInt8)
     bif (sEq x1965 ([115,116,97,114,116])) then
      bif (iLt 0 (lenI a0.1.2.2.2.1)) then
       some (((4:Int),()),((((a0.1.1,a0.1.2.1,a0.1.2.2.1,a0.1.2.2.2.1,a0.1.2.2.2.2),a0.2.1,a0.2.2.1,a0.2.2.2.1,a0.2.2.2.2.1,a0.2.2.2.2.2):Dq1),()))
      else
      some (((0:Int),()),((((a0.1.1,y1963.1.1,a0.1.2.2.1,a0.1.2.2.2.1,a0.1.2.2.2.2),a0.2.1,a0.2.2.1,a0.2.2.2.1,a0.2.2.2.2.1,a0.2.2.2.2.2):Dq1),()))
     else
     bif (sEq x1965 ([98,101,97,99,111,110])) then
      bif (iEq (lenI a0.1.2.2.1) 6) then
       some (((3:Int),()),((((a0.1.1,a0.1.2.1,a0.1.2.2.1,a0.1.2.2.2.1,a0.1.2.2.2.2),a0.2.1,a0.2.2.1,a0.2.2.2.1,a0.2.2.2.2.1,a0.2.2.2.2.2):Dq1),()))
      else
      bif room (List.length a0.1.2.2.1+1) 12 then
       some (((0:Int),()),((((a0.1.1,a0.1.2.1,(a0.1.2.2.1++([y1963.1.1]:(List (Vec 3 Nat)))),a0.1.2.2.2.1,a0.1.2.2.2.2),a0.2.1,a0.2.2.1,a0.2.2.2.1,a0.2.2.2.2.1,a0.2.2.2.2.2):Dq1),()))
      else none
     else
     bif inB 4 (List.length a1) then
      (qa4 (List.getD a1 4 ([]:List UInt8))).bind fun y1972 =>
      bif (! y1972.1.2.1) then
       some (((5:Int),()),((((a0.1.1,a0.1.2.1,a0.1.2.2.1,a0.1.2.2.2.1,a0.1.2.2.2.2),a0.2.1,a0.2.2.1,a0.2.2.2.1,a0.2.2.2.2.1,a0.2.2.2.2.2):Dq1),()))
      else
      (qcx (((a0.1.1,a0.1.2.1,a0.1.2.2.1,a0.1.2.2.2.1,a0.1.2.2.2.2),a0.2.1,a0.2.2.1,a0.2.2.2.1,a0.2.2.2.2.1,a0.2.2.2.2.2):Dq1) y1963.1.1 y1972.1.1).bind fun y1974 =>
      some ((y1974.1.1,()),((((y1974.2.1.1.1,y1974.2.1.1.2.1,y1974.2.1.1.2.2.1,y1974.2.1.1.2.2.2.1,y1974.2.1.1.2.2.2.2),y1974.2.1.2.1,y1974.2.1.2.2.1,y1974.2.1.2.2.2.1,y1974.2.1.2.2.2.2.1,y1974.2.1.2.2.2.2.2):Dq1),()))
     else none
    else none
   else none
  else
  bif (! (iEq (lenI a1) 4)) then
   some (((5:Int),()),((((a0.1.1,a0.1.2.1,a0.1.2.2.1,a0.1.2.2.2.1,a0.1.2.2.2.2),a0.2.1,a0.2.2.1,a0.2.2.2.1,a0.2.2.2.2.1,a0.2.2.2.2.2):Dq1),()))
  else
  bif inS 1 (lenI a1) (List.length a1) then
   (qge (dropL a1 1)).bind fun y1977 =>
   bif (! y1977.1.2.1) then
    some (((5:Int),()),((((a0.1.1,a0.1.2.1,a0.1.2.2.1,a0.1.2.2.2.1,a0.1.2.2.2.2),a0.2.1,a0.2.2.1,a0.2.2.2.1,a0.2.2.2.2.1,a0.2.2.2.2.2):Dq1),()))
   else
   bif inB 0 (List.length a1) then
    let x1979:=List.getD a1 0 ([]:List UInt8)
    bif (sEq x1979 ([115,116,97,114,116])) then
     bif (iLt 0 (lenI a0.1.2.2.2.1)) then
      some (((4:Int),()),((((a0.1.1,a0.1.2.1,a0.1.2.2.1,a0.1.2.2.2.1,a0.1.2.2.2.2),a0.2.1,a0.2.2.1,a0.2.2.2.1,a0.2.2.2.2.1,a0.2.2.2.2.2):Dq1),()))
     else
     some (((0:Int),()),((((a0.1.1,y1977.1.1,a0.1.2.2.1,a0.1.2.2.2.1,a0.1.2.2.2.2),a0.2.1,a0.2.2.1,a0.2.2.2.1,a0.2.2.2.2.1,a0.2.2.2.2.2):Dq1),()))
    else
    bif (sEq x1979 ([98,101,97,99,111,110])) then
     bif (iEq (lenI a0.1.2.2.1) 6) then
      some (((3:Int),()),((((a0.1.1,a0.1.2.1,a0.1.2.2.1,a0.1.2.2.2.1,a0.1.2.2.2.2),a0.2.1,a0.2.2.1,a0.2.2.2.1,a0.2.2.2.2.1,a0.2.2.2.2.2):Dq1),()))
     else
     bif room (List.length a0.1.2.2.1+1) 12 then
      some (((0:Int),()),((((a0.1.1,a0.1.2.1,(a0.1.2.2.1++([y1977.1.1]:(List (Vec 3 Nat)))),a0.1.2.2.2.1,a0.1.2.2.2.2),a0.2.1,a0.2.2.1,a0.2.2.2.1,a0.2.2.2.2.1,a0.2.2.2.2.2):Dq1),()))
     else none
    else
    bif inB 4 (List.length a1) then
     (qa4 (List.getD a1 4 ([]:List UInt8))).bind fun y1986 =>
     bif (! y1986.1.2.1) then
      some (((5:Int),()),((((a0.1.1,a0.1.2.1,a0.1.2.2.1,a0.1.2.2.2.1,a0.1.2.2.2.2),a0.2.1,a0.2.2.1,a0.2.2.2.1,a0.2.2.2.2.1,a0.2.2.2.2.2):Dq1),()))
     else
     (qcx (((a0.1.1,a0.1.2.1,a0.1.2.2.1,a0.1.2.2.2.1,a0.1.2.2.2.2),a0.2.1,a0.2.2.1,a0.2.2.2.1,a0.2.2.2.2.1,a0.2.2.2.2.2):Dq1) y1977.1.1 y1986.1.1).bind fun y1988 =>
     some ((y1988.1.1,()),((((y1988.2.1.1.1,y1988.2.1.1.2.1,y1988.2.1.1.2.2.1,y1988.2.1.1.2.2.2.1,y1988.2.1.1.2.2.2.2),y1988.2.1.2.1,y1988.2.1.2.2.1,y1988.2.1.2.2.2.1,y1988.2.1.2.2.2.2.1,y1988.2.1.2.2.2.2.2):Dq1),()))
    else none
   else none
  else none
 else none
def qn1:Entry:=⟨⟨[.io (.pair (.pair (.val (.int .i64)) (.pair (.val (.arr 3 (.flt .f32))) (.pair (.rows (.arr 3 (.flt .f32))) (.pair (.rows Uq10) (.val (.unit)))))) (.pair (.val (.int .i64)) (.pair (.val (.int .i64)) (.pair (.rows (.int .i64)) (.pair (.rows (.int .i64)) (.val (.unit))))))),.v (.list (.str))],[.v (.val (.int .i64))],false⟩,fun x=>qai x.1 x.2.1⟩
theorem qxx:Sound Tryz.prog G 186 qn1:=qab (envS (l:=[(184,qjo),(232,qkj),(234,qxw)]) ⟨(qnp),(qpx),(qagf),trivial⟩) [] Tryz.func186 (by kernel_rfl) rfl fun _=>by kernel_rfl
def qap (a0:Dq1) (a1:List UInt8) (a2:Int):Option (Dq26×(Dq1×Unit)) :=
 (qbx a1 (32:Int)).bind fun y1690 =>
 bif inB 0 (List.length y1690.1.1) then
  let x1691:=List.getD y1690.1.1 0 ([]:List UInt8)
  let x1692:=sEq x1691 ([114,97,116,101])
  bif x1692 then
   bif x1692 then
    bif (! (iEq (lenI y1690.1.1) 2)) then
     some ((a2,(5:Int),()),((((a0.1.1,a0.1.2.1,a0.1.2.2.1,a0.1.2.2.2.1,a0.1.2.2.2.2),a0.2.1,a0.2.2.1,a0.2.2.2.1,a0.2.2.2.2.1,a0.2.2.2.2.2):Dq1),()))
    else
    bif inB 1 (List.length y1690.1.1) then
     (qa4 (List.getD y1690.1.1 1 ([]:List UInt8))).bind fun y1695 =>
     bif (! y1695.1.2.1) then
      some ((a2,(5:Int),()),((((a0.1.1,a0.1.2.1,a0.1.2.2.1,a0.1.2.2.2.1,a0.1.2.2.2.2),a0.2.1,a0.2.2.1,a0.2.2.2.1,a0.2.2.2.2.1,a0.2.2.2.2.2):Dq1),()))
     else
     bif inB 0 (List.length y1690.1.1) then
      (qbd (((a0.1.1,a0.1.2.1,a0.1.2.2.1,a0.1.2.2.2.1,a0.1.2.2.2.2),a0.2.1,a0.2.2.1,a0.2.2.2.1,a0.2.2.2.2.1,a0.2.2.2.2.2):Dq1) (List.getD y1690.1.1 0 ([]:List UInt8)) y1695.1.1 a2).bind fun y1699 =>
      some (((iAdd .i64 a2 1),y1699.1.1,()),((((y1699.2.1.1.1,y1699.2.1.1.2.1,y1699.2.1.1.2.2.1,y1699.2.1.1.2.2.2.1,y1699.2.1.1.2.2.2.2),y1699.2.1.2.1,y1699.2.1.2.2.1,y1699.2.1.2.2.2.1,y1699.2.1.2.2.2.2.1,y1699.2.1.2.2.2.2.2):Dq1),()))
     else none
    else none
   else
   let x1700:=sEq x1691 ([115,116,97,114,116])
   bif x1700 then
    bif x1700 then
     (qai (((a0.1.1,a0.1.2.1,a0.1.2.2.1,a0.1.2.2.2.1,a0.1.2.2.2.2),a0.2.1,a0.2.2.1,a0.2.2.2.1,a0.2.2.2.2.1,a0.2.2.2.2.2):Dq1) y1690.1.1).bind fun y1702 =>
     some (((iAdd .i64 a2 1),y1702.1.1,()),((((y1702.2.1.1.1,y1702.2.1.1.2.1,y1702.2.1.1.2.2.1,y1702.2.1.1.2.2.2.1,y1702.2.1.1.2.2.2.2),y1702.2.1.2.1,y1702.2.1.2.2.1,y1702.2.1.2.2.2.1,y1702.2.1.2.2.2.2.1,y1702.2.1.2.2.2.2.2):Dq1),()))
    else
    bif (sEq x1691 ([101,110,100])) then
     bif (! (iEq (lenI y1690.1.1) 1)) then
      some ((a2,(5:Int),()),((((a0.1.1,a0.1.2.1,a0.1.2.2.1,a0.1.2.2.2.1,a0.1.2.2.2.2),a0.2.1,a0.2.2.1,a0.2.2.2.1,a0.2.2.2.2.1,a0.2.2.2.2.2):Dq1),()))
     else
     let x1705:=iSub .i64 (lenI a0.2.2.2.1) 1
     bif (iLt x1705 0) then
      some ((a2,(4:Int),()),((((a0.1.1,a0.1.2.1,a0.1.2.2.1,a0.1.2.2.2.1,a0.1.2.2.2.2),a0.2.1,a0.2.2.1,a0.2.2.2.1,a0.2.2.2.2.1,a0.2.2.2.2.2):Dq1),()))
     else
     bif inB x1705 (List.length a0.2.2.2.2.1) then
      bif (iLt 0 (List.getD a0.2.2.2.2.1 x1705.toNat (0:Int))) then
       bif inB x1705 (List.length a0.2.2.2.2.1) then
        bif inB x1705 (List.length a0.2.2.2.2.1) then
         bif inB x1705 (List.length a0.2.2.2.1) then
          some (((List.getD a0.2.2.2.1 x1705.toNat (0:Int)),(0:Int),()),((((a0.1.1,a0.1.2.1,a0.1.2.2.1,a0.1.2.2.2.1,a0.1.2.2.2.2),a0.2.1,a0.2.2.1,a0.2.2.2.1,List.set a0.2.2.2.2.1 x1705.toNat (iSub .i64 (List.getD a0.2.2.2.2.1 x1705.toNat (0:Int)) 1),a0.2.2.2.2.2):Dq1),()))
         else none
        else none
       else none
      else
      bif inS 0 x1705 (List.length a0.2.2.2.1) then
       bif inS 0 x1705 (List.length a0.2.2.2.2.1) then
        some (((iAdd .i64 a2 1),(0:Int),()),((((a0.1.1,a0.1.2.1,a0.1.2.2.1,a0.1.2.2.2.1,a0.1.2.2.2.2),a0.2.1,a0.2.2.1,List.take x1705.toNat (List.drop 0 a0.2.2.2.1),List.take x1705.toNat (List.drop 0 a0.2.2.2.2.1),a0.2.2.2.2.2):Dq1),()))
       else none
      else none
     else none
    else
    some ((a2,(5:Int),()),((((a0.1.1,a0.1.2.1,a0.1.2.2.1,a0.1.2.2.2.1,a0.1.2.2.2.2),a0.2.1,a0.2.2.1,a0.2.2.2.1,a0.2.2.2.2.1,a0.2.2.2.2.2):Dq1),()))
   else
   let x1713:=sEq x1691 ([98,101,97,99,111,110])
   bif x1713 then
    bif x1713 then
     (qai (((a0.1.1,a0.1.2.1,a0.1.2.2.1,a0.1.2.2.2.1,a0.1.2.2.2.2),a0.2.1,a0.2.2.1,a0.2.2.2.1,a0.2.2.2.2.1,a0.2.2.2.2.2):Dq1) y1690.1.1).bind fun y1715 =>
     some (((iAdd .i64 a2 1),y1715.1.1,()),((((y1715.2.1.1.1,y1715.2.1.1.2.1,y1715.2.1.1.2.2.1,y1715.2.1.1.2.2.2.1,y1715.2.1.1.2.2.2.2),y1715.2.1.2.1,y1715.2.1.2.2.1,y1715.2.1.2.2.2.1,y1715.2.1.2.2.2.2.1,y1715.2.1.2.2.2.2.2):Dq1),()))
    else
    bif (sEq x1691 ([101,110,100])) then
     bif (! (iEq (lenI y1690.1.1) 1)) then
      some ((a2,(5:Int),()),((((a0.1.1,a0.1.2.1,a0.1.2.2.1,a0.1.2.2.2.1,a0.1.2.2.2.2),a0.2.1,a0.2.2.1,a0.2.2.2.1,a0.2.2.2.2.1,a0.2.2.2.2.2):Dq1),()))
     else
     let x1718:=iSub .i64 (lenI a0.2.2.2.1) 1
     bif (iLt x1718 0) then
      some ((a2,(4:Int),()),((((a0.1.1,a0.1.2.1,a0.1.2.2.1,a0.1.2.2.2.1,a0.1.2.2.2.2),a0.2.1,a0.2.2.1,a0.2.2.2.1,a0.2.2.2.2.1,a0.2.2.2.2.2):Dq1),()))
     else
     bif inB x1718 (List.length a0.2.2.2.2.1) then
      bif (iLt 0 (List.getD a0.2.2.2.2.1 x1718.toNat (0:Int))) then
       bif inB x1718 (List.length a0.2.2.2.2.1) then
        bif inB x1718 (List.length a0.2.2.2.2.1) then
         bif inB x1718 (List.length a0.2.2.2.1) then
          some (((List.getD a0.2.2.2.1 x1718.toNat (0:Int)),(0:Int),()),((((a0.1.1,a0.1.2.1,a0.1.2.2.1,a0.1.2.2.2.1,a0.1.2.2.2.2),a0.2.1,a0.2.2.1,a0.2.2.2.1,List.set a0.2.2.2.2.1 x1718.toNat (iSub .i64 (List.getD a0.2.2.2.2.1 x1718.toNat (0:Int)) 1),a0.2.2.2.2.2):Dq1),()))
         else none
        else none
       else none
      else
      bif inS 0 x1718 (List.length a0.2.2.2.1) then
       bif inS 0 x1718 (List.length a0.2.2.2.2.1) then
        some (((iAdd .i64 a2 1),(0:Int),()),((((a0.1.1,a0.1.2.1,a0.1.2.2.1,a0.1.2.2.2.1,a0.1.2.2.2.2),a0.2.1,a0.2.2.1,List.take x1718.toNat (List.drop 0 a0.2.2.2.1),List.take x1718.toNat (List.drop 0 a0.2.2.2.2.1),a0.2.2.2.2.2):Dq1),()))
       else none
      else none
     else none
    else
    some ((a2,(5:Int),()),((((a0.1.1,a0.1.2.1,a0.1.2.2.1,a0.1.2.2.2.1,a0.1.2.2.2.2),a0.2.1,a0.2.2.1,a0.2.2.2.1,a0.2.2.2.2.1,a0.2.2.2.2.2):Dq1),()))
   else
   bif (sEq x1691 ([109,111,118,101])) then
    (qai (((a0.1.1,a0.1.2.1,a0.1.2.2.1,a0.1.2.2.2.1,a0.1.2.2.2.2),a0.2.1,a0.2.2.1,a0.2.2.2.1,a0.2.2.2.2.1,a0.2.2.2.2.2):Dq1) y1690.1.1).bind fun y1728 =>
    some (((iAdd .i64 a2 1),y1728.1.1,()),((((y1728.2.1.1.1,y1728.2.1.1.2.1,y1728.2.1.1.2.2.1,y1728.2.1.1.2.2.2.1,y1728.2.1.1.2.2.2.2),y1728.2.1.2.1,y1728.2.1.2.2.1,y1728.2.1.2.2.2.1,y1728.2.1.2.2.2.2.1,y1728.2.1.2.2.2.2.2):Dq1),()))
   else
   bif (sEq x1691 ([101,110,100])) then
    bif (! (iEq (lenI y1690.1.1) 1)) then
     some ((a2,(5:Int),()),((((a0.1.1,a0.1.2.1,a0.1.2.2.1,a0.1.2.2.2.1,a0.1.2.2.2.2),a0.2.1,a0.2.2.1,a0.2.2.2.1,a0.2.2.2.2.1,a0.2.2.2.2.2):Dq1),()))
    else
    let x1731:=iSub .i64 (lenI a0.2.2.2.1) 1
    bif (iLt x1731 0) then
     some ((a2,(4:Int),()),((((a0.1.1,a0.1.2.1,a0.1.2.2.1,a0.1.2.2.2.1,a0.1.2.2.2.2),a0.2.1,a0.2.2.1,a0.2.2.2.1,a0.2.2.2.2.1,a0.2.2.2.2.2):Dq1),()))
    else
    bif inB x1731 (List.length a0.2.2.2.2.1) then
     bif (iLt 0 (List.getD a0.2.2.2.2.1 x1731.toNat (0:Int))) then
      bif inB x1731 (List.length a0.2.2.2.2.1) then
       bif inB x1731 (List.length a0.2.2.2.2.1) then
        bif inB x1731 (List.length a0.2.2.2.1) then
         some (((List.getD a0.2.2.2.1 x1731.toNat (0:Int)),(0:Int),()),((((a0.1.1,a0.1.2.1,a0.1.2.2.1,a0.1.2.2.2.1,a0.1.2.2.2.2),a0.2.1,a0.2.2.1,a0.2.2.2.1,List.set a0.2.2.2.2.1 x1731.toNat (iSub .i64 (List.getD a0.2.2.2.2.1 x1731.toNat (0:Int)) 1),a0.2.2.2.2.2):Dq1),()))
        else none
       else none
      else none
     else
     bif inS 0 x1731 (List.length a0.2.2.2.1) then
      bif inS 0 x1731 (List.length a0.2.2.2.2.1) then
       some (((iAdd .i64 a2 1),(0:Int),()),((((a0.1.1,a0.1.2.1,a0.1.2.2.1,a0.1.2.2.2.1,a0.1.2.2.2.2),a0.2.1,a0.2.2.1,List.take x1731.toNat (List.drop 0 a0.2.2.2.1),List.take x1731.toNat (List.drop 0 a0.2.2.2.2.1),a0.2.2.2.2.2):Dq1),()))
      else none
     else none
    else none
   else
   some ((a2,(5:Int),()),((((a0.1.1,a0.1.2.1,a0.1.2.2.1,a0.1.2.2.2.1,a0.1.2.2.2.2),a0.2.1,a0.2.2.1,a0.2.2.2.1,a0.2.2.2.2.1,a0.2.2.2.2.2):Dq1),()))
  else
  let x1739:=sEq x1691 ([102,105,120])
  bif x1739 then
   bif x1739 then
    bif (! (iEq (lenI y1690.1.1) 2)) then
     some ((a2,(5:Int),()),((((a0.1.1,a0.1.2.1,a0.1.2.2.1,a0.1.2.2.2.1,a0.1.2.2.2.2),a0.2.1,a0.2.2.1,a0.2.2.2.1,a0.2.2.2.2.1,a0.2.2.2.2.2):Dq1),()))
    else
    bif inB 1 (List.length y1690.1.1) then
     (qa4 (List.getD y1690.1.1 1 ([]:List UInt8))).bind fun y1742 =>
     bif (! y1742.1.2.1) then
      some ((a2,(5:Int),()),((((a0.1.1,a0.1.2.1,a0.1.2.2.1,a0.1.2.2.2.1,a0.1.2.2.2.2),a0.2.1,a0.2.2.1,a0.2.2.2.1,a0.2.2.2.2.1,a0.2.2.2.2.2):Dq1),()))
     else
     bif inB 0 (List.length y1690.1.1) then
      (qbd (((a0.1.1,a0.1.2.1,a0.1.2.2.1,a0.1.2.2.2.1,a0.1.2.2.2.2),a0.2.1,a0.2.2.1,a0.2.2.2.1,a0.2.2.2.2.1,a0.2.2.2.2.2):Dq1) (List.getD y1690.1.1 0 ([]:List UInt8)) y1742.1.1 a2).bind fun y1746 =>
      some (((iAdd .i64 a2 1),y1746.1.1,()),((((y1746.2.1.1.1,y1746.2.1.1.2.1,y1746.2.1.1.2.2.1,y1746.2.1.1.2.2.2.1,y1746.2.1.1.2.2.2.2),y1746.2.1.2.1,y1746.2.1.2.2.1,y1746.2.1.2.2.2.1,y1746.2.1.2.2.2.2.1,y1746.2.1.2.2.2.2.2):Dq1),()))
     else none
    else none
   else
   let x1747:=sEq x1691 ([115,116,97,114,116])
   bif x1747 then
    bif x1747 then
     (qai (((a0.1.1,a0.1.2.1,a0.1.2.2.1,a0.1.2.2.2.1,a0.1.2.2.2.2),a0.2.1,a0.2.2.1,a0.2.2.2.1,a0.2.2.2.2.1,a0.2.2.2.2.2):Dq1) y1690.1.1).bind fun y1749 =>
     some (((iAdd .i64 a2 1),y1749.1.1,()),((((y1749.2.1.1.1,y1749.2.1.1.2.1,y1749.2.1.1.2.2.1,y1749.2.1.1.2.2.2.1,y1749.2.1.1.2.2.2.2),y1749.2.1.2.1,y1749.2.1.2.2.1,y1749.2.1.2.2.2.1,y1749.2.1.2.2.2.2.1,y1749.2.1.2.2.2.2.2):Dq1),()))
    else
    bif (sEq x1691 ([101,110,100])) then
     bif (! (iEq (lenI y1690.1.1) 1)) then
      some ((a2,(5:Int),()),((((a0.1.1,a0.1.2.1,a0.1.2.2.1,a0.1.2.2.2.1,a0.1.2.2.2.2),a0.2.1,a0.2.2.1,a0.2.2.2.1,a0.2.2.2.2.1,a0.2.2.2.2.2):Dq1),()))
     else
     let x1752:=iSub .i64 (lenI a0.2.2.2.1) 1
     bif (iLt x1752 0) then
      some ((a2,(4:Int),()),((((a0.1.1,a0.1.2.1,a0.1.2.2.1,a0.1.2.2.2.1,a0.1.2.2.2.2),a0.2.1,a0.2.2.1,a0.2.2.2.1,a0.2.2.2.2.1,a0.2.2.2.2.2):Dq1),()))
     else
     bif inB x1752 (List.length a0.2.2.2.2.1) then
      bif (iLt 0 (List.getD a0.2.2.2.2.1 x1752.toNat (0:Int))) then
       bif inB x1752 (List.length a0.2.2.2.2.1) then
        bif inB x1752 (List.length a0.2.2.2.2.1) then
         bif inB x1752 (List.length a0.2.2.2.1) then
          some (((List.getD a0.2.2.2.1 x1752.toNat (0:Int)),(0:Int),()),((((a0.1.1,a0.1.2.1,a0.1.2.2.1,a0.1.2.2.2.1,a0.1.2.2.2.2),a0.2.1,a0.2.2.1,a0.2.2.2.1,List.set a0.2.2.2.2.1 x1752.toNat (iSub .i64 (List.getD a0.2.2.2.2.1 x1752.toNat (0:Int)) 1),a0.2.2.2.2.2):Dq1),()))
         else none
        else none
       else none
      else
      bif inS 0 x1752 (List.length a0.2.2.2.1) then
       bif inS 0 x1752 (List.length a0.2.2.2.2.1) then
        some (((iAdd .i64 a2 1),(0:Int),()),((((a0.1.1,a0.1.2.1,a0.1.2.2.1,a0.1.2.2.2.1,a0.1.2.2.2.2),a0.2.1,a0.2.2.1,List.take x1752.toNat (List.drop 0 a0.2.2.2.1),List.take x1752.toNat (List.drop 0 a0.2.2.2.2.1),a0.2.2.2.2.2):Dq1),()))
       else none
      else none
     else none
    else
    some ((a2,(5:Int),()),((((a0.1.1,a0.1.2.1,a0.1.2.2.1,a0.1.2.2.2.1,a0.1.2.2.2.2),a0.2.1,a0.2.2.1,a0.2.2.2.1,a0.2.2.2.2.1,a0.2.2.2.2.2):Dq1),()))
   else
   let x1760:=sEq x1691 ([98,101,97,99,111,110])
   bif x1760 then
    bif x1760 then
     (qai (((a0.1.1,a0.1.2.1,a0.1.2.2.1,a0.1.2.2.2.1,a0.1.2.2.2.2),a0.2.1,a0.2.2.1,a0.2.2.2.1,a0.2.2.2.2.1,a0.2.2.2.2.2):Dq1) y1690.1.1).bind fun y1762 =>
     some (((iAdd .i64 a2 1),y1762.1.1,()),((((y1762.2.1.1.1,y1762.2.1.1.2.1,y1762.2.1.1.2.2.1,y1762.2.1.1.2.2.2.1,y1762.2.1.1.2.2.2.2),y1762.2.1.2.1,y1762.2.1.2.2.1,y1762.2.1.2.2.2.1,y1762.2.1.2.2.2.2.1,y1762.2.1.2.2.2.2.2):Dq1),()))
    else
    bif (sEq x1691 ([101,110,100])) then
     bif (! (iEq (lenI y1690.1.1) 1)) then
      some ((a2,(5:Int),()),((((a0.1.1,a0.1.2.1,a0.1.2.2.1,a0.1.2.2.2.1,a0.1.2.2.2.2),a0.2.1,a0.2.2.1,a0.2.2.2.1,a0.2.2.2.2.1,a0.2.2.2.2.2):Dq1),()))
     else
     let x1765:=iSub .i64 (lenI a0.2.2.2.1) 1
     bif (iLt x1765 0) then
      some ((a2,(4:Int),()),((((a0.1.1,a0.1.2.1,a0.1.2.2.1,a0.1.2.2.2.1,a0.1.2.2.2.2),a0.2.1,a0.2.2.1,a0.2.2.2.1,a0.2.2.2.2.1,a0.2.2.2.2.2):Dq1),()))
     else
     bif inB x1765 (List.length a0.2.2.2.2.1) then
      bif (iLt 0 (List.getD a0.2.2.2.2.1 x1765.toNat (0:Int))) then
       bif inB x1765 (List.length a0.2.2.2.2.1) then
        bif inB x1765 (List.length a0.2.2.2.2.1) then
         bif inB x1765 (List.length a0.2.2.2.1) then
          some (((List.getD a0.2.2.2.1 x1765.toNat (0:Int)),(0:Int),()),((((a0.1.1,a0.1.2.1,a0.1.2.2.1,a0.1.2.2.2.1,a0.1.2.2.2.2),a0.2.1,a0.2.2.1,a0.2.2.2.1,List.set a0.2.2.2.2.1 x1765.toNat (iSub .i64 (List.getD a0.2.2.2.2.1 x1765.toNat (0:Int)) 1),a0.2.2.2.2.2):Dq1),()))
         else none
        else none
       else none
      else
      bif inS 0 x1765 (List.length a0.2.2.2.1) then
       bif inS 0 x1765 (List.length a0.2.2.2.2.1) then
        some (((iAdd .i64 a2 1),(0:Int),()),((((a0.1.1,a0.1.2.1,a0.1.2.2.1,a0.1.2.2.2.1,a0.1.2.2.2.2),a0.2.1,a0.2.2.1,List.take x1765.toNat (List.drop 0 a0.2.2.2.1),List.take x1765.toNat (List.drop 0 a0.2.2.2.2.1),a0.2.2.2.2.2):Dq1),()))
       else none
      else none
     else none
    else
    some ((a2,(5:Int),()),((((a0.1.1,a0.1.2.1,a0.1.2.2.1,a0.1.2.2.2.1,a0.1.2.2.2.2),a0.2.1,a0.2.2.1,a0.2.2.2.1,a0.2.2.2.2.1,a0.2.2.2.2.2):Dq1),()))
   else
   bif (sEq x1691 ([109,111,118,101])) then
    (qai (((a0.1.1,a0.1.2.1,a0.1.2.2.1,a0.1.2.2.2.1,a0.1.2.2.2.2),a0.2.1,a0.2.2.1,a0.2.2.2.1,a0.2.2.2.2.1,a0.2.2.2.2.2):Dq1) y1690.1.1).bind fun y1775 =>
    some (((iAdd .i64 a2 1),y1775.1.1,()),((((y1775.2.1.1.1,y1775.2.1.1.2.1,y1775.2.1.1.2.2.1,y1775.2.1.1.2.2.2.1,y1775.2.1.1.2.2.2.2),y1775.2.1.2.1,y1775.2.1.2.2.1,y1775.2.1.2.2.2.1,y1775.2.1.2.2.2.2.1,y1775.2.1.2.2.2.2.2):Dq1),()))
   else
   bif (sEq x1691 ([101,110,100])) then
    bif (! (iEq (lenI y1690.1.1) 1)) then
     some ((a2,(5:Int),()),((((a0.1.1,a0.1.2.1,a0.1.2.2.1,a0.1.2.2.2.1,a0.1.2.2.2.2),a0.2.1,a0.2.2.1,a0.2.2.2.1,a0.2.2.2.2.1,a0.2.2.2.2.2):Dq1),()))
    else
    let x1778:=iSub .i64 (lenI a0.2.2.2.1) 1
    bif (iLt x1778 0) then
     some ((a2,(4:Int),()),((((a0.1.1,a0.1.2.1,a0.1.2.2.1,a0.1.2.2.2.1,a0.1.2.2.2.2),a0.2.1,a0.2.2.1,a0.2.2.2.1,a0.2.2.2.2.1,a0.2.2.2.2.2):Dq1),()))
    else
    bif inB x1778 (List.length a0.2.2.2.2.1) then
     bif (iLt 0 (List.getD a0.2.2.2.2.1 x1778.toNat (0:Int))) then
      bif inB x1778 (List.length a0.2.2.2.2.1) then
       bif inB x1778 (List.length a0.2.2.2.2.1) then
        bif inB x1778 (List.length a0.2.2.2.1) then
         some (((List.getD a0.2.2.2.1 x1778.toNat (0:Int)),(0:Int),()),((((a0.1.1,a0.1.2.1,a0.1.2.2.1,a0.1.2.2.2.1,a0.1.2.2.2.2),a0.2.1,a0.2.2.1,a0.2.2.2.1,List.set a0.2.2.2.2.1 x1778.toNat (iSub .i64 (List.getD a0.2.2.2.2.1 x1778.toNat (0:Int)) 1),a0.2.2.2.2.2):Dq1),()))
        else none
       else none
      else none
     else
     bif inS 0 x1778 (List.length a0.2.2.2.1) then
      bif inS 0 x1778 (List.length a0.2.2.2.2.1) then
       some (((iAdd .i64 a2 1),(0:Int),()),((((a0.1.1,a0.1.2.1,a0.1.2.2.1,a0.1.2.2.2.1,a0.1.2.2.2.2),a0.2.1,a0.2.2.1,List.take x1778.toNat (List.drop 0 a0.2.2.2.1),List.take x1778.toNat (List.drop 0 a0.2.2.2.2.1),a0.2.2.2.2.2):Dq1),()))
      else none
     else none
    else none
   else
   some ((a2,(5:Int),()),((((a0.1.1,a0.1.2.1,a0.1.2.2.1,a0.1.2.2.2.1,a0.1.2.2.2.2),a0.2.1,a0.2.2.1,a0.2.2.2.1,a0.2.2.2.2.1,a0.2.2.2.2.2):Dq1),()))
  else
  let x1786:=sEq x1691 ([104,111,108,100])
  bif x1786 then
   bif x1786 then
    bif (! (iEq (lenI y1690.1.1) 2)) then
     some ((a2,(5:Int),()),((((a0.1.1,a0.1.2.1,a0.1.2.2.1,a0.1.2.2.2.1,a0.1.2.2.2.2),a0.2.1,a0.2.2.1,a0.2.2.2.1,a0.2.2.2.2.1,a0.2.2.2.2.2):Dq1),()))
    else
    bif inB 1 (List.length y1690.1.1) then
     (qa4 (List.getD y1690.1.1 1 ([]:List UInt8))).bind fun y1789 =>
     bif (! y1789.1.2.1) then
      some ((a2,(5:Int),()),((((a0.1.1,a0.1.2.1,a0.1.2.2.1,a0.1.2.2.2.1,a0.1.2.2.2.2),a0.2.1,a0.2.2.1,a0.2.2.2.1,a0.2.2.2.2.1,a0.2.2.2.2.2):Dq1),()))
     else
     bif inB 0 (List.length y1690.1.1) then
      (qbd (((a0.1.1,a0.1.2.1,a0.1.2.2.1,a0.1.2.2.2.1,a0.1.2.2.2.2),a0.2.1,a0.2.2.1,a0.2.2.2.1,a0.2.2.2.2.1,a0.2.2.2.2.2):Dq1) (List.getD y1690.1.1 0 ([]:List UInt8)) y1789.1.1 a2).bind fun y1793 =>
      some (((iAdd .i64 a2 1),y1793.1.1,()),((((y1793.2.1.1.1,y1793.2.1.1.2.1,y1793.2.1.1.2.2.1,y1793.2.1.1.2.2.2.1,y1793.2.1.1.2.2.2.2),y1793.2.1.2.1,y1793.2.1.2.2.1,y1793.2.1.2.2.2.1,y1793.2.1.2.2.2.2.1,y1793.2.1.2.2.2.2.2):Dq1),()))
     else none
    else none
   else
   let x1794:=sEq x1691 ([115,116,97,114,116])
   bif x1794 then
    bif x1794 then
     (qai (((a0.1.1,a0.1.2.1,a0.1.2.2.1,a0.1.2.2.2.1,a0.1.2.2.2.2),a0.2.1,a0.2.2.1,a0.2.2.2.1,a0.2.2.2.2.1,a0.2.2.2.2.2):Dq1) y1690.1.1).bind fun y1796 =>
     some (((iAdd .i64 a2 1),y1796.1.1,()),((((y1796.2.1.1.1,y1796.2.1.1.2.1,y1796.2.1.1.2.2.1,y1796.2.1.1.2.2.2.1,y1796.2.1.1.2.2.2.2),y1796.2.1.2.1,y1796.2.1.2.2.1,y1796.2.1.2.2.2.1,y1796.2.1.2.2.2.2.1,y1796.2.1.2.2.2.2.2):Dq1),()))
    else
    bif (sEq x1691 ([101,110,100])) then
     bif (! (iEq (lenI y1690.1.1) 1)) then
      some ((a2,(5:Int),()),((((a0.1.1,a0.1.2.1,a0.1.2.2.1,a0.1.2.2.2.1,a0.1.2.2.2.2),a0.2.1,a0.2.2.1,a0.2.2.2.1,a0.2.2.2.2.1,a0.2.2.2.2.2):Dq1),()))
     else
     let x1799:=iSub .i64 (lenI a0.2.2.2.1) 1
     bif (iLt x1799 0) then
      some ((a2,(4:Int),()),((((a0.1.1,a0.1.2.1,a0.1.2.2.1,a0.1.2.2.2.1,a0.1.2.2.2.2),a0.2.1,a0.2.2.1,a0.2.2.2.1,a0.2.2.2.2.1,a0.2.2.2.2.2):Dq1),()))
     else
     bif inB x1799 (List.length a0.2.2.2.2.1) then
      bif (iLt 0 (List.getD a0.2.2.2.2.1 x1799.toNat (0:Int))) then
       bif inB x1799 (List.length a0.2.2.2.2.1) then
        bif inB x1799 (List.length a0.2.2.2.2.1) then
         bif inB x1799 (List.length a0.2.2.2.1) then
          some (((List.getD a0.2.2.2.1 x1799.toNat (0:Int)),(0:Int),()),((((a0.1.1,a0.1.2.1,a0.1.2.2.1,a0.1.2.2.2.1,a0.1.2.2.2.2),a0.2.1,a0.2.2.1,a0.2.2.2.1,List.set a0.2.2.2.2.1 x1799.toNat (iSub .i64 (List.getD a0.2.2.2.2.1 x1799.toNat (0:Int)) 1),a0.2.2.2.2.2):Dq1),()))
         else none
        else none
       else none
      else
      bif inS 0 x1799 (List.length a0.2.2.2.1) then
       bif inS 0 x1799 (List.length a0.2.2.2.2.1) then
        some (((iAdd .i64 a2 1),(0:Int),()),((((a0.1.1,a0.1.2.1,a0.1.2.2.1,a0.1.2.2.2.1,a0.1.2.2.2.2),a0.2.1,a0.2.2.1,List.take x1799.toNat (List.drop 0 a0.2.2.2.1),List.take x1799.toNat (List.drop 0 a0.2.2.2.2.1),a0.2.2.2.2.2):Dq1),()))
       else none
      else none
     else none
    else
    some ((a2,(5:Int),()),((((a0.1.1,a0.1.2.1,a0.1.2.2.1,a0.1.2.2.2.1,a0.1.2.2.2.2),a0.2.1,a0.2.2.1,a0.2.2.2.1,a0.2.2.2.2.1,a0.2.2.2.2.2):Dq1),()))
   else
   let x1807:=sEq x1691 ([98,101,97,99,111,110])
   bif x1807 then
    bif x1807 then
     (qai (((a0.1.1,a0.1.2.1,a0.1.2.2.1,a0.1.2.2.2.1,a0.1.2.2.2.2),a0.2.1,a0.2.2.1,a0.2.2.2.1,a0.2.2.2.2.1,a0.2.2.2.2.2):Dq1) y1690.1.1).bind fun y1809 =>
     some (((iAdd .i64 a2 1),y1809.1.1,()),((((y1809.2.1.1.1,y1809.2.1.1.2.1,y1809.2.1.1.2.2.1,y1809.2.1.1.2.2.2.1,y1809.2.1.1.2.2.2.2),y1809.2.1.2.1,y1809.2.1.2.2.1,y1809.2.1.2.2.2.1,y1809.2.1.2.2.2.2.1,y1809.2.1.2.2.2.2.2):Dq1),()))
    else
    bif (sEq x1691 ([101,110,100])) then
     bif (! (iEq (lenI y1690.1.1) 1)) then
      some ((a2,(5:Int),()),((((a0.1.1,a0.1.2.1,a0.1.2.2.1,a0.1.2.2.2.1,a0.1.2.2.2.2),a0.2.1,a0.2.2.1,a0.2.2.2.1,a0.2.2.2.2.1,a0.2.2.2.2.2):Dq1),()))
     else
     let x1812:=iSub .i64 (lenI a0.2.2.2.1) 1
     bif (iLt x1812 0) then
      some ((a2,(4:Int),()),((((a0.1.1,a0.1.2.1,a0.1.2.2.1,a0.1.2.2.2.1,a0.1.2.2.2.2),a0.2.1,a0.2.2.1,a0.2.2.2.1,a0.2.2.2.2.1,a0.2.2.2.2.2):Dq1),()))
     else
     bif inB x1812 (List.length a0.2.2.2.2.1) then
      bif (iLt 0 (List.getD a0.2.2.2.2.1 x1812.toNat (0:Int))) then
       bif inB x1812 (List.length a0.2.2.2.2.1) then
        bif inB x1812 (List.length a0.2.2.2.2.1) then
         bif inB x1812 (List.length a0.2.2.2.1) then
          some (((List.getD a0.2.2.2.1 x1812.toNat (0:Int)),(0:Int),()),((((a0.1.1,a0.1.2.1,a0.1.2.2.1,a0.1.2.2.2.1,a0.1.2.2.2.2),a0.2.1,a0.2.2.1,a0.2.2.2.1,List.set a0.2.2.2.2.1 x1812.toNat (iSub .i64 (List.getD a0.2.2.2.2.1 x1812.toNat (0:Int)) 1),a0.2.2.2.2.2):Dq1),()))
         else none
        else none
       else none
      else
      bif inS 0 x1812 (List.length a0.2.2.2.1) then
       bif inS 0 x1812 (List.length a0.2.2.2.2.1) then
        some (((iAdd .i64 a2 1),(0:Int),()),((((a0.1.1,a0.1.2.1,a0.1.2.2.1,a0.1.2.2.2.1,a0.1.2.2.2.2),a0.2.1,a0.2.2.1,List.take x1812.toNat (List.drop 0 a0.2.2.2.1),List.take x1812.toNat (List.drop 0 a0.2.2.2.2.1),a0.2.2.2.2.2):Dq1),()))
       else none
      else none
     else none
    else
    some ((a2,(5:Int),()),((((a0.1.1,a0.1.2.1,a0.1.2.2.1,a0.1.2.2.2.1,a0.1.2.2.2.2),a0.2.1,a0.2.2.1,a0.2.2.2.1,a0.2.2.2.2.1,a0.2.2.2.2.2):Dq1),()))
   else
   bif (sEq x1691 ([109,111,118,101])) then
    (qai (((a0.1.1,a0.1.2.1,a0.1.2.2.1,a0.1.2.2.2.1,a0.1.2.2.2.2),a0.2.1,a0.2.2.1,a0.2.2.2.1,a0.2.2.2.2.1,a0.2.2.2.2.2):Dq1) y1690.1.1).bind fun y1822 =>
    some (((iAdd .i64 a2 1),y1822.1.1,()),((((y1822.2.1.1.1,y1822.2.1.1.2.1,y1822.2.1.1.2.2.1,y1822.2.1.1.2.2.2.1,y1822.2.1.1.2.2.2.2),y1822.2.1.2.1,y1822.2.1.2.2.1,y1822.2.1.2.2.2.1,y1822.2.1.2.2.2.2.1,y1822.2.1.2.2.2.2.2):Dq1),()))
   else
   bif (sEq x1691 ([101,110,100])) then
    bif (! (iEq (lenI y1690.1.1) 1)) then
     some ((a2,(5:Int),()),((((a0.1.1,a0.1.2.1,a0.1.2.2.1,a0.1.2.2.2.1,a0.1.2.2.2.2),a0.2.1,a0.2.2.1,a0.2.2.2.1,a0.2.2.2.2.1,a0.2.2.2.2.2):Dq1),()))
    else
    let x1825:=iSub .i64 (lenI a0.2.2.2.1) 1
    bif (iLt x1825 0) then
     some ((a2,(4:Int),()),((((a0.1.1,a0.1.2.1,a0.1.2.2.1,a0.1.2.2.2.1,a0.1.2.2.2.2),a0.2.1,a0.2.2.1,a0.2.2.2.1,a0.2.2.2.2.1,a0.2.2.2.2.2):Dq1),()))
    else
    bif inB x1825 (List.length a0.2.2.2.2.1) then
     bif (iLt 0 (List.getD a0.2.2.2.2.1 x1825.toNat (0:Int))) then
      bif inB x1825 (List.length a0.2.2.2.2.1) then
       bif inB x1825 (List.length a0.2.2.2.2.1) then
        bif inB x1825 (List.length a0.2.2.2.1) then
         some (((List.getD a0.2.2.2.1 x1825.toNat (0:Int)),(0:Int),()),((((a0.1.1,a0.1.2.1,a0.1.2.2.1,a0.1.2.2.2.1,a0.1.2.2.2.2),a0.2.1,a0.2.2.1,a0.2.2.2.1,List.set a0.2.2.2.2.1 x1825.toNat (iSub .i64 (List.getD a0.2.2.2.2.1 x1825.toNat (0:Int)) 1),a0.2.2.2.2.2):Dq1),()))
        else none
       else none
      else none
     else
     bif inS 0 x1825 (List.length a0.2.2.2.1) then
      bif inS 0 x1825 (List.length a0.2.2.2.2.1) then
       some (((iAdd .i64 a2 1),(0:Int),()),((((a0.1.1,a0.1.2.1,a0.1.2.2.1,a0.1.2.2.2.1,a0.1.2.2.2.2),a0.2.1,a0.2.2.1,List.take x1825.toNat (List.drop 0 a0.2.2.2.1),List.take x1825.toNat (List.drop 0 a0.2.2.2.2.1),a0.2.2.2.2.2):Dq1),()))
      else none
     else none
    else none
   else
   some ((a2,(5:Int),()),((((a0.1.1,a0.1.2.1,a0.1.2.2.1,a0.1.2.2.2.1,a0.1.2.2.2.2),a0.2.1,a0.2.2.1,a0.2.2.2.1,a0.2.2.2.2.1,a0.2.2.2.2.2):Dq1),()))
  else
  let x1833:=sEq x1691 ([114,97,110,103,101])
  bif x1833 then
   bif x1833 then
    bif (! (iEq (lenI y1690.1.1) 2)) then
     some ((a2,(5:Int),()),((((a0.1.1,a0.1.2.1,a0.1.2.2.1,a0.1.2.2.2.1,a0.1.2.2.2.2),a0.2.1,a0.2.2.1,a0.2.2.2.1,a0.2.2.2.2.1,a0.2.2.2.2.2):Dq1),()))
    else
    bif inB 1 (List.length y1690.1.1) then
     (qa4 (List.getD y1690.1.1 1 ([]:List UInt8))).bind fun y1836 =>
     bif (! y1836.1.2.1) then
      some ((a2,(5:Int),()),((((a0.1.1,a0.1.2.1,a0.1.2.2.1,a0.1.2.2.2.1,a0.1.2.2.2.2),a0.2.1,a0.2.2.1,a0.2.2.2.1,a0.2.2.2.2.1,a0.2.2.2.2.2):Dq1),()))
     else
     bif inB 0 (List.length y1690.1.1) then
      (qbd (((a0.1.1,a0.1.2.1,a0.1.2.2.1,a0.1.2.2.2.1,a0.1.2.2.2.2),a0.2.1,a0.2.2.1,a0.2.2.2.1,a0.2.2.2.2.1,a0.2.2.2.2.2):Dq1) (List.getD y1690.1.1 0 ([]:List UInt8)) y1836.1.1 a2).bind fun y1840 =>
      some (((iAdd .i64 a2 1),y1840.1.1,()),((((y1840.2.1.1.1,y1840.2.1.1.2.1,y1840.2.1.1.2.2.1,y1840.2.1.1.2.2.2.1,y1840.2.1.1.2.2.2.2),y1840.2.1.2.1,y1840.2.1.2.2.1,y1840.2.1.2.2.2.1,y1840.2.1.2.2.2.2.1,y1840.2.1.2.2.2.2.2):Dq1),()))
     else none
    else none
   else
   let x1841:=sEq x1691 ([115,116,97,114,116])
   bif x1841 then
    bif x1841 then
     (qai (((a0.1.1,a0.1.2.1,a0.1.2.2.1,a0.1.2.2.2.1,a0.1.2.2.2.2),a0.2.1,a0.2.2.1,a0.2.2.2.1,a0.2.2.2.2.1,a0.2.2.2.2.2):Dq1) y1690.1.1).bind fun y1843 =>
     some (((iAdd .i64 a2 1),y1843.1.1,()),((((y1843.2.1.1.1,y1843.2.1.1.2.1,y1843.2.1.1.2.2.1,y1843.2.1.1.2.2.2.1,y1843.2.1.1.2.2.2.2),y1843.2.1.2.1,y1843.2.1.2.2.1,y1843.2.1.2.2.2.1,y1843.2.1.2.2.2.2.1,y1843.2.1.2.2.2.2.2):Dq1),()))
    else
    bif (sEq x1691 ([101,110,100])) then
     bif (! (iEq (lenI y1690.1.1) 1)) then
      some ((a2,(5:Int),()),((((a0.1.1,a0.1.2.1,a0.1.2.2.1,a0.1.2.2.2.1,a0.1.2.2.2.2),a0.2.1,a0.2.2.1,a0.2.2.2.1,a0.2.2.2.2.1,a0.2.2.2.2.2):Dq1),()))
     else
     let x1846:=iSub .i64 (lenI a0.2.2.2.1) 1
     bif (iLt x1846 0) then
      some ((a2,(4:Int),()),((((a0.1.1,a0.1.2.1,a0.1.2.2.1,a0.1.2.2.2.1,a0.1.2.2.2.2),a0.2.1,a0.2.2.1,a0.2.2.2.1,a0.2.2.2.2.1,a0.2.2.2.2.2):Dq1),()))
     else
     bif inB x1846 (List.length a0.2.2.2.2.1) then
      bif (iLt 0 (List.getD a0.2.2.2.2.1 x1846.toNat (0:Int))) then
       bif inB x1846 (List.length a0.2.2.2.2.1) then
        bif inB x1846 (List.length a0.2.2.2.2.1) then
         bif inB x1846 (List.length a0.2.2.2.1) then
          some (((List.getD a0.2.2.2.1 x1846.toNat (0:Int)),(0:Int),()),((((a0.1.1,a0.1.2.1,a0.1.2.2.1,a0.1.2.2.2.1,a0.1.2.2.2.2),a0.2.1,a0.2.2.1,a0.2.2.2.1,List.set a0.2.2.2.2.1 x1846.toNat (iSub .i64 (List.getD a0.2.2.2.2.1 x1846.toNat (0:Int)) 1),a0.2.2.2.2.2):Dq1),()))
         else none
        else none
       else none
      else
      bif inS 0 x1846 (List.length a0.2.2.2.1) then
       bif inS 0 x1846 (List.length a0.2.2.2.2.1) then
        some (((iAdd .i64 a2 1),(0:Int),()),((((a0.1.1,a0.1.2.1,a0.1.2.2.1,a0.1.2.2.2.1,a0.1.2.2.2.2),a0.2.1,a0.2.2.1,List.take x1846.toNat (List.drop 0 a0.2.2.2.1),List.take x1846.toNat (List.drop 0 a0.2.2.2.2.1),a0.2.2.2.2.2):Dq1),()))
       else none
      else none
     else none
    else
    some ((a2,(5:Int),()),((((a0.1.1,a0.1.2.1,a0.1.2.2.1,a0.1.2.2.2.1,a0.1.2.2.2.2),a0.2.1,a0.2.2.1,a0.2.2.2.1,a0.2.2.2.2.1,a0.2.2.2.2.2):Dq1),()))
   else
   let x1854:=sEq x1691 ([98,101,97,99,111,110])
   bif x1854 then
    bif x1854 then
     (qai (((a0.1.1,a0.1.2.1,a0.1.2.2.1,a0.1.2.2.2.1,a0.1.2.2.2.2),a0.2.1,a0.2.2.1,a0.2.2.2.1,a0.2.2.2.2.1,a0.2.2.2.2.2):Dq1) y1690.1.1).bind fun y1856 =>
     some (((iAdd .i64 a2 1),y1856.1.1,()),((((y1856.2.1.1.1,y1856.2.1.1.2.1,y1856.2.1.1.2.2.1,y1856.2.1.1.2.2.2.1,y1856.2.1.1.2.2.2.2),y1856.2.1.2.1,y1856.2.1.2.2.1,y1856.2.1.2.2.2.1,y1856.2.1.2.2.2.2.1,y1856.2.1.2.2.2.2.2):Dq1),()))
    else
    bif (sEq x1691 ([101,110,100])) then
     bif (! (iEq (lenI y1690.1.1) 1)) then
      some ((a2,(5:Int),()),((((a0.1.1,a0.1.2.1,a0.1.2.2.1,a0.1.2.2.2.1,a0.1.2.2.2.2),a0.2.1,a0.2.2.1,a0.2.2.2.1,a0.2.2.2.2.1,a0.2.2.2.2.2):Dq1),()))
     else
     let x1859:=iSub .i64 (lenI a0.2.2.2.1) 1
     bif (iLt x1859 0) then
      some ((a2,(4:Int),()),((((a0.1.1,a0.1.2.1,a0.1.2.2.1,a0.1.2.2.2.1,a0.1.2.2.2.2),a0.2.1,a0.2.2.1,a0.2.2.2.1,a0.2.2.2.2.1,a0.2.2.2.2.2):Dq1),()))
     else
     bif inB x1859 (List.length a0.2.2.2.2.1) then
      bif (iLt 0 (List.getD a0.2.2.2.2.1 x1859.toNat (0:Int))) then
       bif inB x1859 (List.length a0.2.2.2.2.1) then
        bif inB x1859 (List.length a0.2.2.2.2.1) then
         bif inB x1859 (List.length a0.2.2.2.1) then
          some (((List.getD a0.2.2.2.1 x1859.toNat (0:Int)),(0:Int),()),((((a0.1.1,a0.1.2.1,a0.1.2.2.1,a0.1.2.2.2.1,a0.1.2.2.2.2),a0.2.1,a0.2.2.1,a0.2.2.2.1,List.set a0.2.2.2.2.1 x1859.toNat (iSub .i64 (List.getD a0.2.2.2.2.1 x1859.toNat (0:Int)) 1),a0.2.2.2.2.2):Dq1),()))
         else none
        else none
       else none
      else
      bif inS 0 x1859 (List.length a0.2.2.2.1) then
       bif inS 0 x1859 (List.length a0.2.2.2.2.1) then
        some (((iAdd .i64 a2 1),(0:Int),()),((((a0.1.1,a0.1.2.1,a0.1.2.2.1,a0.1.2.2.2.1,a0.1.2.2.2.2),a0.2.1,a0.2.2.1,List.take x1859.toNat (List.drop 0 a0.2.2.2.1),List.take x1859.toNat (List.drop 0 a0.2.2.2.2.1),a0.2.2.2.2.2):Dq1),()))
       else none
      else none
     else none
    else
    some ((a2,(5:Int),()),((((a0.1.1,a0.1.2.1,a0.1.2.2.1,a0.1.2.2.2.1,a0.1.2.2.2.2),a0.2.1,a0.2.2.1,a0.2.2.2.1,a0.2.2.2.2.1,a0.2.2.2.2.2):Dq1),()))
   else
   bif (sEq x1691 ([109,111,118,101])) then
    (qai (((a0.1.1,a0.1.2.1,a0.1.2.2.1,a0.1.2.2.2.1,a0.1.2.2.2.2),a0.2.1,a0.2.2.1,a0.2.2.2.1,a0.2.2.2.2.1,a0.2.2.2.2.2):Dq1) y1690.1.1).bind fun y1869 =>
    some (((iAdd .i64 a2 1),y1869.1.1,()),((((y1869.2.1.1.1,y1869.2.1.1.2.1,y1869.2.1.1.2.2.1,y1869.2.1.1.2.2.2.1,y1869.2.1.1.2.2.2.2),y1869.2.1.2.1,y1869.2.1.2.2.1,y1869.2.1.2.2.2.1,y1869.2.1.2.2.2.2.1,y1869.2.1.2.2.2.2.2):Dq1),()))
   else
   bif (sEq x1691 ([101,110,100])) then
    bif (! (iEq (lenI y1690.1.1) 1)) then
     some ((a2,(5:Int),()),((((a0.1.1,a0.1.2.1,a0.1.2.2.1,a0.1.2.2.2.1,a0.1.2.2.2.2),a0.2.1,a0.2.2.1,a0.2.2.2.1,a0.2.2.2.2.1,a0.2.2.2.2.2):Dq1),()))
    else
    let x1872:=iSub .i64 (lenI a0.2.2.2.1) 1
    bif (iLt x1872 0) then
     some ((a2,(4:Int),()),((((a0.1.1,a0.1.2.1,a0.1.2.2.1,a0.1.2.2.2.1,a0.1.2.2.2.2),a0.2.1,a0.2.2.1,a0.2.2.2.1,a0.2.2.2.2.1,a0.2.2.2.2.2):Dq1),()))
    else
    bif inB x1872 (List.length a0.2.2.2.2.1) then
     bif (iLt 0 (List.getD a0.2.2.2.2.1 x1872.toNat (0:Int))) then
      bif inB x1872 (List.length a0.2.2.2.2.1) then
       bif inB x1872 (List.length a0.2.2.2.2.1) then
        bif inB x1872 (List.length a0.2.2.2.1) then
         some (((List.getD a0.2.2.2.1 x1872.toNat (0:Int)),(0:Int),()),((((a0.1.1,a0.1.2.1,a0.1.2.2.1,a0.1.2.2.2.1,a0.1.2.2.2.2),a0.2.1,a0.2.2.1,a0.2.2.2.1,List.set a0.2.2.2.2.1 x1872.toNat (iSub .i64 (List.getD a0.2.2.2.2.1 x1872.toNat (0:Int)) 1),a0.2.2.2.2.2):Dq1),()))
        else none
       else none
      else none
     else
     bif inS 0 x1872 (List.length a0.2.2.2.1) then
      bif inS 0 x1872 (List.length a0.2.2.2.2.1) then
       some (((iAdd .i64 a2 1),(0:Int),()),((((a0.1.1,a0.1.2.1,a0.1.2.2.1,a0.1.2.2.2.1,a0.1.2.2.2.2),a0.2.1,a0.2.2.1,List.take x1872.toNat (List.drop 0 a0.2.2.2.1),List.take x1872.toNat (List.drop 0 a0.2.2.2.2.1),a0.2.2.2.2.2):Dq1),()))
      else none
     else none
    else none
   else
   some ((a2,(5:Int),()),((((a0.1.1,a0.1.2.1,a0.1.2.2.1,a0.1.2.2.2.1,a0.1.2.2.2.2),a0.2.1,a0.2.2.1,a0.2.2.2.1,a0.2.2.2.2.1,a0.2.2.2.2.2):Dq1),()))
  else
  bif (sEq x1691 ([114,101,112,101,97,116])) then
   bif (! (iEq (lenI y1690.1.1) 2)) then
    some ((a2,(5:Int),()),((((a0.1.1,a0.1.2.1,a0.1.2.2.1,a0.1.2.2.2.1,a0.1.2.2.2.2),a0.2.1,a0.2.2.1,a0.2.2.2.1,a0.2.2.2.2.1,a0.2.2.2.2.2):Dq1),()))
   else
   bif inB 1 (List.length y1690.1.1) then
    (qa4 (List.getD y1690.1.1 1 ([]:List UInt8))).bind fun y1883 =>
    bif (! y1883.1.2.1) then
     some ((a2,(5:Int),()),((((a0.1.1,a0.1.2.1,a0.1.2.2.1,a0.1.2.2.2.1,a0.1.2.2.2.2),a0.2.1,a0.2.2.1,a0.2.2.2.1,a0.2.2.2.2.1,a0.2.2.2.2.2):Dq1),()))
    else
    bif inB 0 (List.length y1690.1.1) then
     (qbd (((a0.1.1,a0.1.2.1,a0.1.2.2.1,a0.1.2.2.2.1,a0.1.2.2.2.2),a0.2.1,a0.2.2.1,a0.2.2.2.1,a0.2.2.2.2.1,a0.2.2.2.2.2):Dq1) (List.getD y1690.1.1 0 ([]:List UInt8)) y1883.1.1 a2).bind fun y1887 =>
     some (((iAdd .i64 a2 1),y1887.1.1,()),((((y1887.2.1.1.1,y1887.2.1.1.2.1,y1887.2.1.1.2.2.1,y1887.2.1.1.2.2.2.1,y1887.2.1.1.2.2.2.2),y1887.2.1.2.1,y1887.2.1.2.2.1,y1887.2.1.2.2.2.1,y1887.2.1.2.2.2.2.1,y1887.2.1.2.2.2.2.2):Dq1),()))
    else none
   else none
  else
  let x1888:=sEq x1691 ([115,116,97,114,116])
  bif x1888 then
   bif x1888 then
    (qai (((a0.1.1,a0.1.2.1,a0.1.2.2.1,a0.1.2.2.2.1,a0.1.2.2.2.2),a0.2.1,a0.2.2.1,a0.2.2.2.1,a0.2.2.2.2.1,a0.2.2.2.2.2):Dq1) y1690.1.1).bind fun y1890 =>
    some (((iAdd .i64 a2 1),y1890.1.1,()),((((y1890.2.1.1.1,y1890.2.1.1.2.1,y1890.2.1.1.2.2.1,y1890.2.1.1.2.2.2.1,y1890.2.1.1.2.2.2.2),y1890.2.1.2.1,y1890.2.1.2.2.1,y1890.2.1.2.2.2.1,y1890.2.1.2.2.2.2.1,y1890.2.1.2.2.2.2.2):Dq1),()))
   else
   bif (sEq x1691 ([101,110,100])) then
    bif (! (iEq (lenI y1690.1.1) 1)) then
     some ((a2,(5:Int),()),((((a0.1.1,a0.1.2.1,a0.1.2.2.1,a0.1.2.2.2.1,a0.1.2.2.2.2),a0.2.1,a0.2.2.1,a0.2.2.2.1,a0.2.2.2.2.1,a0.2.2.2.2.2):Dq1),()))
    else
    let x1893:=iSub .i64 (lenI a0.2.2.2.1) 1
    bif (iLt x1893 0) then
     some ((a2,(4:Int),()),((((a0.1.1,a0.1.2.1,a0.1.2.2.1,a0.1.2.2.2.1,a0.1.2.2.2.2),a0.2.1,a0.2.2.1,a0.2.2.2.1,a0.2.2.2.2.1,a0.2.2.2.2.2):Dq1),()))
    else
    bif inB x1893 (List.length a0.2.2.2.2.1) then
     bif (iLt 0 (List.getD a0.2.2.2.2.1 x1893.toNat (0:Int))) then
      bif inB x1893 (List.length a0.2.2.2.2.1) then
       bif inB x1893 (List.length a0.2.2.2.2.1) then
        bif inB x1893 (List.length a0.2.2.2.1) then
         some (((List.getD a0.2.2.2.1 x1893.toNat (0:Int)),(0:Int),()),((((a0.1.1,a0.1.2.1,a0.1.2.2.1,a0.1.2.2.2.1,a0.1.2.2.2.2),a0.2.1,a0.2.2.1,a0.2.2.2.1,List.set a0.2.2.2.2.1 x1893.toNat (iSub .i64 (List.getD a0.2.2.2.2.1 x1893.toNat (0:Int)) 1),a0.2.2.2.2.2):Dq1),()))
        else none
       else none
      else none
     else
     bif inS 0 x1893 (List.length a0.2.2.2.1) then
      bif inS 0 x1893 (List.length a0.2.2.2.2.1) then
       some (((iAdd .i64 a2 1),(0:Int),()),((((a0.1.1,a0.1.2.1,a0.1.2.2.1,a0.1.2.2.2.1,a0.1.2.2.2.2),a0.2.1,a0.2.2.1,List.take x1893.toNat (List.drop 0 a0.2.2.2.1),List.take x1893.toNat (List.drop 0 a0.2.2.2.2.1),a0.2.2.2.2.2):Dq1),()))
      else none
     else none
    else none
   else
   some ((a2,(5:Int),()),((((a0.1.1,a0.1.2.1,a0.1.2.2.1,a0.1.2.2.2.1,a0.1.2.2.2.2),a0.2.1,a0.2.2.1,a0.2.2.2.1,a0.2.2.2.2.1,a0.2.2.2.2.2):Dq1),()))
  else
  let x1901:=sEq x1691 ([98,101,97,99,111,110])
  bif x1901 then
   bif x1901 then
    (qai (((a0.1.1,a0.1.2.1,a0.1.2.2.1,a0.1.2.2.2.1,a0.1.2.2.2.2),a0.2.1,a0.2.2.1,a0.2.2.2.1,a0.2.2.2.2.1,a0.2.2.2.2.2):Dq1) y1690.1.1).bind fun y1903 =>
    some (((iAdd .i64 a2 1),y1903.1.1,()),((((y1903.2.1.1.1,y1903.2.1.1.2.1,y1903.2.1.1.2.2.1,y1903.2.1.1.2.2.2.1,y1903.2.1.1.2.2.2.2),y1903.2.1.2.1,y1903.2.1.2.2.1,y1903.2.1.2.2.2.1,y1903.2.1.2.2.2.2.1,y1903.2.1.2.2.2.2.2):Dq1),()))
   else
   bif (sEq x1691 ([101,110,100])) then
    bif (! (iEq (lenI y1690.1.1) 1)) then
     some ((a2,(5:Int),()),((((a0.1.1,a0.1.2.1,a0.1.2.2.1,a0.1.2.2.2.1,a0.1.2.2.2.2),a0.2.1,a0.2.2.1,a0.2.2.2.1,a0.2.2.2.2.1,a0.2.2.2.2.2):Dq1),()))
    else
    let x1906:=iSub .i64 (lenI a0.2.2.2.1) 1
    bif (iLt x1906 0) then
     some ((a2,(4:Int),()),((((a0.1.1,a0.1.2.1,a0.1.2.2.1,a0.1.2.2.2.1,a0.1.2.2.2.2),a0.2.1,a0.2.2.1,a0.2.2.2.1,a0.2.2.2.2.1,a0.2.2.2.2.2):Dq1),()))
    else
    bif inB x1906 (List.length a0.2.2.2.2.1) then
     bif (iLt 0 (List.getD a0.2.2.2.2.1 x1906.toNat (0:Int))) then
      bif inB x1906 (List.length a0.2.2.2.2.1) then
       bif inB x1906 (List.length a0.2.2.2.2.1) then
        bif inB x1906 (List.length a0.2.2.2.1) then
         some (((List.getD a0.2.2.2.1 x1906.toNat (0:Int)),(0:Int),()),((((a0.1.1,a0.1.2.1,a0.1.2.2.1,a0.1.2.2.2.1,a0.1.2.2.2.2),a0.2.1,a0.2.2.1,a0.2.2.2.1,List.set a0.2.2.2.2.1 x1906.toNat (iSub .i64 (List.getD a0.2.2.2.2.1 x1906.toNat (0:Int)) 1),a0.2.2.2.2.2):Dq1),()))
        else none
       else none
      else none
     else
     bif inS 0 x1906 (List.length a0.2.2.2.1) then
      bif inS 0 x1906 (List.length a0.2.2.2.2.1) then
       some (((iAdd .i64 a2 1),(0:Int),()),((((a0.1.1,a0.1.2.1,a0.1.2.2.1,a0.1.2.2.2.1,a0.1.2.2.2.2),a0.2.1,a0.2.2.1,List.take x1906.toNat (List.drop 0 a0.2.2.2.1),List.take x1906.toNat (List.drop 0 a0.2.2.2.2.1),a0.2.2.2.2.2):Dq1),()))
      else none
     else none
    else none
   else
   some ((a2,(5:Int),()),((((a0.1.1,a0.1.2.1,a0.1.2.2.1,a0.1.2.2.2.1,a0.1.2.2.2.2),a0.2.1,a0.2.2.1,a0.2.2.2.1,a0.2.2.2.2.1,a0.2.2.2.2.2):Dq1),()))
  else
  bif (sEq x1691 ([109,111,118,101])) then
   (qai (((a0.1.1,a0.1.2.1,a0.1.2.2.1,a0.1.2.2.2.1,a0.1.2.2.2.2),a0.2.1,a0.2.2.1,a0.2.2.2.1,a0.2.2.2.2.1,a0.2.2.2.2.2):Dq1) y1690.1.1).bind fun y1916 =>
   some (((iAdd .i64 a2 1),y1916.1.1,()),((((y1916.2.1.1.1,y1916.2.1.1.2.1,y1916.2.1.1.2.2.1,y1916.2.1.1.2.2.2.1,y1916.2.1.1.2.2.2.2),y1916.2.1.2.1,y1916.2.1.2.2.1,y1916.2.1.2.2.2.1,y1916.2.1.2.2.2.2.1,y1916.2.1.2.2.2.2.2):Dq1),()))
  else
  bif (sEq x1691 ([101,110,100])) then
   bif (! (iEq (lenI y1690.1.1) 1)) then
    some ((a2,(5:Int),()),((((a0.1.1,a0.1.2.1,a0.1.2.2.1,a0.1.2.2.2.1,a0.1.2.2.2.2),a0.2.1,a0.2.2.1,a0.2.2.2.1,a0.2.2.2.2.1,a0.2.2.2.2.2):Dq1),()))
   else
   let x1919:=iSub .i64 (lenI a0.2.2.2.1) 1
   bif (iLt x1919 0) then
    some ((a2,(4:Int),()),((((a0.1.1,a0.1.2.1,a0.1.2.2.1,a0.1.2.2.2.1,a0.1.2.2.2.2),a0.2.1,a0.2.2.1,a0.2.2.2.1,a0.2.2.2.2.1,a0.2.2.2.2.2):Dq1),()))
   else
   bif inB x1919 (List.length a0.2.2.2.2.1) then
    bif (iLt 0 (List.getD a0.2.2.2.2.1 x1919.toNat (0:Int))) then
     bif inB x1919 (List.length a0.2.2.2.2.1) then
      bif inB x1919 (List.length a0.2.2.2.2.1) then
       bif inB x1919 (List.length a0.2.2.2.1) then
        some (((List.getD a0.2.2.2.1 x1919.toNat (0:Int)),(0:Int),()),((((a0.1.1,a0.1.2.1,a0.1.2.2.1,a0.1.2.2.2.1,a0.1.2.2.2.2),a0.2.1,a0.2.2.1,a0.2.2.2.1,List.set a0.2.2.2.2.1 x1919.toNat (iSub .i64 (List.getD a0.2.2.2.2.1 x1919.toNat (0:Int)) 1),a0.2.2.2.2.2):Dq1),()))
       else none
      else none
     else none
    else
    bif inS 0 x1919 (List.length a0.2.2.2.1) then
     bif inS 0 x1919 (List.length a0.2.2.2.2.1) then
      some (((iAdd .i64 a2 1),(0:Int),()),((((a0.1.1,a0.1.2.1,a0.1.2.2.1,a0.1.2.2.2.1,a0.1.2.2.2.2),a0.2.1,a0.2.2.1,List.take x1919.toNat (List.drop 0 a0.2.2.2.1),List.take x1919.toNat (List.drop 0 a0.2.2.2.2.1),a0.2.2.2.2.2):Dq1),()))
     else none
    else none
   else none
  else
  some ((a2,(5:Int),()),((((a0.1.1,a0.1.2.1,a0.1.2.2.1,a0.1.2.2.2.1,a0.1.2.2.2.2),a0.2.1,a0.2.2.1,a0.2.2.2.1,a0.2.2.2.2.1,a0.2.2.2.2.2):Dq1),()))
 else none
def qpa:Entry:=⟨⟨[.io (.pair (.pair (.val (.int .i64)) (.pair (.val (.arr 3 (.flt .f32))) (.pair (.rows (.arr 3 (.flt .f32))) (.pair (.rows Uq10) (.val (.unit)))))) (.pair (.val (.int .i64)) (.pair (.val (.int .i64)) (.pair (.rows (.int .i64)) (.pair (.rows (.int .i64)) (.val (.unit))))))),.v (.str),.v (.int .i64)],[.v (.val (.int .i64)),.v (.val (.int .i64))],false⟩,fun x=>qap x.1 x.2.1 x.2.2.1⟩
theorem qyu:Sound Tryz.prog G 151 qpa:=qab (envS (l:=[(150,qjk),(184,qjo),(185,qpy),(186,qn1)]) ⟨(qnf),(qnp),(qzj),(qxx),trivial⟩) [] Tryz.func151 (by kernel_rfl) rfl fun _=>by kernel_rfl
def qdk (x1663:Int) (y1659:Dq33) (s1671:(Int×Dq1×Unit)):Option ((Int×Dq1×Unit)⊕((Dq4×Int×Int×Unit)×Unit)) :=
 bif (iLt s1671.1 ((x1663.toNat:Nat):Int)) then
  bif inB s1671.1 x1663.toNat then
   (qap (((s1671.2.1.1.1,s1671.2.1.1.2.1,s1671.2.1.1.2.2.1,s1671.2.1.1.2.2.2.1,s1671.2.1.1.2.2.2.2),s1671.2.1.2.1,s1671.2.1.2.2.1,s1671.2.1.2.2.2.1,s1671.2.1.2.2.2.2.1,s1671.2.1.2.2.2.2.2):Dq1) (List.getD y1659.1.1 (0+s1671.1.toNat) ([]:List UInt8)) s1671.1).bind fun y1674 =>
   bif (! (iEq y1674.1.2.1 0)) then
    Option.map Sum.inr (some ((Lq11,s1671.1,y1674.1.2.1,()),()))
   else
   some (Sum.inl (y1674.1.1,(((y1674.2.1.1.1,y1674.2.1.1.2.1,y1674.2.1.1.2.2.1,y1674.2.1.1.2.2.2.1,y1674.2.1.1.2.2.2.2),y1674.2.1.2.1,y1674.2.1.2.2.1,y1674.2.1.2.2.2.1,y1674.2.1.2.2.2.2.1,y1674.2.1.2.2.2.2.2):Dq1),()))
  else none
 else
 Option.map Sum.inr (
  bif (iLt 0 (lenI s1671.2.1.2.2.2.1)) then
   some ((Lq11,((x1663.toNat:Nat):Int),(4:Int),()),())
  else
  some ((((s1671.2.1.1.1,s1671.2.1.1.2.1,s1671.2.1.1.2.2.1,s1671.2.1.1.2.2.2.1,s1671.2.1.1.2.2.2.2):Dq4),(0:Int),(0:Int),()),()))
def qlf (y1659:Dq33) (s1684:(Int×Dq1×Unit)):Option ((Int×Dq1×Unit)⊕((Dq4×Int×Int×Unit)×Unit)) :=
 bif (iLt s1684.1 (lenI y1659.1.1)) then
  bif inB s1684.1 (List.length y1659.1.1) then
   (qap (((s1684.2.1.1.1,s1684.2.1.1.2.1,s1684.2.1.1.2.2.1,s1684.2.1.1.2.2.2.1,s1684.2.1.1.2.2.2.2),s1684.2.1.2.1,s1684.2.1.2.2.1,s1684.2.1.2.2.2.1,s1684.2.1.2.2.2.2.1,s1684.2.1.2.2.2.2.2):Dq1) (List.getD y1659.1.1 s1684.1.toNat ([]:List UInt8)) s1684.1).bind fun y1687 =>
   bif (! (iEq y1687.1.2.1 0)) then
    Option.map Sum.inr (some ((Lq11,s1684.1,y1687.1.2.1,()),()))
   else
   some (Sum.inl (y1687.1.1,(((y1687.2.1.1.1,y1687.2.1.1.2.1,y1687.2.1.1.2.2.1,y1687.2.1.1.2.2.2.1,y1687.2.1.1.2.2.2.2),y1687.2.1.2.1,y1687.2.1.2.2.1,y1687.2.1.2.2.2.1,y1687.2.1.2.2.2.2.1,y1687.2.1.2.2.2.2.2):Dq1),()))
  else none
 else
 Option.map Sum.inr (
  bif (iLt 0 (lenI s1684.2.1.2.2.2.1)) then some ((Lq11,lenI y1659.1.1,(4:Int),()),()) else
  some ((((s1684.2.1.1.1,s1684.2.1.1.2.1,s1684.2.1.1.2.2.1,s1684.2.1.1.2.2.2.1,s1684.2.1.1.2.2.2.2):Dq4),(0:Int),(0:Int),()),()))
def qb5 (a0:List UInt8):Option ((Dq4×Int×Int×Unit)×Unit) :=
 (qbx a0 (10:Int)).bind fun y1659 =>
 let x1660:=iSub .i64 (lenI y1659.1.1) 1
 bif inB x1660 (List.length y1659.1.1) then
  bif (sEq (List.getD y1659.1.1 x1660.toNat ([]:List UInt8)) ([])) then
   let x1663:=iSub .i64 (lenI y1659.1.1) 1
   bif inS 0 x1663 (List.length y1659.1.1) then
    bif (iLt 4000 (lenI a0)) then some ((Lq11,(0:Int),(2:Int),()),()) else
    bif (iLt 200 ((x1663.toNat:Nat):Int)) then some ((Lq11,(0:Int),(2:Int),()),()) else
    run (qdk x1663 y1659) ((0:Int),(((8,(0,0,0,()),[],[],()),0,0,[],[],()):Dq1),())
   else none
  else
  bif (iLt 4000 (lenI a0)) then some ((Lq11,(0:Int),(2:Int),()),()) else
  bif (iLt 200 (lenI y1659.1.1)) then some ((Lq11,(0:Int),(2:Int),()),()) else
  run (qlf y1659) ((0:Int),(((8,(0,0,0,()),[],[],()),0,0,[],[],()):Dq1),())
 else none
def qmm:Entry:=⟨⟨[.v (.str)],[.v (.pair (.val (.int .i64)) (.pair (.val (.arr 3 (.flt .f32))) (.pair (.rows (.arr 3 (.flt .f32))) (.pair (.rows Uq10) (.val (.unit)))))),.v (.val (.int .i64)),.v (.val (.int .i64))],false⟩,fun x=>qb5 x.1⟩
theorem qwg:Sound Tryz.prog G 111 qmm:=qab (envS (l:=[(150,qjk),(151,qpa)]) ⟨(qnf),(qyu),trivial⟩) [(8,.vary [(7,.sc (.int .i64)),(6,.box (.pair (.pair (.val (.int .i64)) (.pair (.val (.arr 3 (.flt .f32))) (.pair (.rows (.arr 3 (.flt .f32))) (.pair (.rows Uq10) (.val (.unit)))))) (.pair (.val (.int .i64)) (.pair (.val (.int .i64)) (.pair (.rows (.int .i64)) (.pair (.rows (.int .i64)) (.val (.unit))))))))])] Tryz.func111 (by kernel_rfl) rfl fun _=>by kernel_rfl
def qds (a0:Dq10) (a1:(List (List UInt8))):Option Dq28 :=
 (qau a0 (lenI a1)).bind fun y2177 =>
 bif inB y2177.1.1 (List.length a1) then
  some (((List.getD a1 y2177.1.1.toNat ([]:List UInt8)),()),(y2177.2.1,()))
 else none
def qkh:Entry:=⟨⟨[.io (.val Uq7),.v (.list (.str))],[.v (.val (.str))],true⟩,fun x=>qds x.1 x.2.1⟩
theorem qpr:Sound Tryz.prog G 141 qkh:=qab (envS (l:=[(92,qew)]) ⟨(qg6),trivial⟩) [] Tryz.func141 (by kernel_rfl) rfl fun _=>by kernel_rfl
def qd2 (rec_:Int→Option Dq16) (a0:Int):Option Dq16 :=
 bif (iLe 10 a0) then
  (rec_ (iQuo .i64 a0 10)).bind fun y2181 =>
  let x2185:=ofBytes ([(iWrap .u8 (iAdd .i64 48 (iRem .i64 a0 10)))])
  bif strRoom y2181.1.1 x2185 then
   some (((strCat y2181.1.1 x2185),()),())
  else none
 else
 some (((ofBytes ([(iWrap .u8 (iAdd .i64 48 a0))])),()),())
def qco:Nat→Int→Option Dq16
 | 0=>fun _=>none
 | k+1=>qd2 (qco k)
def qcl:Int→Option Dq16:=qco 64
def spec_Decimal_sg:Sig:=⟨[.v (.int .i64)],[.v (.val (.str))],false⟩
def qvt:Entry:=⟨spec_Decimal_sg,fun x=>qcl x.1⟩
theorem qae4 (rec_:Int→Option Dq16) {G:List (Nat×Obj)} (x:spec_Decimal_sg.dom):body (env G [(25,⟨spec_Decimal_sg,fun x=>rec_ x.1⟩)]) [] Tryz.f25 spec_Decimal_sg x=qd2 rec_ x.1:=by kernel_rfl
theorem qae5:Sound Tryz.prog G 25 qvt:=by
 have h : ∀ k,Sound Tryz.prog G 25 ⟨spec_Decimal_sg,fun x=>qco k x.1⟩:=by
  intro k
  induction k with
  | zero=>exact ⟨rfl,fun _ _ _ _ _ _ _ _ _ _ _ h=>by cases h⟩
  | succ k ih=>exact qy4 (envS (l:=[(25,⟨spec_Decimal_sg,fun x=>qco k x.1⟩)]) (⟨ih,trivial⟩)) Tryz.func25 (by kernel_rfl) rfl (fun x y h=>(qae4 (qco k) (G:=G) x).trans h)
 exact h 64
def qgl (a0:Dq10):Option Dq28 :=
 (qds a0 ([[48],[49],[45,49],[49,47,50],[50],[45,51,47,52],[48],[52],[49,47,56]]:(List (List UInt8)))).bind fun y2190 =>
 some ((y2190.1.1,()),(y2190.2.1,()))
def qsz:Entry:=⟨⟨[.io (.val Uq7)],[.v (.val (.str))],true⟩,fun x=>qgl x.1⟩
theorem qaby:Sound Tryz.prog G 93 qsz:=qab (envS (l:=[(141,qkh)]) ⟨(qpr),trivial⟩) [] Tryz.func93 (by kernel_rfl) rfl fun _=>by kernel_rfl
def qjn (s2117:(List UInt8×Int×Int×Dq10×Unit)) (s2173:(List UInt8×Int×Unit)):Option ((List UInt8×Int×Unit)⊕Dq28) :=
 bif (iLt 0 s2173.2.1) then
  bif strRoom s2173.1 ([101,110,100,10]) then
   some (Sum.inl ((strCat s2173.1 ([101,110,100,10])),(iSub .i64 s2173.2.1 1),()))
  else none
 else
 Option.map Sum.inr (some ((s2173.1,()),(s2117.2.2.2.1,())))
def qhy (s2117:(List UInt8×Int×Int×Dq10×Unit)):Option ((List UInt8×Int×Int×Dq10×Unit)⊕Dq28) :=
 bif (iLt 0 s2117.2.2.1) then
  (qau s2117.2.2.2.1 (8:Int)).bind fun y2119 =>
  bif (iEq y2119.1.1 0) then
   (qau y2119.2.1 (6:Int)).bind fun y2121 =>
   (qcl y2121.1.1).bind fun y2122 =>
   bif strRoom ([102,105,120,32]) y2122.1.1 then
    let x2123:=strCat ([102,105,120,32]) y2122.1.1
    bif strRoom x2123 ([10]) then
     let x2124:=strCat x2123 ([10])
     bif strRoom s2117.1 x2124 then
      some (Sum.inl ((strCat s2117.1 x2124),s2117.2.1,(iSub .i64 s2117.2.2.1 1),y2121.2.1,()))
     else none
    else none
   else none
  else
  bif (iEq y2119.1.1 1) then
   (qau y2119.2.1 (6:Int)).bind fun y2128 =>
   (qcl (iAdd .i64 1 y2128.1.1)).bind fun y2130 =>
   bif strRoom ([104,111,108,100,32]) y2130.1.1 then
    let x2131:=strCat ([104,111,108,100,32]) y2130.1.1
    bif strRoom x2131 ([10]) then
     let x2132:=strCat x2131 ([10])
     bif strRoom s2117.1 x2132 then
      some (Sum.inl ((strCat s2117.1 x2132),s2117.2.1,(iSub .i64 s2117.2.2.1 1),y2128.2.1,()))
     else none
    else none
   else none
  else
  bif (iEq y2119.1.1 2) then
   (qau y2119.2.1 (3:Int)).bind fun y2136 =>
   (qcl y2136.1.1).bind fun y2137 =>
   bif strRoom ([114,97,110,103,101,32]) y2137.1.1 then
    let x2138:=strCat ([114,97,110,103,101,32]) y2137.1.1
    bif strRoom x2138 ([10]) then
     let x2139:=strCat x2138 ([10])
     bif strRoom s2117.1 x2139 then
      some (Sum.inl ((strCat s2117.1 x2139),s2117.2.1,(iSub .i64 s2117.2.2.1 1),y2136.2.1,()))
     else none
    else none
   else none
  else
  bif (iEq y2119.1.1 3) then
   (qau y2119.2.1 (3:Int)).bind fun y2143 =>
   (qcl (iAdd .i64 1 y2143.1.1)).bind fun y2145 =>
   bif strRoom ([114,101,112,101,97,116,32]) y2145.1.1 then
    let x2146:=strCat ([114,101,112,101,97,116,32]) y2145.1.1
    bif strRoom x2146 ([10]) then
     let x2147:=strCat x2146 ([10])
     bif strRoom s2117.1 x2147 then
      some (Sum.inl ((strCat s2117.1 x2147),(iAdd .i64 s2117.2.1 1),(iSub .i64 s2117.2.2.1 1),y2143.2.1,()))
     else none
    else none
   else none
  else
  bif (iEq y2119.1.1 4) then
   bif (iLt 0 s2117.2.1) then
    bif strRoom s2117.1 ([101,110,100,10]) then
     some (Sum.inl ((strCat s2117.1 ([101,110,100,10])),(iSub .i64 s2117.2.1 1),(iSub .i64 s2117.2.2.1 1),y2119.2.1,()))
    else none
   else
   some (Sum.inl (s2117.1,s2117.2.1,(iSub .i64 s2117.2.2.1 1),y2119.2.1,()))
  else
  (qgl y2119.2.1).bind fun y2157 =>
  bif strRoom ([109,111,118,101,32]) y2157.1.1 then
   let x2158:=strCat ([109,111,118,101,32]) y2157.1.1
   bif strRoom x2158 ([32]) then
    let x2159:=strCat x2158 ([32])
    (qgl y2157.2.1).bind fun y2160 =>
    bif strRoom x2159 y2160.1.1 then
     let x2161:=strCat x2159 y2160.1.1
     bif strRoom x2161 ([32]) then
      let x2162:=strCat x2161 ([32])
      (qgl y2160.2.1).bind fun y2163 =>
      bif strRoom x2162 y2163.1.1 then
       let x2164:=strCat x2162 y2163.1.1
       bif strRoom x2164 ([32]) then
        let x2165:=strCat x2164 ([32])
        (qau y2163.2.1 (8:Int)).bind fun y2166 =>
        (qcl (iAdd .i64 1 y2166.1.1)).bind fun y2168 =>
        bif strRoom x2165 y2168.1.1 then
         let x2169:=strCat x2165 y2168.1.1
         bif strRoom x2169 ([10]) then
          let x2170:=strCat x2169 ([10])
          bif strRoom s2117.1 x2170 then
           some (Sum.inl ((strCat s2117.1 x2170),s2117.2.1,(iSub .i64 s2117.2.2.1 1),y2166.2.1,()))
          else none
         else none
        else none
       else none
      else none
     else none
    else none
   else none
  else none
 else
 Option.map Sum.inr (run (qjn s2117) (s2117.1,s2117.2.1,()))
def qo9 (a0:Dq10) (a1:Int):Option Dq28 :=
 (qds a0 ([[],[114,97,116,101,32,52,10],[114,97,116,101,32,49,54,10],[115,116,97,114,116,32,49,32,48,32,45,49,47,50,10]]:(List (List UInt8)))).bind fun y2100 =>
 (qds y2100.2.1 ([[],[98,101,97,99,111,110,32,53,32,53,32,48,10],[98,101,97,99,111,110,32,48,32,48,32,48,10,98,101,97,99,111,110,32,45,52,32,50,32,49,10]]:(List (List UInt8)))).bind fun y2101 =>
 bif strRoom y2100.1.1 y2101.1.1 then
  let x2102:=strCat y2100.1.1 y2101.1.1
  (qds y2101.2.1 ([[102,105,120,32,52,10],[102,105,120,32,50,10],[],[102,105,120,32,49,10]]:(List (List UInt8)))).bind fun y2103 =>
  bif strRoom x2102 y2103.1.1 then
   (qau y2103.2.1 (iAdd .i64 a1 1)).bind fun y2106 =>
   run (qhy) ((strCat x2102 y2103.1.1),(0:Int),y2106.1.1,y2106.2.1,())
  else none
 else none
def qv3:Entry:=⟨⟨[.io (.val Uq7),.v (.int .i64)],[.v (.val (.str))],true⟩,fun x=>qo9 x.1 x.2.1⟩
theorem qafe:Sound Tryz.prog G 112 qv3:=qab (envS (l:=[(25,qvt),(92,qew),(93,qsz),(141,qkh)]) ⟨(qae5),(qg6),(qaby),(qpr),trivial⟩) [(6,.vary [(5,.sc (.str)),(6,.sc (.int .i64)),(7,.sc (.int .i64)),(0,.box (.val Uq7))]),(23,.vary [(5,.sc (.str)),(6,.sc (.int .i64))])] Tryz.func112 (by kernel_rfl) rfl fun _=>by kernel_rfl
def qj0 (a0:Dq10):Option ((Dq4×Unit)×(Dq10×Unit)) :=
 (qo9 a0 (6:Int)).bind fun y1655 =>
 (qb5 y1655.1.1).bind fun y1656 =>
 bif (! (iEq y1656.1.2.2.1 0)) then
  (qb5 ([98,101,97,99,111,110,32,53,32,53,32,48,10,102,105,120,32,50,10,109,111,118,101,32,49,32,49,47,50,32,48,32,54,10,114,97,110,103,101,32,48,10,109,111,118,101,32,45,49,32,48,32,49,32,52,10]:List UInt8)).bind fun y1658 =>
  some ((((y1658.1.1.1,y1658.1.1.2.1,y1658.1.1.2.2.1,y1658.1.1.2.2.2.1,y1658.1.1.2.2.2.2):Dq4),()),(y1655.2.1,()))
 else
 some ((((y1656.1.1.1,y1656.1.1.2.1,y1656.1.1.2.2.1,y1656.1.1.2.2.2.1,y1656.1.1.2.2.2.2):Dq4),()),(y1655.2.1,()))
def qnk:Entry:=⟨⟨[.io (.val Uq7)],[.v (.pair (.val (.int .i64)) (.pair (.val (.arr 3 (.flt .f32))) (.pair (.rows (.arr 3 (.flt .f32))) (.pair (.rows Uq10) (.val (.unit))))))],true⟩,fun x=>qj0 x.1⟩
theorem qum:Sound Tryz.prog G 40 qnk:=qab (envS (l:=[(111,qmm),(112,qv3)]) ⟨(qwg),(qafe),trivial⟩) [] Tryz.func40 (by kernel_rfl) rfl fun _=>by kernel_rfl
def qhd (a0:Nat):Option Dq21 :=
 (fConv .f32 .f64 a0).bind fun y2298 =>
 (qja y2298).bind fun y2299 =>
 bif (! (fEq .f64 y2299.1.1 y2299.1.1)) then some (((0:Int),()),()) else
 bif (fLt .f64 4674736138332667904 y2299.1.1) then some (((32767:Int),()),()) else
 bif (fLt .f64 y2299.1.1 13898108450065350656) then some ((Lq13,()),()) else
 (fToInt .f64 y2299.1.1 .i16).bind fun n2303 =>
 some ((n2303,()),())
def qul:Entry:=⟨⟨[.v (.flt .f32)],[.v (.val (.int .i16))],false⟩,fun x=>qhd x.1⟩
theorem qac7:Sound Tryz.prog G 188 qul:=qab (envS (l:=[(152,qkf)]) ⟨(qpn),trivial⟩) [] Tryz.func188 (by kernel_rfl) rfl fun _=>by kernel_rfl
def qqo (a0:Dq27) (a1:(Vec 3 Nat)):Option (((Vec 3 Int)×Unit)×Unit) :=
 (qhd (fDiv .f32 (fSub .f32 (Vec.getD 3 a1 0 (0:Nat)) (Vec.getD 3 a0.2.1 0 (0:Nat))) (Vec.getD 3 a0.1 0 (0:Nat)))).bind fun y2285 =>
 (qhd (fDiv .f32 (fSub .f32 (Vec.getD 3 a1 1 (0:Nat)) (Vec.getD 3 a0.2.1 1 (0:Nat))) (Vec.getD 3 a0.1 1 (0:Nat)))).bind fun y2291 =>
 (qhd (fDiv .f32 (fSub .f32 (Vec.getD 3 a1 2 (0:Nat)) (Vec.getD 3 a0.2.1 2 (0:Nat))) (Vec.getD 3 a0.1 2 (0:Nat)))).bind fun y2297 =>
 some ((((y2285.1.1,y2291.1.1,y2297.1.1,()):(Vec 3 Int)),()),())
def qsx:Entry:=⟨⟨[.ro Uq9,.v (.arr 3 (.flt .f32))],[.v (.val (.arr 3 (.int .i16)))],false⟩,fun x=>qqo x.1 x.2.1⟩
theorem qabw:Sound Tryz.prog G 156 qsx:=qab (envS (l:=[(188,qul)]) ⟨(qac7),trivial⟩) [(3,.unroll 4)] Tryz.func156 (by kernel_rfl) rfl fun _=>by kernel_rfl
def qac (a0:Nat):Option Dq9 :=
 some (((fEq .f32 (fSub .f32 a0 a0) 0),()),())
def qbf:Entry:=⟨⟨[.v (.flt .f32)],[.v (.val (.bool))],false⟩,fun x=>qac x.1⟩
theorem qbn:Sound Tryz.prog G 89 qbf:=qab (envS (l:=[]) trivial) [] Tryz.func89 (by kernel_rfl) rfl fun _=>by kernel_rfl
def qcz (a0:(Vec 3 Nat)):Option Dq9 :=
 (qac (Vec.getD 3 a0 0 (0:Nat))).bind fun y2315 =>
 bif y2315.1.1 then
  (qac (Vec.getD 3 a0 1 (0:Nat))).bind fun y2317 =>
  bif y2317.1.1 then
   (qac (Vec.getD 3 a0 2 (0:Nat))).bind fun y2319 =>
   some ((y2319.1.1,()),())
  else some ((false,()),())
 else some ((false,()),())
def qgj:Entry:=⟨⟨[.v (.arr 3 (.flt .f32))],[.v (.val (.bool))],false⟩,fun x=>qcz x.1⟩
theorem qio:Sound Tryz.prog G 118 qgj:=qab (envS (l:=[(89,qbf)]) ⟨(qbn),trivial⟩) [] Tryz.func118 (by kernel_rfl) rfl fun _=>by kernel_rfl
def qqp (a0:Dq27):Option Dq9 :=
 bif (fEq .f32 (Vec.getD 3 a0.1 0 (0:Nat)) 0) then some ((false,()),()) else
 bif (fEq .f32 (Vec.getD 3 a0.1 1 (0:Nat)) 0) then some ((false,()),()) else
 bif (fEq .f32 (Vec.getD 3 a0.1 2 (0:Nat)) 0) then some ((false,()),()) else
 (qcz a0.1).bind fun y2310 =>
 bif y2310.1.1 then
  (qcz a0.2.1).bind fun y2311 =>
  bif y2311.1.1 then
   (qby a0.2.2.1 (1:Int) (1000000:Int)).bind fun y2312 =>
   bif y2312.1.1 then
    (qby a0.2.2.2.1 (0:Int) (1000000:Int)).bind fun y2313 =>
    some ((y2313.1.1,()),())
   else some ((false,()),())
  else some ((false,()),())
 else some ((false,()),())
def qsy:Entry:=⟨⟨[.ro Uq9],[.v (.val (.bool))],false⟩,fun x=>qqp x.1⟩
theorem qabx:Sound Tryz.prog G 155 qsy:=qab (envS (l:=[(117,qeo),(118,qgj)]) ⟨(qfw),(qio),trivial⟩) [(2,.unroll 4)] Tryz.func155 (by kernel_rfl) rfl fun _=>by kernel_rfl
def qmw (a0:Dq27) (a1:(Vec 3 Nat)):Option (((Vec 3 Int)×Int×Unit)×Unit) :=
 (qqp a0).bind fun y2277 =>
 bif (! y2277.1.1) then some ((((0,0,0,()):(Vec 3 Int)),(1:Int),()),()) else
 (qqo a0 a1).bind fun y2279 =>
 some ((y2279.1.1,(0:Int),()),())
def qub:Entry:=⟨⟨[.v Uq9,.v (.arr 3 (.flt .f32))],[.v (.val (.arr 3 (.int .i16))),.v (.val (.int .i64))],false⟩,fun x=>qmw x.1 x.2.1⟩
theorem qac3:Sound Tryz.prog G 119 qub:=qab (envS (l:=[(155,qsy),(156,qsx)]) ⟨(qabx),(qabw),trivial⟩) [] Tryz.func119 (by kernel_rfl) rfl fun _=>by kernel_rfl
def qmp (a0:(Vec 3 Nat)) (a1:(Vec 3 Nat)):Option Dq24 :=
 some (((fAdd .f32 (fAdd .f32 (fMul .f32 (Vec.getD 3 a0 0 (0:Nat)) (Vec.getD 3 a1 0 (0:Nat))) (fMul .f32 (Vec.getD 3 a0 1 (0:Nat)) (Vec.getD 3 a1 1 (0:Nat)))) (fMul .f32 (Vec.getD 3 a0 2 (0:Nat)) (Vec.getD 3 a1 2 (0:Nat)))),()),())
def qql:Entry:=⟨⟨[.v (.arr 3 (.flt .f32)),.v (.arr 3 (.flt .f32))],[.v (.val (.flt .f32))],false⟩,fun x=>qmp x.1 x.2.1⟩
theorem qxo:Sound Tryz.prog G 139 qql:=qab (envS (l:=[]) trivial) [] Tryz.func139 (by kernel_rfl) rfl fun _=>by kernel_rfl
def qef (a0:Nat):Option Dq24 :=
 (fConv .f32 .f64 a0).bind fun y2335 =>
 (qvn y2335).bind fun y2336 =>
 (fConv .f64 .f32 y2336.1.1).bind fun y2337 =>
 some ((y2337,()),())
def qfo:Entry:=⟨⟨[.v (.flt .f32)],[.v (.val (.flt .f32))],false⟩,fun x=>qef x.1⟩
theorem qht:Sound Tryz.prog G 138 qfo:=qab (envS (l:=[(153,qt4)]) ⟨(qaai),trivial⟩) [] Tryz.func138 (by kernel_rfl) rfl fun _=>by kernel_rfl
def qen (a0:(Vec 3 Nat)):Option Dq24 :=
 (qmp a0 a0).bind fun y2322 =>
 (qef y2322.1.1).bind fun y2323 =>
 some ((y2323.1.1,()),())
def qjg:Entry:=⟨⟨[.v (.arr 3 (.flt .f32))],[.v (.val (.flt .f32))],false⟩,fun x=>qen x.1⟩
theorem qne:Sound Tryz.prog G 86 qjg:=qab (envS (l:=[(138,qfo),(139,qql)]) ⟨(qht),(qxo),trivial⟩) [] Tryz.func86 (by kernel_rfl) rfl fun _=>by kernel_rfl
def qka (a0:Int) (a1:Int):Option Dq21 :=
 bif (iLt a1 a0) then some ((a0,()),()) else some ((a1,()),())
def qxl:Entry:=⟨⟨[.v (.int .i64),.v (.int .i64)],[.v (.val (.int .i64))],false⟩,fun x=>qka x.1 x.2.1⟩
theorem qaf8:Sound Tryz.prog G 157 qxl:=qab (envS (l:=[]) trivial) [] Tryz.func157 (by kernel_rfl) rfl fun _=>by kernel_rfl
def qkb (a0:Int) (a1:Int):Option Dq21 :=
 bif (iLt a0 a1) then some ((a0,()),()) else some ((a1,()),())
def qxm:Entry:=⟨⟨[.v (.int .i64),.v (.int .i64)],[.v (.val (.int .i64))],false⟩,fun x=>qkb x.1 x.2.1⟩
theorem qaf9:Sound Tryz.prog G 158 qxm:=qab (envS (l:=[]) trivial) [] Tryz.func158 (by kernel_rfl) rfl fun _=>by kernel_rfl
def qjj (a0:(Vec 3 Int)) (a1:Int) (a2:Int):Option (((Vec 3 Int)×Int×Int×Unit)×Unit) :=
 bif (iLt a2 0) then some ((((0,0,0,()):(Vec 3 Int)),(0:Int),(2:Int),()),()) else
 let x2340:=iAdd .u32 (iMul .u32 1664525 a1) 1013904223
 let x2345:=iAdd .i64 (iMul .i64 2 (iWrap .i64 a2)) 1
 bif iEq x2345 0 then none else
 (qkb (32767:Int) (iAdd .i64 (iWrap .i64 (Vec.getD 3 a0 0 (0:Int))) (iSub .i64 (iRem .i64 (iWrap .i64 (iQuo .u32 x2340 65536)) x2345) (iWrap .i64 a2)))).bind fun y2352 =>
 (qka Lq13 y2352.1.1).bind fun y2353 =>
 let x2356:=iAdd .u32 (iMul .u32 1664525 x2340) 1013904223
 let x2361:=iAdd .i64 (iMul .i64 2 (iWrap .i64 a2)) 1
 bif iEq x2361 0 then none else
 (qkb (32767:Int) (iAdd .i64 (iWrap .i64 (Vec.getD 3 a0 1 (0:Int))) (iSub .i64 (iRem .i64 (iWrap .i64 (iQuo .u32 x2356 65536)) x2361) (iWrap .i64 a2)))).bind fun y2368 =>
 (qka Lq13 y2368.1.1).bind fun y2369 =>
 let x2372:=iAdd .u32 (iMul .u32 1664525 x2356) 1013904223
 let x2377:=iAdd .i64 (iMul .i64 2 (iWrap .i64 a2)) 1
 bif iEq x2377 0 then none else
 (qkb (32767:Int) (iAdd .i64 (iWrap .i64 (Vec.getD 3 a0 2 (0:Int))) (iSub .i64 (iRem .i64 (iWrap .i64 (iQuo .u32 x2372 65536)) x2377) (iWrap .i64 a2)))).bind fun y2384 =>
 (qka Lq13 y2384.1.1).bind fun y2385 =>
 some (((((iWrap .i16 y2353.1.1),(iWrap .i16 y2369.1.1),(iWrap .i16 y2385.1.1),()):(Vec 3 Int)),x2372,(0:Int),()),())
def qpo:Entry:=⟨⟨[.v (.arr 3 (.int .i16)),.v (.int .u32),.v (.int .i16)],[.v (.val (.arr 3 (.int .i16))),.v (.val (.int .u32)),.v (.val (.int .i64))],false⟩,fun x=>qjj x.1 x.2.1 x.2.2.1⟩
theorem qzc:Sound Tryz.prog G 121 qpo:=qab (envS (l:=[(157,qxl),(158,qxm)]) ⟨(qaf8),(qaf9),trivial⟩) [(5,.unroll 4)] Tryz.func121 (by kernel_rfl) rfl fun _=>by kernel_rfl
end
end Go.Proofs.YtnndahnmlmgenaaGreatDoor
