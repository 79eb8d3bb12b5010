import Derived.Test.YtnndahnmlmgenaaGreatDoorF2
/- Functions on typed data: what the evaluation of each Go function is, and that it is sound. -/
set_option linter.unusedVariables false
namespace Go.Proofs.YtnndahnmlmgenaaGreatDoor
open Go Go.Tm
noncomputable section
set_option maxRecDepth 100000
variable {G : List (Nat × Obj)}
def qpi (a0:Dq1):Option ((Dq2×Unit)×Unit) :=
 some ((((((Vec.getD 3 a0.2.1 0 (0:Nat)),(Vec.getD 3 a0.2.1 1 (0:Nat)),(Vec.getD 3 a0.2.1 2 (0:Nat)),0,0,0,()),((1056964608,0,0,0,0,0,()),(0,1056964608,0,0,0,0,()),(0,0,1056964608,0,0,0,()),(0,0,0,1065353216,0,0,()),(0,0,0,0,1065353216,0,()),(0,0,0,0,0,1065353216,()),()),()):Dq2),()),())
def qro:Entry:=⟨⟨[.ro Uq4],[.v (.val Uq2)],false⟩,fun x=>qpi x.1⟩
theorem qzp:Sound Tryz.prog G 78 qro:=qab (envS (l:=[]) trivial) [(3,.unroll 4)] Tryz.func78 (by kernel_rfl) rfl fun _=>by kernel_rfl
def qcg (a0:Int) (a1:Int) (a2:Int):Option Dq7 :=
 bif (iLe a1 a0) then
  some (((iLe a0 a2),()),())
 else some ((false,()),())
def qf6:Entry:=⟨⟨[.v (.int .i64),.v (.int .i64),.v (.int .i64)],[.v (.val (.bool))],false⟩,fun x=>qcg x.1 x.2.1 x.2.2.1⟩
theorem qii:Sound Tryz.prog G 117 qf6:=qab (envS (l:=[]) trivial) [] Tryz.func117 (by kernel_rfl) rfl fun _=>by kernel_rfl
def qaa (a0:Nat):Option Dq7 :=
 some (((fEq .f32 (fSub .f32 a0 a0) 0),()),())
def qbj:Entry:=⟨⟨[.v (.flt .f32)],[.v (.val (.bool))],false⟩,fun x=>qaa x.1⟩
theorem qbp:Sound Tryz.prog G 89 qbj:=qab (envS (l:=[]) trivial) [] Tryz.func89 (by kernel_rfl) rfl fun _=>by kernel_rfl
def qa1 (a0:Nat) (a1:Nat):Option Dq7 :=
 bif (! (fEq .f32 a0 a0)) then
  bif (! (fEq .f32 a0 a0)) then
   some (((! (fEq .f32 a1 a1)),()),())
  else some ((false,()),())
 else
 bif (! (fEq .f32 a1 a1)) then
  bif (! (fEq .f32 a0 a0)) then
   some (((! (fEq .f32 a1 a1)),()),())
  else some ((false,()),())
 else
 allSame fun (q1661:Nat) =>
 allSame fun (q1663:Nat) =>
 some (((iEq (bitsF .f32 a0 q1661) (bitsF .f32 a1 q1663)),()),())
def qgn:Entry:=⟨⟨[.v (.flt .f32),.v (.flt .f32)],[.v (.val (.bool))],false⟩,fun x=>qa1 x.1 x.2.1⟩
theorem qjb:Sound Tryz.prog G 122 qgn:=qab (envS (l:=[]) trivial) [] Tryz.func122 (by kernel_rfl) rfl fun _=>by kernel_rfl
def qbg (a0:(Vec 3 Nat)) (a1:(Vec 3 Nat)):Option Dq7 :=
 (qa1 (Vec.getD 3 a0 0 (0:Nat)) (Vec.getD 3 a1 0 (0:Nat))).bind fun y1668 =>
 bif y1668.1.1 then
  (qa1 (Vec.getD 3 a0 1 (0:Nat)) (Vec.getD 3 a1 1 (0:Nat))).bind fun y1671 =>
  bif y1671.1.1 then
   (qa1 (Vec.getD 3 a0 2 (0:Nat)) (Vec.getD 3 a1 2 (0:Nat))).bind fun y1674 =>
   some ((y1674.1.1,()),())
  else some ((false,()),())
 else some ((false,()),())
def qel:Entry:=⟨⟨[.v (.arr 3 (.flt .f32)),.v (.arr 3 (.flt .f32))],[.v (.val (.bool))],false⟩,fun x=>qbg x.1 x.2.1⟩
theorem qgm:Sound Tryz.prog G 51 qel:=qab (envS (l:=[(122,qgn)]) ⟨(qjb),trivial⟩) [] Tryz.func51 (by kernel_rfl) rfl fun _=>by kernel_rfl
def qcn (a0:(Vec 3 Nat)):Option Dq7 :=
 (qaa (Vec.getD 3 a0 0 (0:Nat))).bind fun y1676 =>
 bif y1676.1.1 then
  (qaa (Vec.getD 3 a0 1 (0:Nat))).bind fun y1678 =>
  bif y1678.1.1 then
   (qaa (Vec.getD 3 a0 2 (0:Nat))).bind fun y1680 =>
   some ((y1680.1.1,()),())
  else some ((false,()),())
 else some ((false,()),())
def qfp:Entry:=⟨⟨[.v (.arr 3 (.flt .f32))],[.v (.val (.bool))],false⟩,fun x=>qcn x.1⟩
theorem qhj:Sound Tryz.prog G 118 qfp:=qab (envS (l:=[(89,qbj)]) ⟨(qbp),trivial⟩) [] Tryz.func118 (by kernel_rfl) rfl fun _=>by kernel_rfl
def qk5 (a0:Dq3) (a1:Int):Option Dq7 :=
 (qbg a0.2.1 Lq6).bind fun y1599 =>
 bif y1599.1.1 then
  (qa1 a0.2.2.2.2.1 (0:Nat)).bind fun y1600 =>
  bif y1600.1.1 then
   bif (iEq a0.1 1) then
    bif (iEq (Vec.getD 3 a0.2.2.1 0 (0:Int)) 0&&(iEq (Vec.getD 3 a0.2.2.1 1 (0:Int)) 0&&(iEq (Vec.getD 3 a0.2.2.1 2 (0:Int)) 0&&true))) then
     some (((iEq a0.2.2.2.1 0),()),())
    else some ((false,()),())
   else
   bif (iEq a0.1 2) then
    (qcn a0.2.1).bind fun y1605 =>
    bif y1605.1.1 then
     (qa1 a0.2.2.2.2.1 (0:Nat)).bind fun y1606 =>
     bif y1606.1.1 then
      bif (iEq (Vec.getD 3 a0.2.2.1 0 (0:Int)) 0&&(iEq (Vec.getD 3 a0.2.2.1 1 (0:Int)) 0&&(iEq (Vec.getD 3 a0.2.2.1 2 (0:Int)) 0&&true))) then
       some (((iEq a0.2.2.2.1 0),()),())
      else some ((false,()),())
     else some ((false,()),())
    else some ((false,()),())
   else
   bif (iEq a0.1 3) then
    (qbg a0.2.1 Lq6).bind fun y1610 =>
    bif y1610.1.1 then
     (qa1 a0.2.2.2.2.1 (0:Nat)).bind fun y1611 =>
     bif y1611.1.1 then
      some (((iEq a0.2.2.2.1 0),()),())
     else some ((false,()),())
    else some ((false,()),())
   else
   bif (iEq a0.1 4) then
    (qbg a0.2.1 Lq6).bind fun y1614 =>
    bif y1614.1.1 then
     bif (iEq (Vec.getD 3 a0.2.2.1 0 (0:Int)) 0&&(iEq (Vec.getD 3 a0.2.2.1 1 (0:Int)) 0&&(iEq (Vec.getD 3 a0.2.2.1 2 (0:Int)) 0&&true))) then
      (qaa a0.2.2.2.2.1).bind fun y1616 =>
      bif y1616.1.1 then
       (qcg a0.2.2.2.1 (0:Int) (iSub .i64 a1 1)).bind fun y1618 =>
       some ((y1618.1.1,()),())
      else some ((false,()),())
     else some ((false,()),())
    else some ((false,()),())
   else some ((false,()),())
  else
  bif (iEq a0.1 1) then some ((false,()),()) else
  bif (iEq a0.1 2) then
   (qcn a0.2.1).bind fun y1621 =>
   bif y1621.1.1 then
    (qa1 a0.2.2.2.2.1 (0:Nat)).bind fun y1622 =>
    bif y1622.1.1 then
     bif (iEq (Vec.getD 3 a0.2.2.1 0 (0:Int)) 0&&(iEq (Vec.getD 3 a0.2.2.1 1 (0:Int)) 0&&(iEq (Vec.getD 3 a0.2.2.1 2 (0:Int)) 0&&true))) then
      some (((iEq a0.2.2.2.1 0),()),())
     else some ((false,()),())
    else some ((false,()),())
   else some ((false,()),())
  else
  bif (iEq a0.1 3) then
   (qbg a0.2.1 Lq6).bind fun y1626 =>
   bif y1626.1.1 then
    (qa1 a0.2.2.2.2.1 (0:Nat)).bind fun y1627 =>
    bif y1627.1.1 then
     some (((iEq a0.2.2.2.1 0),()),())
    else some ((false,()),())
   else some ((false,()),())
  else
  bif (iEq a0.1 4) then
   (qbg a0.2.1 Lq6).bind fun y1630 =>
   bif y1630.1.1 then
    bif (iEq (Vec.getD 3 a0.2.2.1 0 (0:Int)) 0&&(iEq (Vec.getD 3 a0.2.2.1 1 (0:Int)) 0&&(iEq (Vec.getD 3 a0.2.2.1 2 (0:Int)) 0&&true))) then
     (qaa a0.2.2.2.2.1).bind fun y1632 =>
     bif y1632.1.1 then
      (qcg a0.2.2.2.1 (0:Int) (iSub .i64 a1 1)).bind fun y1634 =>
      some ((y1634.1.1,()),())
     else some ((false,()),())
    else some ((false,()),())
   else some ((false,()),())
  else some ((false,()),())
 else
 bif (iEq a0.1 1) then some ((false,()),()) else
 bif (iEq a0.1 2) then
  (qcn a0.2.1).bind fun y1637 =>
  bif y1637.1.1 then
   (qa1 a0.2.2.2.2.1 (0:Nat)).bind fun y1638 =>
   bif y1638.1.1 then
    bif (iEq (Vec.getD 3 a0.2.2.1 0 (0:Int)) 0&&(iEq (Vec.getD 3 a0.2.2.1 1 (0:Int)) 0&&(iEq (Vec.getD 3 a0.2.2.1 2 (0:Int)) 0&&true))) then
     some (((iEq a0.2.2.2.1 0),()),())
    else some ((false,()),())
   else some ((false,()),())
  else some ((false,()),())
 else
 bif (iEq a0.1 3) then
  (qbg a0.2.1 Lq6).bind fun y1642 =>
  bif y1642.1.1 then
   (qa1 a0.2.2.2.2.1 (0:Nat)).bind fun y1643 =>
   bif y1643.1.1 then
    some (((iEq a0.2.2.2.1 0),()),())
   else some ((false,()),())
  else some ((false,()),())
 else
 bif (iEq a0.1 4) then
  (qbg a0.2.1 Lq6).bind fun y1646 =>
  bif y1646.1.1 then
   bif (iEq (Vec.getD 3 a0.2.2.1 0 (0:Int)) 0&&(iEq (Vec.getD 3 a0.2.2.1 1 (0:Int)) 0&&(iEq (Vec.getD 3 a0.2.2.1 2 (0:Int)) 0&&true))) then
    (qaa a0.2.2.2.2.1).bind fun y1648 =>
    bif y1648.1.1 then
     (qcg a0.2.2.2.1 (0:Int) (iSub .i64 a1 1)).bind fun y1650 =>
     some ((y1650.1.1,()),())
    else some ((false,()),())
   else some ((false,()),())
  else some ((false,()),())
 else some ((false,()),())
def qrn:Entry:=⟨⟨[.ro Uq1,.v (.int .i64)],[.v (.val (.bool))],false⟩,fun x=>qk5 x.1 x.2.1⟩
theorem qzo:Sound Tryz.prog G 134 qrn:=qab (envS (l:=[(51,qel),(89,qbj),(117,qf6),(118,qfp),(122,qgn)]) ⟨(qgm),(qbp),(qii),(qhj),(qjb),trivial⟩) [] Tryz.func134 (by kernel_rfl) rfl fun _=>by kernel_rfl
def qh7 (a2:(List (Vec 3 Nat))) (s1686:(Int×Unit)):Option ((Int×Unit)⊕Dq7) :=
 bif (iLt s1686.1 (lenI a2)) then
  bif inB s1686.1 (List.length a2) then
   (qcn (List.getD a2 s1686.1.toNat Lq6)).bind fun y1689 =>
   bif (! y1689.1.1) then
    Option.map Sum.inr (some ((false,()),()))
   else
   some (Sum.inl ((iAdd .i64 s1686.1 1),()))
  else none
 else
 Option.map Sum.inr (some ((true,()),()))
def qil (a0:Int) (a1:(Vec 3 Nat)) (a2:(List (Vec 3 Nat))):Option Dq7 :=
 (qcg a0 (1:Int) (64:Int)).bind fun y1681 =>
 bif (! y1681.1.1) then some ((false,()),()) else
 (qcn a1).bind fun y1683 =>
 bif (! y1683.1.1) then some ((false,()),()) else
 bif (iLt 6 (lenI a2)) then some ((false,()),()) else run (qh7 a2) ((0:Int),())
def qlp:Entry:=⟨⟨[.v (.int .i64),.v (.arr 3 (.flt .f32)),.v (.list (.arr 3 (.flt .f32)))],[.v (.val (.bool))],false⟩,fun x=>qil x.1 x.2.1 x.2.2.1⟩
theorem qrr:Sound Tryz.prog G 116 qlp:=qab (envS (l:=[(117,qf6),(118,qfp)]) ⟨(qii),(qhj),trivial⟩) [(4,.vary [(7,.sc (.int .i64))])] Tryz.func116 (by kernel_rfl) rfl fun _=>by kernel_rfl
def qj8 (a0:Dq1) (s1594:(Int×Unit)):Option ((Int×Unit)⊕Dq7) :=
 bif (iLt s1594.1 (lenI a0.2.2.2.1)) then
  bif inB s1594.1 (List.length a0.2.2.2.1) then
   (qk5 (List.getD a0.2.2.2.1 s1594.1.toNat Lq10) (lenI a0.2.2.1)).bind fun y1596 =>
   bif (! y1596.1.1) then
    Option.map Sum.inr (some ((false,()),()))
   else
   some (Sum.inl ((iAdd .i64 s1594.1 1),()))
  else none
 else
 Option.map Sum.inr (some ((true,()),()))
def qoa (a0:Dq1):Option Dq7 :=
 (qil a0.1 a0.2.1 a0.2.2.1).bind fun y1591 =>
 bif (! y1591.1.1) then some ((false,()),()) else
 bif (iLt 1200 (lenI a0.2.2.2.1)) then some ((false,()),()) else run (qj8 a0) ((0:Int),())
def que:Entry:=⟨⟨[.ro Uq4],[.v (.val (.bool))],false⟩,fun x=>qoa x.1⟩
theorem qacj:Sound Tryz.prog G 76 que:=qab (envS (l:=[(116,qlp),(134,qrn)]) ⟨(qrr),(qzo),trivial⟩) [(4,.vary [(3,.sc (.int .i64))])] Tryz.func76 (by kernel_rfl) rfl fun _=>by kernel_rfl
def qc8 (a0:(Vec 6 Nat)):Option Dq7 :=
 (qaa (Vec.getD 6 a0 0 (0:Nat))).bind fun y1737 =>
 bif (! y1737.1.1) then some ((false,()),()) else
 (qaa (Vec.getD 6 a0 1 (0:Nat))).bind fun y1740 =>
 bif (! y1740.1.1) then some ((false,()),()) else
 (qaa (Vec.getD 6 a0 2 (0:Nat))).bind fun y1743 =>
 bif (! y1743.1.1) then some ((false,()),()) else
 (qaa (Vec.getD 6 a0 3 (0:Nat))).bind fun y1746 =>
 bif (! y1746.1.1) then some ((false,()),()) else
 (qaa (Vec.getD 6 a0 4 (0:Nat))).bind fun y1749 =>
 bif (! y1749.1.1) then some ((false,()),()) else
 (qaa (Vec.getD 6 a0 5 (0:Nat))).bind fun y1752 =>
 bif (! y1752.1.1) then some ((false,()),()) else some ((true,()),())
def qnu:Entry:=⟨⟨[.v (.arr 6 (.flt .f32))],[.v (.val (.bool))],false⟩,fun x=>qc8 x.1⟩
theorem qub:Sound Tryz.prog G 251 qnu:=qab (envS (l:=[(89,qbj)]) ⟨(qbp),trivial⟩) [(2,.unroll 7)] Tryz.func251 (by kernel_rfl) rfl fun _=>by kernel_rfl
def qhk (a0:Dq5):Option Dq7 :=
 (qc8 a0.1).bind fun y1732 =>
 bif y1732.1.1 then
  (qaa a0.2.1).bind fun y1733 =>
  bif y1733.1.1 then
   (qaa a0.2.2.1).bind fun y1734 =>
   bif y1734.1.1 then
    some (((fLt .f32 0 a0.2.2.1),()),())
   else some ((false,()),())
  else some ((false,()),())
 else some ((false,()),())
def qjc:Entry:=⟨⟨[.ro Uq3],[.v (.val (.bool))],false⟩,fun x=>qhk x.1⟩
theorem qmr:Sound Tryz.prog G 217 qjc:=qab (envS (l:=[(89,qbj),(251,qnu)]) ⟨(qbp),(qub),trivial⟩) [] Tryz.func217 (by kernel_rfl) rfl fun _=>by kernel_rfl
def qik (a0:Dq5):Option Dq26 :=
 (qhk a0).bind fun y1730 =>
 bif (! y1730.1.1) then some ((Lq7,(1:Int),()),()) else some ((a0,(0:Int),()),())
def qln:Entry:=⟨⟨[.v Uq3],[.v (.val Uq3),.v (.val (.int .i64))],false⟩,fun x=>qik x.1⟩
theorem qrl:Sound Tryz.prog G 216 qln:=qab (envS (l:=[(217,qjc)]) ⟨(qmr),trivial⟩) [] Tryz.func216 (by kernel_rfl) rfl fun _=>by kernel_rfl
def qax (a0:Int) (a1:Nat) (a2:Nat):Option Dq26 :=
 (qcg a0 (0:Int) (5:Int)).bind fun y1727 =>
 bif (! y1727.1.1) then some ((Lq7,(2:Int),()),()) else
 bif inB a0 6 then
  (qik ((Vec.set 6 Lq2 a0.toNat (1065353216:Nat),a1,a2,()):Dq5)).bind fun y1729 =>
  some ((y1729.1.1,y1729.1.2.1,()),())
 else none
def qnq:Entry:=⟨⟨[.v (.int .i64),.v (.flt .f32),.v (.flt .f32)],[.v (.val Uq3),.v (.val (.int .i64))],false⟩,fun x=>qax x.1 x.2.1 x.2.2.1⟩
theorem qt1:Sound Tryz.prog G 174 qnq:=qab (envS (l:=[(117,qf6),(216,qln)]) ⟨(qii),(qrl),trivial⟩) [] Tryz.func174 (by kernel_rfl) rfl fun _=>by kernel_rfl
def qdp (a0:Nat):Option Dq22 :=
 (fConv .f32 .f64 a0).bind fun y1878 =>
 (qsf y1878).bind fun y1879 =>
 (fConv .f64 .f32 y1879.1.1).bind fun y1880 =>
 some ((y1880,()),())
def qeu:Entry:=⟨⟨[.v (.flt .f32)],[.v (.val (.flt .f32))],false⟩,fun x=>qdp x.1⟩
theorem qgk:Sound Tryz.prog G 138 qeu:=qab (envS (l:=[(153,qq6)]) ⟨(qwy),trivial⟩) [] Tryz.func138 (by kernel_rfl) rfl fun _=>by kernel_rfl
def qe4 (a0:Nat):Option Dq7 :=
 bif (fLe .f32 0 a0) then
  (qaa a0).bind fun y1882 =>
  some ((y1882.1.1,()),())
 else some ((false,()),())
def qrg:Entry:=⟨⟨[.v (.flt .f32)],[.v (.val (.bool))],false⟩,fun x=>qe4 x.1⟩
theorem qzj:Sound Tryz.prog G 213 qrg:=qab (envS (l:=[(89,qbj)]) ⟨(qbp),trivial⟩) [] Tryz.func213 (by kernel_rfl) rfl fun _=>by kernel_rfl
def qyi (s1959:Dq8) (s1998:Dq8) (x2009:Nat) (x2010:Nat) (s2022:Dq8):Option (Dq8⊕(Dq8⊕(Dq8⊕Dq11))) :=
 bif (iLt s2022.1 6) then
  bif inB s2022.1 6 then
   bif inB s1959.1 9 then
    let x2024:=Vec.getD 9 (Vec.getD 6 s2022.2.1 s2022.1.toNat Lq3) s1959.1.toNat (0:Nat)
    bif inB s2022.1 6 then
     bif inB s1998.1 9 then
      let x2025:=Vec.getD 9 (Vec.getD 6 s2022.2.1 s2022.1.toNat Lq3) s1998.1.toNat (0:Nat)
      let x2028:=fAdd .f32 (fMul .f32 x2009 x2024) (fMul .f32 x2010 x2025)
      bif inB s2022.1 6 then
       bif inB s1959.1 9 then
        bif inB s2022.1 6 then
         bif inB s1998.1 9 then
          some (Sum.inl ((iAdd .i64 s2022.1 1),Vec.set 6 (Vec.set 6 s2022.2.1 s2022.1.toNat (Vec.set 9 (Vec.getD 6 s2022.2.1 s2022.1.toNat Lq3) s1959.1.toNat x2028)) s2022.1.toNat (Vec.set 9 (Vec.getD 6 (Vec.set 6 s2022.2.1 s2022.1.toNat (Vec.set 9 (Vec.getD 6 s2022.2.1 s2022.1.toNat Lq3) s1959.1.toNat x2028)) s2022.1.toNat Lq3) s1998.1.toNat (fSub .f32 (fMul .f32 x2009 x2025) (fMul .f32 x2010 x2024))),()))
         else none
        else none
       else none
      else none
     else none
    else none
   else none
  else none
 else
 Option.map Sum.inr (
  bif inB s1959.1 6 then
   bif inB s1998.1 9 then
    some (Sum.inl ((iAdd .i64 s1998.1 1),Vec.set 6 s2022.2.1 s1959.1.toNat (Vec.set 9 (Vec.getD 6 s2022.2.1 s1959.1.toNat Lq3) s1998.1.toNat (0:Nat)),()))
   else none
  else none)
def qzk (s1959:Dq8) (s1998:Dq8):Option (Dq8⊕(Dq8⊕Dq11)) :=
 bif (iLt s1998.1 9) then
  bif inB s1959.1 6 then
   bif inB s1998.1 9 then
    let x2000:=Vec.getD 9 (Vec.getD 6 s1998.2.1 s1959.1.toNat Lq3) s1998.1.toNat (0:Nat)
    bif (fEq .f32 x2000 0) then
     some (Sum.inl ((iAdd .i64 s1998.1 1),s1998.2.1,()))
    else
    bif inB s1959.1 6 then
     bif inB s1959.1 9 then
      let x2003:=Vec.getD 9 (Vec.getD 6 s1998.2.1 s1959.1.toNat Lq3) s1959.1.toNat (0:Nat)
      (qdp (fAdd .f32 (fMul .f32 x2003 x2003) (fMul .f32 x2000 x2000))).bind fun y2007 =>
      bif (fEq .f32 y2007.1.1 0) then
       Option.map Sum.inr (Option.map Sum.inr (some ((Lq4,(4:Int),()),())))
      else
      let x2009:=fDiv .f32 x2003 y2007.1.1
      let x2010:=fDiv .f32 x2000 y2007.1.1
      run (qyi s1959 s1998 x2009 x2010) (s1959.1,s1998.2.1,())
     else none
    else none
   else none
  else none
 else
 Option.map Sum.inr (some (Sum.inl ((iAdd .i64 s1959.1 1),s1998.2.1,())))
def qg0 (s2064:Dq13) (s1959:Dq8) (s2077:Dq13):Option (Dq13⊕(Dq13⊕Dq11)) :=
 bif (iLt s2077.1 6) then
  bif inB s2077.1 6 then
   bif inB s2064.1 9 then
    let x2079:=Vec.getD 9 (Vec.getD 6 s1959.2.1 s2077.1.toNat Lq3) s2064.1.toNat (0:Nat)
    bif inB s2077.1 6 then
     bif inB s2064.1 6 then
      bif inB s2064.1 6 then
       bif inB s2064.1 9 then
        bif (fLt .f32 (Vec.getD 9 (Vec.getD 6 s1959.2.1 s2064.1.toNat Lq3) s2064.1.toNat (0:Nat)) 0) then
         bif inB s2077.1 6 then
          bif inB s2064.1 9 then
           let x2083:=fNeg .f32 (Vec.getD 9 (Vec.getD 6 s1959.2.1 s2077.1.toNat Lq3) s2064.1.toNat (0:Nat))
           bif inB s2077.1 6 then
            bif inB s2064.1 6 then
             bif inB s2077.1 6 then
              bif inB s2064.1 6 then
               (qaa (Vec.getD 6 (Vec.getD 6 (Vec.set 6 (Vec.set 6 s2077.2.1 s2077.1.toNat (Vec.set 6 (Vec.getD 6 s2077.2.1 s2077.1.toNat Lq2) s2064.1.toNat x2079)) s2077.1.toNat (Vec.set 6 (Vec.getD 6 (Vec.set 6 s2077.2.1 s2077.1.toNat (Vec.set 6 (Vec.getD 6 s2077.2.1 s2077.1.toNat Lq2) s2064.1.toNat x2079)) s2077.1.toNat Lq2) s2064.1.toNat x2083)) s2077.1.toNat Lq2) s2064.1.toNat (0:Nat))).bind fun y2085 =>
               bif (! y2085.1.1) then
                Option.map Sum.inr (Option.map Sum.inr (some ((Lq4,(4:Int),()),())))
               else
               some (Sum.inl ((iAdd .i64 s2077.1 1),Vec.set 6 (Vec.set 6 s2077.2.1 s2077.1.toNat (Vec.set 6 (Vec.getD 6 s2077.2.1 s2077.1.toNat Lq2) s2064.1.toNat x2079)) s2077.1.toNat (Vec.set 6 (Vec.getD 6 (Vec.set 6 s2077.2.1 s2077.1.toNat (Vec.set 6 (Vec.getD 6 s2077.2.1 s2077.1.toNat Lq2) s2064.1.toNat x2079)) s2077.1.toNat Lq2) s2064.1.toNat x2083),()))
              else none
             else none
            else none
           else none
          else none
         else none
        else
        bif inB s2077.1 6 then
         bif inB s2064.1 6 then
          (qaa (Vec.getD 6 (Vec.getD 6 (Vec.set 6 s2077.2.1 s2077.1.toNat (Vec.set 6 (Vec.getD 6 s2077.2.1 s2077.1.toNat Lq2) s2064.1.toNat x2079)) s2077.1.toNat Lq2) s2064.1.toNat (0:Nat))).bind fun y2089 =>
          bif (! y2089.1.1) then
           Option.map Sum.inr (Option.map Sum.inr (some ((Lq4,(4:Int),()),())))
          else
          some (Sum.inl ((iAdd .i64 s2077.1 1),Vec.set 6 s2077.2.1 s2077.1.toNat (Vec.set 6 (Vec.getD 6 s2077.2.1 s2077.1.toNat Lq2) s2064.1.toNat x2079),()))
         else none
        else none
       else none
      else none
     else none
    else none
   else none
  else none
 else
 Option.map Sum.inr (some (Sum.inl ((iAdd .i64 s2064.1 1),s2077.2.1,())))
def qcy (s1959:Dq8) (s2064:Dq13):Option (Dq13⊕Dq11) :=
 bif (iLt s2064.1 6) then run (qg0 s2064 s1959) (s2064.1,s2064.2.1,()) else
 Option.map Sum.inr (some ((s2064.2.1,(0:Int),()),()))
def qf2 (s1959:Dq8):Option (Dq8⊕Dq11) :=
 bif (iLt s1959.1 6) then
  run (qzk s1959) ((iAdd .i64 s1959.1 1),s1959.2.1,())
 else
 Option.map Sum.inr (run (qcy s1959) ((0:Int),Lq4,()))
def qdx (a0:(Vec 6 (Vec 9 Nat))):Option Dq11 :=
 run (qf2) ((0:Int),a0,())
def qlm:Entry:=⟨⟨[.v (.arr 6 (.arr 9 (.flt .f32)))],[.v (.val (.arr 6 (.arr 6 (.flt .f32)))),.v (.val (.int .i64))],false⟩,fun x=>qdx x.1⟩
theorem qri:Sound Tryz.prog G 214 qlm:=qab (envS (l:=[(89,qbj),(138,qeu)]) ⟨(qbp),(qgk),trivial⟩) [(2,.vary [(4,.sc (.int .i64)),(1,.box (.val (.arr 6 (.arr 9 (.flt .f32)))))]),(5,.vary [(5,.sc (.int .i64)),(1,.box (.val (.arr 6 (.arr 9 (.flt .f32)))))]),(16,.vary [(11,.sc (.int .i64)),(1,.box (.val (.arr 6 (.arr 9 (.flt .f32)))))]),(25,.vary [(15,.sc (.int .i64)),(14,.box (.val (.arr 6 (.arr 6 (.flt .f32)))))]),(28,.vary [(16,.sc (.int .i64)),(14,.box (.val (.arr 6 (.arr 6 (.flt .f32)))))])] Tryz.func214 (by kernel_rfl) rfl fun _=>by kernel_rfl
def qgp (a0:Dq2):Option Dq7 :=
 (qc8 a0.1).bind fun y2096 =>
 bif (! y2096.1.1) then some ((false,()),()) else
 (qc8 (Vec.getD 6 a0.2.1 0 Lq2)).bind fun y2099 =>
 bif (! y2099.1.1) then some ((false,()),()) else
 bif (fLt .f32 (Vec.getD 6 (Vec.getD 6 a0.2.1 0 Lq2) 0 (0:Nat)) 0) then some ((false,()),()) else
 bif (! (fEq .f32 (Vec.getD 6 (Vec.getD 6 a0.2.1 0 Lq2) 1 (0:Nat)) 0)) then some ((false,()),()) else
 bif (! (fEq .f32 (Vec.getD 6 (Vec.getD 6 a0.2.1 0 Lq2) 2 (0:Nat)) 0)) then some ((false,()),()) else
 bif (! (fEq .f32 (Vec.getD 6 (Vec.getD 6 a0.2.1 0 Lq2) 3 (0:Nat)) 0)) then some ((false,()),()) else
 bif (! (fEq .f32 (Vec.getD 6 (Vec.getD 6 a0.2.1 0 Lq2) 4 (0:Nat)) 0)) then some ((false,()),()) else
 bif (! (fEq .f32 (Vec.getD 6 (Vec.getD 6 a0.2.1 0 Lq2) 5 (0:Nat)) 0)) then some ((false,()),()) else
 (qc8 (Vec.getD 6 a0.2.1 1 Lq2)).bind fun y2114 =>
 bif (! y2114.1.1) then some ((false,()),()) else
 bif (fLt .f32 (Vec.getD 6 (Vec.getD 6 a0.2.1 1 Lq2) 1 (0:Nat)) 0) then some ((false,()),()) else
 bif (! (fEq .f32 (Vec.getD 6 (Vec.getD 6 a0.2.1 1 Lq2) 2 (0:Nat)) 0)) then some ((false,()),()) else
 bif (! (fEq .f32 (Vec.getD 6 (Vec.getD 6 a0.2.1 1 Lq2) 3 (0:Nat)) 0)) then some ((false,()),()) else
 bif (! (fEq .f32 (Vec.getD 6 (Vec.getD 6 a0.2.1 1 Lq2) 4 (0:Nat)) 0)) then some ((false,()),()) else
 bif (! (fEq .f32 (Vec.getD 6 (Vec.getD 6 a0.2.1 1 Lq2) 5 (0:Nat)) 0)) then some ((false,()),()) else
 (qc8 (Vec.getD 6 a0.2.1 2 Lq2)).bind fun y2127 =>
 bif (! y2127.1.1) then some ((false,()),()) else
 bif (fLt .f32 (Vec.getD 6 (Vec.getD 6 a0.2.1 2 Lq2) 2 (0:Nat)) 0) then some ((false,()),()) else
 bif (! (fEq .f32 (Vec.getD 6 (Vec.getD 6 a0.2.1 2 Lq2) 3 (0:Nat)) 0)) then some ((false,()),()) else
 bif (! (fEq .f32 (Vec.getD 6 (Vec.getD 6 a0.2.1 2 Lq2) 4 (0:Nat)) 0)) then some ((false,()),()) else
 bif (! (fEq .f32 (Vec.getD 6 (Vec.getD 6 a0.2.1 2 Lq2) 5 (0:Nat)) 0)) then some ((false,()),()) else
 (qc8 (Vec.getD 6 a0.2.1 3 Lq2)).bind fun y2138 =>
 bif (! y2138.1.1) then some ((false,()),()) else
 bif (fLt .f32 (Vec.getD 6 (Vec.getD 6 a0.2.1 3 Lq2) 3 (0:Nat)) 0) then some ((false,()),()) else
 bif (! (fEq .f32 (Vec.getD 6 (Vec.getD 6 a0.2.1 3 Lq2) 4 (0:Nat)) 0)) then some ((false,()),()) else
 bif (! (fEq .f32 (Vec.getD 6 (Vec.getD 6 a0.2.1 3 Lq2) 5 (0:Nat)) 0)) then some ((false,()),()) else
 (qc8 (Vec.getD 6 a0.2.1 4 Lq2)).bind fun y2147 =>
 bif (! y2147.1.1) then some ((false,()),()) else
 bif (fLt .f32 (Vec.getD 6 (Vec.getD 6 a0.2.1 4 Lq2) 4 (0:Nat)) 0) then some ((false,()),()) else
 bif (! (fEq .f32 (Vec.getD 6 (Vec.getD 6 a0.2.1 4 Lq2) 5 (0:Nat)) 0)) then some ((false,()),()) else
 (qc8 (Vec.getD 6 a0.2.1 5 Lq2)).bind fun y2154 =>
 bif (! y2154.1.1) then some ((false,()),()) else
 bif (fLt .f32 (Vec.getD 6 (Vec.getD 6 a0.2.1 5 Lq2) 5 (0:Nat)) 0) then some ((false,()),()) else some ((true,()),())
def qf7:Entry:=⟨⟨[.ro Uq2],[.v (.val (.bool))],false⟩,fun x=>qgp x.1⟩
theorem qij:Sound Tryz.prog G 212 qf7:=qab (envS (l:=[(251,qnu)]) ⟨(qub),trivial⟩) [(4,.unroll 7),(9,.unroll 6)] Tryz.func212 (by kernel_rfl) rfl fun _=>by kernel_rfl
def qdq (a0:Dq2) (a1:Int):Option Dq14 :=
 bif (! (iEq a1 0)) then
  some ((Lq1,a1,()),())
 else
 (qgp a0).bind fun y2094 =>
 bif (! y2094.1.1) then
  some ((Lq1,(4:Int),()),())
 else some ((a0,(0:Int),()),())
def qms:Entry:=⟨⟨[.v Uq2,.v (.int .i64)],[.v (.val Uq2),.v (.val (.int .i64))],false⟩,fun x=>qdq x.1 x.2.1⟩
theorem qsp:Sound Tryz.prog G 215 qms:=qab (envS (l:=[(212,qf7)]) ⟨(qij),trivial⟩) [] Tryz.func215 (by kernel_rfl) rfl fun _=>by kernel_rfl
def qhh (a0:Dq2) (a1:Nat) (a2:(Vec 3 Nat)):Option Dq14 :=
 (qgp a0).bind fun y1754 =>
 bif (! y1754.1.1) then
  some ((Lq1,(1:Int),()),())
 else
 (qe4 a1).bind fun y1756 =>
 bif (! y1756.1.1) then
  some ((Lq1,(2:Int),()),())
 else
 (qe4 (Vec.getD 3 a2 0 (0:Nat))).bind fun y1759 =>
 bif (! y1759.1.1) then
  some ((Lq1,(2:Int),()),())
 else
 (qe4 (Vec.getD 3 a2 1 (0:Nat))).bind fun y1762 =>
 bif (! y1762.1.1) then
  some ((Lq1,(2:Int),()),())
 else
 (qe4 (Vec.getD 3 a2 2 (0:Nat))).bind fun y1765 =>
 bif (! y1765.1.1) then
  some ((Lq1,(2:Int),()),())
 else
 (qdp a1).bind fun y1767 =>
 (qdx ((((fAdd .f32 (Vec.getD 6 (Vec.getD 6 a0.2.1 0 Lq2) 0 (0:Nat)) (fMul .f32 a1 (Vec.getD 6 (Vec.getD 6 a0.2.1 3 Lq2) 0 (0:Nat)))),(fAdd .f32 (Vec.getD 6 (Vec.getD 6 a0.2.1 0 Lq2) 1 (0:Nat)) (fMul .f32 a1 (Vec.getD 6 (Vec.getD 6 a0.2.1 3 Lq2) 1 (0:Nat)))),(fAdd .f32 (Vec.getD 6 (Vec.getD 6 a0.2.1 0 Lq2) 2 (0:Nat)) (fMul .f32 a1 (Vec.getD 6 (Vec.getD 6 a0.2.1 3 Lq2) 2 (0:Nat)))),(fAdd .f32 (Vec.getD 6 (Vec.getD 6 a0.2.1 0 Lq2) 3 (0:Nat)) (fMul .f32 a1 (Vec.getD 6 (Vec.getD 6 a0.2.1 3 Lq2) 3 (0:Nat)))),(fAdd .f32 (Vec.getD 6 (Vec.getD 6 a0.2.1 0 Lq2) 4 (0:Nat)) (fMul .f32 a1 (Vec.getD 6 (Vec.getD 6 a0.2.1 3 Lq2) 4 (0:Nat)))),(fAdd .f32 (Vec.getD 6 (Vec.getD 6 a0.2.1 0 Lq2) 5 (0:Nat)) (fMul .f32 a1 (Vec.getD 6 (Vec.getD 6 a0.2.1 3 Lq2) 5 (0:Nat)))),0,0,0,()),((fAdd .f32 (Vec.getD 6 (Vec.getD 6 a0.2.1 1 Lq2) 0 (0:Nat)) (fMul .f32 a1 (Vec.getD 6 (Vec.getD 6 a0.2.1 4 Lq2) 0 (0:Nat)))),(fAdd .f32 (Vec.getD 6 (Vec.getD 6 a0.2.1 1 Lq2) 1 (0:Nat)) (fMul .f32 a1 (Vec.getD 6 (Vec.getD 6 a0.2.1 4 Lq2) 1 (0:Nat)))),(fAdd .f32 (Vec.getD 6 (Vec.getD 6 a0.2.1 1 Lq2) 2 (0:Nat)) (fMul .f32 a1 (Vec.getD 6 (Vec.getD 6 a0.2.1 4 Lq2) 2 (0:Nat)))),(fAdd .f32 (Vec.getD 6 (Vec.getD 6 a0.2.1 1 Lq2) 3 (0:Nat)) (fMul .f32 a1 (Vec.getD 6 (Vec.getD 6 a0.2.1 4 Lq2) 3 (0:Nat)))),(fAdd .f32 (Vec.getD 6 (Vec.getD 6 a0.2.1 1 Lq2) 4 (0:Nat)) (fMul .f32 a1 (Vec.getD 6 (Vec.getD 6 a0.2.1 4 Lq2) 4 (0:Nat)))),(fAdd .f32 (Vec.getD 6 (Vec.getD 6 a0.2.1 1 Lq2) 5 (0:Nat)) (fMul .f32 a1 (Vec.getD 6 (Vec.getD 6 a0.2.1 4 Lq2) 5 (0:Nat)))),0,0,0,()),((fAdd .f32 (Vec.getD 6 (Vec.getD 6 a0.2.1 2 Lq2) 0 (0:Nat)) (fMul .f32 a1 (Vec.getD 6 (Vec.getD 6 a0.2.1 5 Lq2) 0 (0:Nat)))),(fAdd .f32 (Vec.getD 6 (Vec.getD 6 a0.2.1 2 Lq2) 1 (0:Nat)) (fMul .f32 a1 (Vec.getD 6 (Vec.getD 6 a0.2.1 5 Lq2) 1 (0:Nat)))),(fAdd .f32 (Vec.getD 6 (Vec.getD 6 a0.2.1 2 Lq2) 2 (0:Nat)) (fMul .f32 a1 (Vec.getD 6 (Vec.getD 6 a0.2.1 5 Lq2) 2 (0:Nat)))),(fAdd .f32 (Vec.getD 6 (Vec.getD 6 a0.2.1 2 Lq2) 3 (0:Nat)) (fMul .f32 a1 (Vec.getD 6 (Vec.getD 6 a0.2.1 5 Lq2) 3 (0:Nat)))),(fAdd .f32 (Vec.getD 6 (Vec.getD 6 a0.2.1 2 Lq2) 4 (0:Nat)) (fMul .f32 a1 (Vec.getD 6 (Vec.getD 6 a0.2.1 5 Lq2) 4 (0:Nat)))),(fAdd .f32 (Vec.getD 6 (Vec.getD 6 a0.2.1 2 Lq2) 5 (0:Nat)) (fMul .f32 a1 (Vec.getD 6 (Vec.getD 6 a0.2.1 5 Lq2) 5 (0:Nat)))),0,0,0,()),((Vec.getD 6 (Vec.getD 6 a0.2.1 3 Lq2) 0 (0:Nat)),(Vec.getD 6 (Vec.getD 6 a0.2.1 3 Lq2) 1 (0:Nat)),(Vec.getD 6 (Vec.getD 6 a0.2.1 3 Lq2) 2 (0:Nat)),(Vec.getD 6 (Vec.getD 6 a0.2.1 3 Lq2) 3 (0:Nat)),(Vec.getD 6 (Vec.getD 6 a0.2.1 3 Lq2) 4 (0:Nat)),(Vec.getD 6 (Vec.getD 6 a0.2.1 3 Lq2) 5 (0:Nat)),(fMul .f32 (Vec.getD 3 a2 0 (0:Nat)) y1767.1.1),0,0,()),((Vec.getD 6 (Vec.getD 6 a0.2.1 4 Lq2) 0 (0:Nat)),(Vec.getD 6 (Vec.getD 6 a0.2.1 4 Lq2) 1 (0:Nat)),(Vec.getD 6 (Vec.getD 6 a0.2.1 4 Lq2) 2 (0:Nat)),(Vec.getD 6 (Vec.getD 6 a0.2.1 4 Lq2) 3 (0:Nat)),(Vec.getD 6 (Vec.getD 6 a0.2.1 4 Lq2) 4 (0:Nat)),(Vec.getD 6 (Vec.getD 6 a0.2.1 4 Lq2) 5 (0:Nat)),0,(fMul .f32 (Vec.getD 3 a2 1 (0:Nat)) y1767.1.1),0,()),((Vec.getD 6 (Vec.getD 6 a0.2.1 5 Lq2) 0 (0:Nat)),(Vec.getD 6 (Vec.getD 6 a0.2.1 5 Lq2) 1 (0:Nat)),(Vec.getD 6 (Vec.getD 6 a0.2.1 5 Lq2) 2 (0:Nat)),(Vec.getD 6 (Vec.getD 6 a0.2.1 5 Lq2) 3 (0:Nat)),(Vec.getD 6 (Vec.getD 6 a0.2.1 5 Lq2) 4 (0:Nat)),(Vec.getD 6 (Vec.getD 6 a0.2.1 5 Lq2) 5 (0:Nat)),0,0,(fMul .f32 (Vec.getD 3 a2 2 (0:Nat)) y1767.1.1),()),()):(Vec 6 (Vec 9 Nat)))).bind fun y1876 =>
 (qdq ((Vec.set 6 (Vec.set 6 (Vec.set 6 a0.1 0 (fAdd .f32 (Vec.getD 6 a0.1 0 (0:Nat)) (fMul .f32 (Vec.getD 6 a0.1 3 (0:Nat)) a1))) 1 (fAdd .f32 (Vec.getD 6 a0.1 1 (0:Nat)) (fMul .f32 (Vec.getD 6 a0.1 4 (0:Nat)) a1))) 2 (fAdd .f32 (Vec.getD 6 a0.1 2 (0:Nat)) (fMul .f32 (Vec.getD 6 a0.1 5 (0:Nat)) a1)),y1876.1.1,a0.2.2):Dq2) y1876.1.2.1).bind fun y1877 =>
 some ((y1877.1.1,y1877.1.2.1,()),())
def qsl:Entry:=⟨⟨[.v Uq2,.v (.flt .f32),.v (.arr 3 (.flt .f32))],[.v (.val Uq2),.v (.val (.int .i64))],false⟩,fun x=>qhh x.1 x.2.1 x.2.2.1⟩
theorem qabh:Sound Tryz.prog G 173 qsl:=qab (envS (l:=[(138,qeu),(212,qf7),(213,qrg),(214,qlm),(215,qms)]) ⟨(qgk),(qij),(qzj),(qri),(qsp),trivial⟩) [(9,.unroll 4),(13,.unroll 7)] Tryz.func173 (by kernel_rfl) rfl fun _=>by kernel_rfl
def qku (a0:(Vec 3 Nat)) (a1:(Vec 3 Nat)):Option Dq22 :=
 some (((fAdd .f32 (fAdd .f32 (fMul .f32 (Vec.getD 3 a0 0 (0:Nat)) (Vec.getD 3 a1 0 (0:Nat))) (fMul .f32 (Vec.getD 3 a0 1 (0:Nat)) (Vec.getD 3 a1 1 (0:Nat)))) (fMul .f32 (Vec.getD 3 a0 2 (0:Nat)) (Vec.getD 3 a1 2 (0:Nat)))),()),())
def qns:Entry:=⟨⟨[.v (.arr 3 (.flt .f32)),.v (.arr 3 (.flt .f32))],[.v (.val (.flt .f32))],false⟩,fun x=>qku x.1 x.2.1⟩
theorem qt7:Sound Tryz.prog G 139 qns:=qab (envS (l:=[]) trivial) [] Tryz.func139 (by kernel_rfl) rfl fun _=>by kernel_rfl
def qe3 (a0:(Vec 3 Nat)):Option Dq22 :=
 (qku a0 a0).bind fun y2172 =>
 (qdp y2172.1.1).bind fun y2173 =>
 some ((y2173.1.1,()),())
def qlk:Entry:=⟨⟨[.v (.arr 3 (.flt .f32))],[.v (.val (.flt .f32))],false⟩,fun x=>qe3 x.1⟩
theorem qre:Sound Tryz.prog G 86 qlk:=qab (envS (l:=[(138,qeu),(139,qns)]) ⟨(qgk),(qt7),trivial⟩) [] Tryz.func86 (by kernel_rfl) rfl fun _=>by kernel_rfl
def qfh (a0:(Vec 3 Nat)) (a1:(Vec 3 Nat)):Option (Dq18×Unit) :=
 some (((((fSub .f32 (Vec.getD 3 a0 0 (0:Nat)) (Vec.getD 3 a1 0 (0:Nat))),(fSub .f32 (Vec.getD 3 a0 1 (0:Nat)) (Vec.getD 3 a1 1 (0:Nat))),(fSub .f32 (Vec.getD 3 a0 2 (0:Nat)) (Vec.getD 3 a1 2 (0:Nat))),()):(Vec 3 Nat)),()),())
def qnr:Entry:=⟨⟨[.v (.arr 3 (.flt .f32)),.v (.arr 3 (.flt .f32))],[.v (.val (.arr 3 (.flt .f32)))],false⟩,fun x=>qfh x.1 x.2.1⟩
theorem qt2:Sound Tryz.prog G 87 qnr:=qab (envS (l:=[]) trivial) [] Tryz.func87 (by kernel_rfl) rfl fun _=>by kernel_rfl
def qn9 (a0:(Vec 3 Nat)):Option (((Vec 3 Nat)×Int×Unit)×Unit) :=
 (qku a0 a0).bind fun y2194 =>
 (qdp y2194.1.1).bind fun y2195 =>
 bif (fEq .f32 y2195.1.1 0) then some ((Lq6,(4:Int),()),()) else
 (qaa y2195.1.1).bind fun y2197 =>
 bif (! y2197.1.1) then some ((Lq6,(4:Int),()),()) else
 some (((((fDiv .f32 (Vec.getD 3 a0 0 (0:Nat)) y2195.1.1),(fDiv .f32 (Vec.getD 3 a0 1 (0:Nat)) y2195.1.1),(fDiv .f32 (Vec.getD 3 a0 2 (0:Nat)) y2195.1.1),()):(Vec 3 Nat)),(0:Int),()),())
def qt3:Entry:=⟨⟨[.v (.arr 3 (.flt .f32))],[.v (.val (.arr 3 (.flt .f32))),.v (.val (.int .i64))],false⟩,fun x=>qn9 x.1⟩
theorem qacd:Sound Tryz.prog G 220 qt3:=qab (envS (l:=[(89,qbj),(138,qeu),(139,qns)]) ⟨(qbp),(qgk),(qt7),trivial⟩) [] Tryz.func220 (by kernel_rfl) rfl fun _=>by kernel_rfl
def qkv (a0:(Vec 6 Nat)) (a1:(Vec 6 Nat)):Option Dq22 :=
 some (((fAdd .f32 (fAdd .f32 (fAdd .f32 (fAdd .f32 (fAdd .f32 (fMul .f32 (Vec.getD 6 a0 0 (0:Nat)) (Vec.getD 6 a1 0 (0:Nat))) (fMul .f32 (Vec.getD 6 a0 1 (0:Nat)) (Vec.getD 6 a1 1 (0:Nat)))) (fMul .f32 (Vec.getD 6 a0 2 (0:Nat)) (Vec.getD 6 a1 2 (0:Nat)))) (fMul .f32 (Vec.getD 6 a0 3 (0:Nat)) (Vec.getD 6 a1 3 (0:Nat)))) (fMul .f32 (Vec.getD 6 a0 4 (0:Nat)) (Vec.getD 6 a1 4 (0:Nat)))) (fMul .f32 (Vec.getD 6 a0 5 (0:Nat)) (Vec.getD 6 a1 5 (0:Nat)))),()),())
def qnt:Entry:=⟨⟨[.v (.arr 6 (.flt .f32)),.v (.arr 6 (.flt .f32))],[.v (.val (.flt .f32))],false⟩,fun x=>qkv x.1 x.2.1⟩
theorem qt9:Sound Tryz.prog G 221 qnt:=qab (envS (l:=[]) trivial) [(3,.unroll 6)] Tryz.func221 (by kernel_rfl) rfl fun _=>by kernel_rfl
def qk4 (a0:Dq2):Option (Dq18×Unit) :=
 some (((((Vec.getD 6 a0.1 0 (0:Nat)),(Vec.getD 6 a0.1 1 (0:Nat)),(Vec.getD 6 a0.1 2 (0:Nat)),()):(Vec 3 Nat)),()),())
def qrj:Entry:=⟨⟨[.ro Uq2],[.v (.val (.arr 3 (.flt .f32)))],false⟩,fun x=>qk4 x.1⟩
theorem qzl:Sound Tryz.prog G 88 qrj:=qab (envS (l:=[]) trivial) [] Tryz.func88 (by kernel_rfl) rfl fun _=>by kernel_rfl
def qfm (a0:Dq2) (a1:(Vec 3 Nat)) (a2:Nat) (a3:Nat):Option Dq26 :=
 (qgp a0).bind fun y2158 =>
 bif (! y2158.1.1) then some ((Lq7,(1:Int),()),()) else
 (qk4 a0).bind fun y2160 =>
 (qfh y2160.1.1 a1).bind fun y2161 =>
 (qn9 y2161.1.1).bind fun y2162 =>
 bif (! (iEq y2162.1.2.1 0)) then some ((Lq7,y2162.1.2.1,()),()) else
 let x2164:=Vec.getD 3 y2162.1.1 0 (0:Nat)
 let x2165:=Vec.getD 3 y2162.1.1 1 (0:Nat)
 let x2166:=Vec.getD 3 y2162.1.1 2 (0:Nat)
 (qe3 y2161.1.1).bind fun y2167 =>
 (qkv ((x2164,x2165,x2166,0,0,0,()):(Vec 6 Nat)) a0.1).bind fun y2169 =>
 (qik (((x2164,x2165,x2166,0,0,0,()),(fAdd .f32 (fSub .f32 a2 y2167.1.1) y2169.1.1),a3,()):Dq5)).bind fun y2171 =>
 some ((y2171.1.1,y2171.1.2.1,()),())
def qpx:Entry:=⟨⟨[.v Uq2,.v (.arr 3 (.flt .f32)),.v (.flt .f32),.v (.flt .f32)],[.v (.val Uq3),.v (.val (.int .i64))],false⟩,fun x=>qfm x.1 x.2.1 x.2.2.1 x.2.2.2.1⟩
theorem qye:Sound Tryz.prog G 177 qpx:=qab (envS (l:=[(86,qlk),(87,qnr),(88,qrj),(212,qf7),(216,qln),(220,qt3),(221,qnt)]) ⟨(qre),(qt2),(qzl),(qij),(qrl),(qacd),(qt9),trivial⟩) [] Tryz.func177 (by kernel_rfl) rfl fun _=>by kernel_rfl
def qhm (a0:Dq2) (a1:Dq5):Option (((Vec 6 Nat)×Nat×Nat×Unit)×Unit) :=
 let x2604:=fAdd .f32 (fAdd .f32 (fAdd .f32 (fAdd .f32 (fAdd .f32 (fMul .f32 (Vec.getD 6 (Vec.getD 6 a0.2.1 0 Lq2) 0 (0:Nat)) (Vec.getD 6 a1.1 0 (0:Nat))) (fMul .f32 (Vec.getD 6 (Vec.getD 6 a0.2.1 1 Lq2) 0 (0:Nat)) (Vec.getD 6 a1.1 1 (0:Nat)))) (fMul .f32 (Vec.getD 6 (Vec.getD 6 a0.2.1 2 Lq2) 0 (0:Nat)) (Vec.getD 6 a1.1 2 (0:Nat)))) (fMul .f32 (Vec.getD 6 (Vec.getD 6 a0.2.1 3 Lq2) 0 (0:Nat)) (Vec.getD 6 a1.1 3 (0:Nat)))) (fMul .f32 (Vec.getD 6 (Vec.getD 6 a0.2.1 4 Lq2) 0 (0:Nat)) (Vec.getD 6 a1.1 4 (0:Nat)))) (fMul .f32 (Vec.getD 6 (Vec.getD 6 a0.2.1 5 Lq2) 0 (0:Nat)) (Vec.getD 6 a1.1 5 (0:Nat)))
 let x2623:=fAdd .f32 (fAdd .f32 (fAdd .f32 (fAdd .f32 (fMul .f32 (Vec.getD 6 (Vec.getD 6 a0.2.1 1 Lq2) 1 (0:Nat)) (Vec.getD 6 a1.1 1 (0:Nat))) (fMul .f32 (Vec.getD 6 (Vec.getD 6 a0.2.1 2 Lq2) 1 (0:Nat)) (Vec.getD 6 a1.1 2 (0:Nat)))) (fMul .f32 (Vec.getD 6 (Vec.getD 6 a0.2.1 3 Lq2) 1 (0:Nat)) (Vec.getD 6 a1.1 3 (0:Nat)))) (fMul .f32 (Vec.getD 6 (Vec.getD 6 a0.2.1 4 Lq2) 1 (0:Nat)) (Vec.getD 6 a1.1 4 (0:Nat)))) (fMul .f32 (Vec.getD 6 (Vec.getD 6 a0.2.1 5 Lq2) 1 (0:Nat)) (Vec.getD 6 a1.1 5 (0:Nat)))
 let x2638:=fAdd .f32 (fAdd .f32 (fAdd .f32 (fMul .f32 (Vec.getD 6 (Vec.getD 6 a0.2.1 2 Lq2) 2 (0:Nat)) (Vec.getD 6 a1.1 2 (0:Nat))) (fMul .f32 (Vec.getD 6 (Vec.getD 6 a0.2.1 3 Lq2) 2 (0:Nat)) (Vec.getD 6 a1.1 3 (0:Nat)))) (fMul .f32 (Vec.getD 6 (Vec.getD 6 a0.2.1 4 Lq2) 2 (0:Nat)) (Vec.getD 6 a1.1 4 (0:Nat)))) (fMul .f32 (Vec.getD 6 (Vec.getD 6 a0.2.1 5 Lq2) 2 (0:Nat)) (Vec.getD 6 a1.1 5 (0:Nat)))
 let x2649:=fAdd .f32 (fAdd .f32 (fMul .f32 (Vec.getD 6 (Vec.getD 6 a0.2.1 3 Lq2) 3 (0:Nat)) (Vec.getD 6 a1.1 3 (0:Nat))) (fMul .f32 (Vec.getD 6 (Vec.getD 6 a0.2.1 4 Lq2) 3 (0:Nat)) (Vec.getD 6 a1.1 4 (0:Nat)))) (fMul .f32 (Vec.getD 6 (Vec.getD 6 a0.2.1 5 Lq2) 3 (0:Nat)) (Vec.getD 6 a1.1 5 (0:Nat)))
 let x2656:=fAdd .f32 (fMul .f32 (Vec.getD 6 (Vec.getD 6 a0.2.1 4 Lq2) 4 (0:Nat)) (Vec.getD 6 a1.1 4 (0:Nat))) (fMul .f32 (Vec.getD 6 (Vec.getD 6 a0.2.1 5 Lq2) 4 (0:Nat)) (Vec.getD 6 a1.1 5 (0:Nat)))
 let x2659:=fMul .f32 (Vec.getD 6 (Vec.getD 6 a0.2.1 5 Lq2) 5 (0:Nat)) (Vec.getD 6 a1.1 5 (0:Nat))
 (qkv a1.1 a0.1).bind fun y2673 =>
 some ((((x2604,x2623,x2638,x2649,x2656,x2659,()):(Vec 6 Nat)),(fSub .f32 a1.2.1 y2673.1.1),(fAdd .f32 (fAdd .f32 (fAdd .f32 (fAdd .f32 (fAdd .f32 (fAdd .f32 (fMul .f32 x2604 x2604) (fMul .f32 x2623 x2623)) (fMul .f32 x2638 x2638)) (fMul .f32 x2649 x2649)) (fMul .f32 x2656 x2656)) (fMul .f32 x2659 x2659)) (fMul .f32 a1.2.2.1 a1.2.2.1)),()),())
def qkf:Entry:=⟨⟨[.ro Uq2,.ro Uq3],[.v (.val (.arr 6 (.flt .f32))),.v (.val (.flt .f32)),.v (.val (.flt .f32))],false⟩,fun x=>qhm x.1 x.2.1⟩
theorem qp1:Sound Tryz.prog G 252 qkf:=qab (envS (l:=[(221,qnt)]) ⟨(qt9),trivial⟩) [(3,.unroll 7),(7,.unroll 6),(13,.unroll 6)] Tryz.func252 (by kernel_rfl) rfl fun _=>by kernel_rfl
def qfr (a0:Dq2) (a1:Dq5):Option Dq14 :=
 (qhm a0 a1).bind fun y2249 =>
 (qdp (fDiv .f32 (fMul .f32 a1.2.2.1 a1.2.2.1) y2249.1.2.2.1)).bind fun y2252 =>
 let x2255:=fDiv .f32 (fDiv .f32 1065353216 (fAdd .f32 1065353216 y2252.1.1)) y2249.1.2.2.1
 let x2258:=fMul .f32 (Vec.getD 6 (Vec.getD 6 a0.2.1 0 Lq2) 0 (0:Nat)) (Vec.getD 6 y2249.1.1 0 (0:Nat))
 let x2263:=fMul .f32 x2258 x2255
 let x2267:=fSub .f32 (Vec.getD 6 (Vec.getD 6 a0.2.1 0 Lq2) 0 (0:Nat)) (fMul .f32 x2263 (Vec.getD 6 y2249.1.1 0 (0:Nat)))
 let x2271:=fSub .f32 (Vec.getD 6 (Vec.getD 6 a0.2.1 0 Lq2) 1 (0:Nat)) (fMul .f32 x2263 (Vec.getD 6 y2249.1.1 1 (0:Nat)))
 let x2275:=fSub .f32 (Vec.getD 6 (Vec.getD 6 a0.2.1 0 Lq2) 2 (0:Nat)) (fMul .f32 x2263 (Vec.getD 6 y2249.1.1 2 (0:Nat)))
 let x2279:=fSub .f32 (Vec.getD 6 (Vec.getD 6 a0.2.1 0 Lq2) 3 (0:Nat)) (fMul .f32 x2263 (Vec.getD 6 y2249.1.1 3 (0:Nat)))
 let x2283:=fSub .f32 (Vec.getD 6 (Vec.getD 6 a0.2.1 0 Lq2) 4 (0:Nat)) (fMul .f32 x2263 (Vec.getD 6 y2249.1.1 4 (0:Nat)))
 let x2287:=fSub .f32 (Vec.getD 6 (Vec.getD 6 a0.2.1 0 Lq2) 5 (0:Nat)) (fMul .f32 x2263 (Vec.getD 6 y2249.1.1 5 (0:Nat)))
 let x2294:=fAdd .f32 (fMul .f32 (Vec.getD 6 (Vec.getD 6 a0.2.1 1 Lq2) 0 (0:Nat)) (Vec.getD 6 y2249.1.1 0 (0:Nat))) (fMul .f32 (Vec.getD 6 (Vec.getD 6 a0.2.1 1 Lq2) 1 (0:Nat)) (Vec.getD 6 y2249.1.1 1 (0:Nat)))
 let x2299:=fMul .f32 x2294 x2255
 let x2303:=fSub .f32 (Vec.getD 6 (Vec.getD 6 a0.2.1 1 Lq2) 0 (0:Nat)) (fMul .f32 x2299 (Vec.getD 6 y2249.1.1 0 (0:Nat)))
 let x2307:=fSub .f32 (Vec.getD 6 (Vec.getD 6 a0.2.1 1 Lq2) 1 (0:Nat)) (fMul .f32 x2299 (Vec.getD 6 y2249.1.1 1 (0:Nat)))
 let x2311:=fSub .f32 (Vec.getD 6 (Vec.getD 6 a0.2.1 1 Lq2) 2 (0:Nat)) (fMul .f32 x2299 (Vec.getD 6 y2249.1.1 2 (0:Nat)))
 let x2315:=fSub .f32 (Vec.getD 6 (Vec.getD 6 a0.2.1 1 Lq2) 3 (0:Nat)) (fMul .f32 x2299 (Vec.getD 6 y2249.1.1 3 (0:Nat)))
 let x2319:=fSub .f32 (Vec.getD 6 (Vec.getD 6 a0.2.1 1 Lq2) 4 (0:Nat)) (fMul .f32 x2299 (Vec.getD 6 y2249.1.1 4 (0:Nat)))
 let x2323:=fSub .f32 (Vec.getD 6 (Vec.getD 6 a0.2.1 1 Lq2) 5 (0:Nat)) (fMul .f32 x2299 (Vec.getD 6 y2249.1.1 5 (0:Nat)))
 let x2334:=fAdd .f32 (fAdd .f32 (fMul .f32 (Vec.getD 6 (Vec.getD 6 a0.2.1 2 Lq2) 0 (0:Nat)) (Vec.getD 6 y2249.1.1 0 (0:Nat))) (fMul .f32 (Vec.getD 6 (Vec.getD 6 a0.2.1 2 Lq2) 1 (0:Nat)) (Vec.getD 6 y2249.1.1 1 (0:Nat)))) (fMul .f32 (Vec.getD 6 (Vec.getD 6 a0.2.1 2 Lq2) 2 (0:Nat)) (Vec.getD 6 y2249.1.1 2 (0:Nat)))
 let x2339:=fMul .f32 x2334 x2255
 let x2343:=fSub .f32 (Vec.getD 6 (Vec.getD 6 a0.2.1 2 Lq2) 0 (0:Nat)) (fMul .f32 x2339 (Vec.getD 6 y2249.1.1 0 (0:Nat)))
 let x2347:=fSub .f32 (Vec.getD 6 (Vec.getD 6 a0.2.1 2 Lq2) 1 (0:Nat)) (fMul .f32 x2339 (Vec.getD 6 y2249.1.1 1 (0:Nat)))
 let x2351:=fSub .f32 (Vec.getD 6 (Vec.getD 6 a0.2.1 2 Lq2) 2 (0:Nat)) (fMul .f32 x2339 (Vec.getD 6 y2249.1.1 2 (0:Nat)))
 let x2355:=fSub .f32 (Vec.getD 6 (Vec.getD 6 a0.2.1 2 Lq2) 3 (0:Nat)) (fMul .f32 x2339 (Vec.getD 6 y2249.1.1 3 (0:Nat)))
 let x2359:=fSub .f32 (Vec.getD 6 (Vec.getD 6 a0.2.1 2 Lq2) 4 (0:Nat)) (fMul .f32 x2339 (Vec.getD 6 y2249.1.1 4 (0:Nat)))
 let x2363:=fSub .f32 (Vec.getD 6 (Vec.getD 6 a0.2.1 2 Lq2) 5 (0:Nat)) (fMul .f32 x2339 (Vec.getD 6 y2249.1.1 5 (0:Nat)))
 let x2378:=fAdd .f32 (fAdd .f32 (fAdd .f32 (fMul .f32 (Vec.getD 6 (Vec.getD 6 a0.2.1 3 Lq2) 0 (0:Nat)) (Vec.getD 6 y2249.1.1 0 (0:Nat))) (fMul .f32 (Vec.getD 6 (Vec.getD 6 a0.2.1 3 Lq2) 1 (0:Nat)) (Vec.getD 6 y2249.1.1 1 (0:Nat)))) (fMul .f32 (Vec.getD 6 (Vec.getD 6 a0.2.1 3 Lq2) 2 (0:Nat)) (Vec.getD 6 y2249.1.1 2 (0:Nat)))) (fMul .f32 (Vec.getD 6 (Vec.getD 6 a0.2.1 3 Lq2) 3 (0:Nat)) (Vec.getD 6 y2249.1.1 3 (0:Nat)))
 let x2383:=fMul .f32 x2378 x2255
 let x2387:=fSub .f32 (Vec.getD 6 (Vec.getD 6 a0.2.1 3 Lq2) 0 (0:Nat)) (fMul .f32 x2383 (Vec.getD 6 y2249.1.1 0 (0:Nat)))
 let x2391:=fSub .f32 (Vec.getD 6 (Vec.getD 6 a0.2.1 3 Lq2) 1 (0:Nat)) (fMul .f32 x2383 (Vec.getD 6 y2249.1.1 1 (0:Nat)))
 let x2395:=fSub .f32 (Vec.getD 6 (Vec.getD 6 a0.2.1 3 Lq2) 2 (0:Nat)) (fMul .f32 x2383 (Vec.getD 6 y2249.1.1 2 (0:Nat)))
 let x2399:=fSub .f32 (Vec.getD 6 (Vec.getD 6 a0.2.1 3 Lq2) 3 (0:Nat)) (fMul .f32 x2383 (Vec.getD 6 y2249.1.1 3 (0:Nat)))
 let x2403:=fSub .f32 (Vec.getD 6 (Vec.getD 6 a0.2.1 3 Lq2) 4 (0:Nat)) (fMul .f32 x2383 (Vec.getD 6 y2249.1.1 4 (0:Nat)))
 let x2407:=fSub .f32 (Vec.getD 6 (Vec.getD 6 a0.2.1 3 Lq2) 5 (0:Nat)) (fMul .f32 x2383 (Vec.getD 6 y2249.1.1 5 (0:Nat)))
 let x2426:=fAdd .f32 (fAdd .f32 (fAdd .f32 (fAdd .f32 (fMul .f32 (Vec.getD 6 (Vec.getD 6 a0.2.1 4 Lq2) 0 (0:Nat)) (Vec.getD 6 y2249.1.1 0 (0:Nat))) (fMul .f32 (Vec.getD 6 (Vec.getD 6 a0.2.1 4 Lq2) 1 (0:Nat)) (Vec.getD 6 y2249.1.1 1 (0:Nat)))) (fMul .f32 (Vec.getD 6 (Vec.getD 6 a0.2.1 4 Lq2) 2 (0:Nat)) (Vec.getD 6 y2249.1.1 2 (0:Nat)))) (fMul .f32 (Vec.getD 6 (Vec.getD 6 a0.2.1 4 Lq2) 3 (0:Nat)) (Vec.getD 6 y2249.1.1 3 (0:Nat)))) (fMul .f32 (Vec.getD 6 (Vec.getD 6 a0.2.1 4 Lq2) 4 (0:Nat)) (Vec.getD 6 y2249.1.1 4 (0:Nat)))
 let x2431:=fMul .f32 x2426 x2255
 let x2435:=fSub .f32 (Vec.getD 6 (Vec.getD 6 a0.2.1 4 Lq2) 0 (0:Nat)) (fMul .f32 x2431 (Vec.getD 6 y2249.1.1 0 (0:Nat)))
 let x2439:=fSub .f32 (Vec.getD 6 (Vec.getD 6 a0.2.1 4 Lq2) 1 (0:Nat)) (fMul .f32 x2431 (Vec.getD 6 y2249.1.1 1 (0:Nat)))
 let x2443:=fSub .f32 (Vec.getD 6 (Vec.getD 6 a0.2.1 4 Lq2) 2 (0:Nat)) (fMul .f32 x2431 (Vec.getD 6 y2249.1.1 2 (0:Nat)))
 let x2447:=fSub .f32 (Vec.getD 6 (Vec.getD 6 a0.2.1 4 Lq2) 3 (0:Nat)) (fMul .f32 x2431 (Vec.getD 6 y2249.1.1 3 (0:Nat)))
 let x2451:=fSub .f32 (Vec.getD 6 (Vec.getD 6 a0.2.1 4 Lq2) 4 (0:Nat)) (fMul .f32 x2431 (Vec.getD 6 y2249.1.1 4 (0:Nat)))
 let x2455:=fSub .f32 (Vec.getD 6 (Vec.getD 6 a0.2.1 4 Lq2) 5 (0:Nat)) (fMul .f32 x2431 (Vec.getD 6 y2249.1.1 5 (0:Nat)))
 let x2478:=fAdd .f32 (fAdd .f32 (fAdd .f32 (fAdd .f32 (fAdd .f32 (fMul .f32 (Vec.getD 6 (Vec.getD 6 a0.2.1 5 Lq2) 0 (0:Nat)) (Vec.getD 6 y2249.1.1 0 (0:Nat))) (fMul .f32 (Vec.getD 6 (Vec.getD 6 a0.2.1 5 Lq2) 1 (0:Nat)) (Vec.getD 6 y2249.1.1 1 (0:Nat)))) (fMul .f32 (Vec.getD 6 (Vec.getD 6 a0.2.1 5 Lq2) 2 (0:Nat)) (Vec.getD 6 y2249.1.1 2 (0:Nat)))) (fMul .f32 (Vec.getD 6 (Vec.getD 6 a0.2.1 5 Lq2) 3 (0:Nat)) (Vec.getD 6 y2249.1.1 3 (0:Nat)))) (fMul .f32 (Vec.getD 6 (Vec.getD 6 a0.2.1 5 Lq2) 4 (0:Nat)) (Vec.getD 6 y2249.1.1 4 (0:Nat)))) (fMul .f32 (Vec.getD 6 (Vec.getD 6 a0.2.1 5 Lq2) 5 (0:Nat)) (Vec.getD 6 y2249.1.1 5 (0:Nat)))
 let x2483:=fMul .f32 x2478 x2255
 let x2487:=fSub .f32 (Vec.getD 6 (Vec.getD 6 a0.2.1 5 Lq2) 0 (0:Nat)) (fMul .f32 x2483 (Vec.getD 6 y2249.1.1 0 (0:Nat)))
 let x2491:=fSub .f32 (Vec.getD 6 (Vec.getD 6 a0.2.1 5 Lq2) 1 (0:Nat)) (fMul .f32 x2483 (Vec.getD 6 y2249.1.1 1 (0:Nat)))
 let x2495:=fSub .f32 (Vec.getD 6 (Vec.getD 6 a0.2.1 5 Lq2) 2 (0:Nat)) (fMul .f32 x2483 (Vec.getD 6 y2249.1.1 2 (0:Nat)))
 let x2499:=fSub .f32 (Vec.getD 6 (Vec.getD 6 a0.2.1 5 Lq2) 3 (0:Nat)) (fMul .f32 x2483 (Vec.getD 6 y2249.1.1 3 (0:Nat)))
 let x2503:=fSub .f32 (Vec.getD 6 (Vec.getD 6 a0.2.1 5 Lq2) 4 (0:Nat)) (fMul .f32 x2483 (Vec.getD 6 y2249.1.1 4 (0:Nat)))
 let x2507:=fSub .f32 (Vec.getD 6 (Vec.getD 6 a0.2.1 5 Lq2) 5 (0:Nat)) (fMul .f32 x2483 (Vec.getD 6 y2249.1.1 5 (0:Nat)))
 (qaa x2267).bind fun y2508 =>
 bif (! y2508.1.1) then
  some ((Lq1,(4:Int),()),())
 else
 (qaa x2271).bind fun y2510 =>
 bif (! y2510.1.1) then
  some ((Lq1,(4:Int),()),())
 else
 (qaa x2275).bind fun y2512 =>
 bif (! y2512.1.1) then
  some ((Lq1,(4:Int),()),())
 else
 (qaa x2279).bind fun y2514 =>
 bif (! y2514.1.1) then
  some ((Lq1,(4:Int),()),())
 else
 (qaa x2283).bind fun y2516 =>
 bif (! y2516.1.1) then
  some ((Lq1,(4:Int),()),())
 else
 (qaa x2287).bind fun y2518 =>
 bif (! y2518.1.1) then
  some ((Lq1,(4:Int),()),())
 else
 (qaa x2303).bind fun y2520 =>
 bif (! y2520.1.1) then
  some ((Lq1,(4:Int),()),())
 else
 (qaa x2307).bind fun y2522 =>
 bif (! y2522.1.1) then
  some ((Lq1,(4:Int),()),())
 else
 (qaa x2311).bind fun y2524 =>
 bif (! y2524.1.1) then
  some ((Lq1,(4:Int),()),())
 else
 (qaa x2315).bind fun y2526 =>
 bif (! y2526.1.1) then
  some ((Lq1,(4:Int),()),())
 else
 (qaa x2319).bind fun y2528 =>
 bif (! y2528.1.1) then
  some ((Lq1,(4:Int),()),())
 else
 (qaa x2323).bind fun y2530 =>
 bif (! y2530.1.1) then
  some ((Lq1,(4:Int),()),())
 else
 (qaa x2343).bind fun y2532 =>
 bif (! y2532.1.1) then
  some ((Lq1,(4:Int),()),())
 else
 (qaa x2347).bind fun y2534 =>
 bif (! y2534.1.1) then
  some ((Lq1,(4:Int),()),())
 else
 (qaa x2351).bind fun y2536 =>
 bif (! y2536.1.1) then
  some ((Lq1,(4:Int),()),())
 else
 (qaa x2355).bind fun y2538 =>
 bif (! y2538.1.1) then
  some ((Lq1,(4:Int),()),())
 else
 (qaa x2359).bind fun y2540 =>
 bif (! y2540.1.1) then
  some ((Lq1,(4:Int),()),())
 else
 (qaa x2363).bind fun y2542 =>
 bif (! y2542.1.1) then
  some ((Lq1,(4:Int),()),())
 else
 (qaa x2387).bind fun y2544 =>
 bif (! y2544.1.1) then
  some ((Lq1,(4:Int),()),())
 else
 (qaa x2391).bind fun y2546 =>
 bif (! y2546.1.1) then
  some ((Lq1,(4:Int),()),())
 else
 (qaa x2395).bind fun y2548 =>
 bif (! y2548.1.1) then
  some ((Lq1,(4:Int),()),())
 else
 (qaa x2399).bind fun y2550 =>
 bif (! y2550.1.1) then
  some ((Lq1,(4:Int),()),())
 else
 (qaa x2403).bind fun y2552 =>
 bif (! y2552.1.1) then
  some ((Lq1,(4:Int),()),())
 else
 (qaa x2407).bind fun y2554 =>
 bif (! y2554.1.1) then
  some ((Lq1,(4:Int),()),())
 else
 (qaa x2435).bind fun y2556 =>
 bif (! y2556.1.1) then
  some ((Lq1,(4:Int),()),())
 else
 (qaa x2439).bind fun y2558 =>
 bif (! y2558.1.1) then
  some ((Lq1,(4:Int),()),())
 else
 (qaa x2443).bind fun y2560 =>
 bif (! y2560.1.1) then
  some ((Lq1,(4:Int),()),())
 else
 (qaa x2447).bind fun y2562 =>
 bif (! y2562.1.1) then
  some ((Lq1,(4:Int),()),())
 else
 (qaa x2451).bind fun y2564 =>
 bif (! y2564.1.1) then
  some ((Lq1,(4:Int),()),())
 else
 (qaa x2455).bind fun y2566 =>
 bif (! y2566.1.1) then
  some ((Lq1,(4:Int),()),())
 else
 (qaa x2487).bind fun y2568 =>
 bif (! y2568.1.1) then
  some ((Lq1,(4:Int),()),())
 else
 (qaa x2491).bind fun y2570 =>
 bif (! y2570.1.1) then
  some ((Lq1,(4:Int),()),())
 else
 (qaa x2495).bind fun y2572 =>
 bif (! y2572.1.1) then
  some ((Lq1,(4:Int),()),())
 else
 (qaa x2499).bind fun y2574 =>
 bif (! y2574.1.1) then
  some ((Lq1,(4:Int),()),())
 else
 (qaa x2503).bind fun y2576 =>
 bif (! y2576.1.1) then
  some ((Lq1,(4:Int),()),())
 else
 (qaa x2507).bind fun y2578 =>
 bif (! y2578.1.1) then
  some ((Lq1,(4:Int),()),())
 else
 (qdx (((x2267,x2271,x2275,x2279,x2283,x2287,0,0,0,()),(x2303,x2307,x2311,x2315,x2319,x2323,0,0,0,()),(x2343,x2347,x2351,x2355,x2359,x2363,0,0,0,()),(x2387,x2391,x2395,x2399,x2403,x2407,0,0,0,()),(x2435,x2439,x2443,x2447,x2451,x2455,0,0,0,()),(x2487,x2491,x2495,x2499,x2503,x2507,0,0,0,()),()):(Vec 6 (Vec 9 Nat)))).bind fun y2580 =>
 (qdq ((Vec.set 6 (Vec.set 6 (Vec.set 6 (Vec.set 6 (Vec.set 6 (Vec.set 6 a0.1 0 (fAdd .f32 (Vec.getD 6 a0.1 0 (0:Nat)) (fMul .f32 x2258 (fDiv .f32 y2249.1.2.1 y2249.1.2.2.1)))) 1 (fAdd .f32 (Vec.getD 6 a0.1 1 (0:Nat)) (fMul .f32 x2294 (fDiv .f32 y2249.1.2.1 y2249.1.2.2.1)))) 2 (fAdd .f32 (Vec.getD 6 a0.1 2 (0:Nat)) (fMul .f32 x2334 (fDiv .f32 y2249.1.2.1 y2249.1.2.2.1)))) 3 (fAdd .f32 (Vec.getD 6 a0.1 3 (0:Nat)) (fMul .f32 x2378 (fDiv .f32 y2249.1.2.1 y2249.1.2.2.1)))) 4 (fAdd .f32 (Vec.getD 6 a0.1 4 (0:Nat)) (fMul .f32 x2426 (fDiv .f32 y2249.1.2.1 y2249.1.2.2.1)))) 5 (fAdd .f32 (Vec.getD 6 a0.1 5 (0:Nat)) (fMul .f32 x2478 (fDiv .f32 y2249.1.2.1 y2249.1.2.2.1))),y2580.1.1,a0.2.2):Dq2) y2580.1.2.1).bind fun y2581 =>
 some ((y2581.1.1,y2581.1.2.1,()),())
def qkg:Entry:=⟨⟨[.ro Uq2,.ro Uq3],[.v (.val Uq2),.v (.val (.int .i64))],false⟩,fun x=>qfr x.1 x.2.1⟩
theorem qp2:Sound Tryz.prog G 218 qkg:=qab (envS (l:=[(89,qbj),(138,qeu),(214,qlm),(215,qms),(252,qkf)]) ⟨(qbp),(qgk),(qri),(qsp),(qp1),trivial⟩) [(7,.unroll 7),(11,.unroll 6),(17,.unroll 7),(21,.unroll 7),(24,.unroll 7)] Tryz.func218 (by kernel_rfl) rfl fun _=>by kernel_rfl
def qav (a1:(List Dq5)) (s2244:(Int×Dq2×Unit)):Option ((Int×Dq2×Unit)⊕Dq14) :=
 bif (iLt s2244.1 (lenI a1)) then
  bif inB s2244.1 (List.length a1) then
   (qfr s2244.2.1 (List.getD a1 s2244.1.toNat Lq7)).bind fun y2246 =>
   bif (! (iEq y2246.1.2.1 0)) then
    Option.map Sum.inr (some ((Lq1,y2246.1.2.1,()),()))
   else
   some (Sum.inl ((iAdd .i64 s2244.1 1),y2246.1.1,()))
  else none
 else
 Option.map Sum.inr (some ((s2244.2.1,(0:Int),()),()))
def qcx (a1:(List Dq5)) (a0:Dq2) (s2233:(Int×Unit)):Option ((Int×Unit)⊕Dq14) :=
 bif (iLt s2233.1 (lenI a1)) then
  bif inB s2233.1 (List.length a1) then
   (qhk (List.getD a1 s2233.1.toNat Lq7)).bind fun y2235 =>
   bif (! y2235.1.1) then
    Option.map Sum.inr (some ((Lq1,(1:Int),()),()))
   else
   some (Sum.inl ((iAdd .i64 s2233.1 1),()))
  else none
 else
 Option.map Sum.inr (
  bif (iLt 256 (lenI a1)) then
   some ((Lq1,(3:Int),()),())
  else run (qav a1) ((0:Int),a0,()))
def qfo (a0:Dq2) (a1:(List Dq5)):Option Dq14 :=
 (qgp a0).bind fun y2231 =>
 bif (! y2231.1.1) then
  some ((Lq1,(1:Int),()),())
 else run (qcx a1 a0) ((0:Int),())
def qp0:Entry:=⟨⟨[.v Uq2,.v (.list Uq3)],[.v (.val Uq2),.v (.val (.int .i64))],false⟩,fun x=>qfo x.1 x.2.1⟩
theorem qyh:Sound Tryz.prog G 175 qp0:=qab (envS (l:=[(212,qf7),(217,qjc),(218,qkg)]) ⟨(qij),(qmr),(qp2),trivial⟩) [(4,.vary [(6,.sc (.int .i64))]),(11,.vary [(7,.sc (.int .i64)),(2,.box (.val Uq2))])] Tryz.func175 (by kernel_rfl) rfl fun _=>by kernel_rfl
def qmq (a0:Dq2) (a1:Dq5):Option Dq19 :=
 (qgp a0).bind fun y2684 =>
 bif (! y2684.1.1) then some (((1:Int),()),()) else
 (qhk a1).bind fun y2686 =>
 bif (! y2686.1.1) then some (((1:Int),()),()) else some (((0:Int),()),())
def qsn:Entry:=⟨⟨[.ro Uq2,.ro Uq3],[.v (.val (.int .i64))],false⟩,fun x=>qmq x.1 x.2.1⟩
theorem qabk:Sound Tryz.prog G 222 qsn:=qab (envS (l:=[(212,qf7),(217,qjc)]) ⟨(qij),(qmr),trivial⟩) [] Tryz.func222 (by kernel_rfl) rfl fun _=>by kernel_rfl
def qhl (a0:Dq2) (a1:Dq5):Option ((Nat×Int×Unit)×Unit) :=
 (qhm a0 a1).bind fun y2688 =>
 let x2690:=fDiv .f32 (fMul .f32 y2688.1.2.1 y2688.1.2.1) y2688.1.2.2.1
 (qaa x2690).bind fun y2691 =>
 bif (! y2691.1.1) then some (((0:Nat),(4:Int),()),()) else some ((x2690,(0:Int),()),())
def qso:Entry:=⟨⟨[.ro Uq2,.ro Uq3],[.v (.val (.flt .f32)),.v (.val (.int .i64))],false⟩,fun x=>qhl x.1 x.2.1⟩
theorem qabl:Sound Tryz.prog G 223 qso:=qab (envS (l:=[(89,qbj),(252,qkf)]) ⟨(qbp),(qp1),trivial⟩) [] Tryz.func223 (by kernel_rfl) rfl fun _=>by kernel_rfl
def qbw (a0:Dq2) (a1:Dq5) (a2:Nat):Option Dq25 :=
 (qmq a0 a1).bind fun y2675 =>
 bif (! (iEq y2675.1.1 0)) then
  some ((Lq1,false,y2675.1.1,()),())
 else
 bif (! (fLe .f32 0 a2)) then
  some ((Lq1,false,(2:Int),()),())
 else
 (qhl a0 a1).bind fun y2679 =>
 bif (! (iEq y2679.1.2.1 0)) then
  some ((Lq1,false,y2679.1.2.1,()),())
 else
 bif (fLt .f32 a2 y2679.1.1) then some ((a0,false,(0:Int),()),()) else
 (qfr a0 a1).bind fun y2682 =>
 some ((y2682.1.1,(iEq y2682.1.2.1 0),y2682.1.2.1,()),())
def qi2:Entry:=⟨⟨[.v Uq2,.v Uq3,.v (.flt .f32)],[.v (.val Uq2),.v (.val (.bool)),.v (.val (.int .i64))],false⟩,fun x=>qbw x.1 x.2.1 x.2.2.1⟩
theorem qm8:Sound Tryz.prog G 178 qi2:=qab (envS (l:=[(218,qkg),(222,qsn),(223,qso)]) ⟨(qp2),(qabk),(qabl),trivial⟩) [] Tryz.func178 (by kernel_rfl) rfl fun _=>by kernel_rfl
def qkw (a0:Dq24) (a1:(Vec 3 Int)):Option (Dq18×Unit) :=
 some (((((fAdd .f32 (fMul .f32 (fOfInt .f32 (Vec.getD 3 a1 0 (0:Int))) (Vec.getD 3 a0.1 0 (0:Nat))) (Vec.getD 3 a0.2.1 0 (0:Nat))),(fAdd .f32 (fMul .f32 (fOfInt .f32 (Vec.getD 3 a1 1 (0:Int))) (Vec.getD 3 a0.1 1 (0:Nat))) (Vec.getD 3 a0.2.1 1 (0:Nat))),(fAdd .f32 (fMul .f32 (fOfInt .f32 (Vec.getD 3 a1 2 (0:Int))) (Vec.getD 3 a0.1 2 (0:Nat))) (Vec.getD 3 a0.2.1 2 (0:Nat))),()):(Vec 3 Nat)),()),())
def quc:Entry:=⟨⟨[.ro Uq6,.v (.arr 3 (.int .i16))],[.v (.val (.arr 3 (.flt .f32)))],false⟩,fun x=>qkw x.1 x.2.1⟩
theorem qacg:Sound Tryz.prog G 219 quc:=qab (envS (l:=[]) trivial) [(3,.unroll 4)] Tryz.func219 (by kernel_rfl) rfl fun _=>by kernel_rfl
def qfs:Option ((Dq24×Unit)×Unit) :=
 some (((((1031798784,1031798784,1031798784,()),(0,0,0,()),1,0,()):Dq24),()),())
def qkh:Entry:=⟨⟨[],[.v (.val Uq6)],false⟩,fun _=>qfs⟩
theorem qp6:Sound Tryz.prog G 120 qkh:=qab (envS (l:=[]) trivial) [] Tryz.func120 (by kernel_rfl) rfl fun _=>by kernel_rfl
def qiw (a0:Dq2) (a1:(Vec 3 Int)):Option Dq25 :=
 (qfs).bind fun y2693 =>
 (qkw y2693.1.1 a1).bind fun y2694 =>
 (qax (0:Int) (Vec.getD 3 y2694.1.1 0 (0:Nat)) (1056964608:Nat)).bind fun y2696 =>
 bif (! (iEq y2696.1.2.1 0)) then
  some ((Lq1,false,(4:Int),()),())
 else
 (qbw a0 y2696.1.1 (1091567616:Nat)).bind fun y2698 =>
 bif (! (iEq y2698.1.2.2.1 0)) then
  some ((Lq1,false,y2698.1.2.2.1,()),())
 else
 (qax (1:Int) (Vec.getD 3 y2694.1.1 1 (0:Nat)) (1056964608:Nat)).bind fun y2701 =>
 bif (! (iEq y2701.1.2.1 0)) then
  some ((Lq1,false,(4:Int),()),())
 else
 (qbw y2698.1.1 y2701.1.1 (1091567616:Nat)).bind fun y2703 =>
 bif (! (iEq y2703.1.2.2.1 0)) then
  some ((Lq1,false,y2703.1.2.2.1,()),())
 else
 bif y2698.1.2.1 then
  (qax (2:Int) (Vec.getD 3 y2694.1.1 2 (0:Nat)) (1056964608:Nat)).bind fun y2706 =>
  bif (! (iEq y2706.1.2.1 0)) then
   some ((Lq1,false,(4:Int),()),())
  else
  (qbw y2703.1.1 y2706.1.1 (1091567616:Nat)).bind fun y2708 =>
  bif (! (iEq y2708.1.2.2.1 0)) then
   some ((Lq1,false,y2708.1.2.2.1,()),())
  else
  bif y2703.1.2.1 then some ((y2708.1.1,y2708.1.2.1,(0:Int),()),()) else some ((y2708.1.1,false,(0:Int),()),())
 else
 (qax (2:Int) (Vec.getD 3 y2694.1.1 2 (0:Nat)) (1056964608:Nat)).bind fun y2711 =>
 bif (! (iEq y2711.1.2.1 0)) then
  some ((Lq1,false,(4:Int),()),())
 else
 (qbw y2703.1.1 y2711.1.1 (1091567616:Nat)).bind fun y2713 =>
 bif (! (iEq y2713.1.2.2.1 0)) then
  some ((Lq1,false,y2713.1.2.2.1,()),())
 else some ((y2713.1.1,false,(0:Int),()),())
def qud:Entry:=⟨⟨[.v Uq2,.v (.arr 3 (.int .i16))],[.v (.val Uq2),.v (.val (.bool)),.v (.val (.int .i64))],false⟩,fun x=>qiw x.1 x.2.1⟩
theorem qach:Sound Tryz.prog G 176 qud:=qab (envS (l:=[(120,qkh),(174,qnq),(178,qi2),(219,quc)]) ⟨(qp6),(qt1),(qm8),(qacg),trivial⟩) [(5,.unroll 4)] Tryz.func176 (by kernel_rfl) rfl fun _=>by kernel_rfl
def qdr (a0:Dq1) (a1:Dq2) (a2:Dq3):Option Dq25 :=
 bif (iEq a2.1 1) then
  (qhh a1 (fDiv .f32 1065353216 (fOfInt .f32 a0.1)) ((1048576000,1048576000,1048576000,()):(Vec 3 Nat))).bind fun y1710 =>
  some ((y1710.1.1,(iEq y1710.1.2.1 0),y1710.1.2.1,()),())
 else
 bif (iEq a2.1 2) then
  (qax (3:Int) (Vec.getD 3 a2.2.1 0 (0:Nat)) (1040187392:Nat)).bind fun y1714 =>
  (qax (4:Int) (Vec.getD 3 a2.2.1 1 (0:Nat)) (1040187392:Nat)).bind fun y1716 =>
  (qax (5:Int) (Vec.getD 3 a2.2.1 2 (0:Nat)) (1040187392:Nat)).bind fun y1718 =>
  (qfo a1 ([y1714.1.1,y1716.1.1,y1718.1.1]:(List Dq5))).bind fun y1719 =>
  some ((y1719.1.1,(iEq y1719.1.2.1 0),y1719.1.2.1,()),())
 else
 bif (iEq a2.1 3) then
  (qiw a1 a2.2.2.1).bind fun y1722 =>
  some ((y1722.1.1,y1722.1.2.1,y1722.1.2.2.1,()),())
 else
 bif inB a2.2.2.2.1 (List.length a0.2.2.1) then
  (qfm a1 (List.getD a0.2.2.1 a2.2.2.2.1.toNat Lq6) a2.2.2.2.2.1 (1056964608:Nat)).bind fun y1724 =>
  bif (! (iEq y1724.1.2.1 0)) then some ((a1,false,(0:Int),()),()) else
  (qbw a1 y1724.1.1 (1091567616:Nat)).bind fun y1726 =>
  some ((y1726.1.1,y1726.1.2.1,y1726.1.2.2.1,()),())
 else none
def qsr:Entry:=⟨⟨[.ro Uq4,.v Uq2,.ro Uq1],[.v (.val Uq2),.v (.val (.bool)),.v (.val (.int .i64))],false⟩,fun x=>qdr x.1 x.2.1 x.2.2.1⟩
theorem qabn:Sound Tryz.prog G 135 qsr:=qab (envS (l:=[(173,qsl),(174,qnq),(175,qp0),(176,qud),(177,qpx),(178,qi2)]) ⟨(qabh),(qt1),(qyh),(qach),(qye),(qm8),trivial⟩) [(8,.unroll 4)] Tryz.func135 (by kernel_rfl) rfl fun _=>by kernel_rfl
def qcc (a3:Int) (a0:Dq1) (s1699:((List Int)×Int×Dq2×Unit)):Option (((List Int)×Int×Dq2×Unit)⊕Dq27) :=
 bif (iLt s1699.2.1 a3) then
  bif inB s1699.2.1 (List.length a0.2.2.2.1) then
   (qdr a0 s1699.2.2.1 (List.getD a0.2.2.2.1 s1699.2.1.toNat Lq10)).bind fun y1701 =>
   bif (! (iEq y1701.1.2.2.1 0)) then
    Option.map Sum.inr (some ((Lq1,([]:(List Int)),y1701.1.2.2.1,()),()))
   else
   bif (! y1701.1.2.1) then
    bif room (List.length s1699.1+1) 8 then
     some (Sum.inl ((s1699.1++([s1699.2.1]:(List Int))),(iAdd .i64 s1699.2.1 1),y1701.1.1,()))
    else none
   else
   some (Sum.inl (s1699.1,(iAdd .i64 s1699.2.1 1),y1701.1.1,()))
  else none
 else
 Option.map Sum.inr (some ((s1699.2.2.1,s1699.1,(0:Int),()),()))
def qj9 (a0:Dq1) (a1:Dq2) (a2:Int) (a3:Int):Option Dq27 :=
 run (qcc a3 a0) (([]:(List Int)),a2,a1,())
def qp5:Entry:=⟨⟨[.ro Uq4,.v Uq2,.v (.int .i64),.v (.int .i64)],[.v (.val Uq2),.v (.rows (.int .i64)),.v (.val (.int .i64))],false⟩,fun x=>qj9 x.1 x.2.1 x.2.2.1 x.2.2.2.1⟩
theorem qyl:Sound Tryz.prog G 77 qp5:=qab (envS (l:=[(135,qsr)]) ⟨(qabn),trivial⟩) [(3,.vary [(11,.rows (.int .i64)),(12,.sc (.int .i64)),(5,.box (.val Uq2))])] Tryz.func77 (by kernel_rfl) rfl fun _=>by kernel_rfl
def qfn (a0:Dq1):Option Dq14 :=
 (qoa a0).bind fun y1584 =>
 bif (! y1584.1.1) then
  some ((Lq1,(1:Int),()),())
 else
 (qpi a0).bind fun y1586 =>
 (qj9 a0 y1586.1.1 (0:Int) (lenI a0.2.2.2.1)).bind fun y1587 =>
 some ((y1587.1.1,y1587.1.2.2.1,()),())
def qpy:Entry:=⟨⟨[.v Uq4],[.v (.val Uq2),.v (.val (.int .i64))],false⟩,fun x=>qfn x.1⟩
theorem qyf:Sound Tryz.prog G 34 qpy:=qab (envS (l:=[(76,que),(77,qp5),(78,qro)]) ⟨(qacj),(qyl),(qzp),trivial⟩) [] Tryz.func34 (by kernel_rfl) rfl fun _=>by kernel_rfl
def qk6 (a0:Dq6) (s2739:(Int×Int×Unit)):Option ((Int×Int×Unit)⊕Dq7) :=
 bif (iLt s2739.2.1 (lenI a0.2.2.2.1)) then
  bif inB s2739.2.1 (List.length a0.2.2.2.1) then
   (qcg ((List.getD a0.2.2.2.1 s2739.2.1.toNat Lq8).1) (1:Int) (400:Int)).bind fun y2742 =>
   bif (! y2742.1.1) then
    Option.map Sum.inr (some ((false,()),()))
   else
   (qcn (((List.getD a0.2.2.2.1 s2739.2.1.toNat Lq8).2).1)).bind fun y2745 =>
   bif (! y2745.1.1) then
    Option.map Sum.inr (some ((false,()),()))
   else
   (qcg ((((List.getD a0.2.2.2.1 s2739.2.1.toNat Lq8).2).2).1) (0:Int) (400:Int)).bind fun y2748 =>
   bif (! y2748.1.1) then
    Option.map Sum.inr (some ((false,()),()))
   else
   (qcg (((((List.getD a0.2.2.2.1 s2739.2.1.toNat Lq8).2).2).2).1) ((-1:Int):Int) (iSub .i64 (lenI a0.2.2.1) 1)).bind fun y2752 =>
   bif (! y2752.1.1) then
    Option.map Sum.inr (some ((false,()),()))
   else
   some (Sum.inl ((iAdd .i64 s2739.1 ((List.getD a0.2.2.2.1 s2739.2.1.toNat Lq8).1)),(iAdd .i64 s2739.2.1 1),()))
  else none
 else
 Option.map Sum.inr (some (((iLe s2739.1 400),()),()))
def qqi (a0:Dq6):Option Dq7 :=
 (qil a0.1 a0.2.1 a0.2.2.1).bind fun y2736 =>
 bif (! y2736.1.1) then some ((false,()),()) else
 bif (iLt 64 (lenI a0.2.2.2.1)) then some ((false,()),()) else run (qk6 a0) ((0:Int),(0:Int),())
def qvp:Entry:=⟨⟨[.ro Uq5],[.v (.val (.bool))],false⟩,fun x=>qqi x.1⟩
theorem qad1:Sound Tryz.prog G 49 qvp:=qab (envS (l:=[(116,qlp),(117,qf6),(118,qfp)]) ⟨(qrr),(qii),(qhj),trivial⟩) [(5,.vary [(3,.sc (.int .i64)),(4,.sc (.int .i64))])] Tryz.func49 (by kernel_rfl) rfl fun _=>by kernel_rfl
def qf8 (a0:Nat):Option Dq19 :=
 (fConv .f32 .f64 a0).bind fun y2865 =>
 (qh0 y2865).bind fun y2866 =>
 bif (! (fEq .f64 y2866.1.1 y2866.1.1)) then some (((0:Int),()),()) else
 bif (fLt .f64 4674736138332667904 y2866.1.1) then some (((32767:Int),()),()) else
 bif (fLt .f64 y2866.1.1 13898108450065350656) then some ((Lq12,()),()) else
 (fToInt .f64 y2866.1.1 .i16).bind fun n2870 =>
 some ((n2870,()),())
def qrm:Entry:=⟨⟨[.v (.flt .f32)],[.v (.val (.int .i16))],false⟩,fun x=>qf8 x.1⟩
theorem qzm:Sound Tryz.prog G 188 qrm:=qab (envS (l:=[(152,qi1)]) ⟨(qm6),trivial⟩) [] Tryz.func188 (by kernel_rfl) rfl fun _=>by kernel_rfl
def qnv (a0:Dq24) (a1:(Vec 3 Nat)):Option (((Vec 3 Int)×Unit)×Unit) :=
 (qf8 (fDiv .f32 (fSub .f32 (Vec.getD 3 a1 0 (0:Nat)) (Vec.getD 3 a0.2.1 0 (0:Nat))) (Vec.getD 3 a0.1 0 (0:Nat)))).bind fun y2852 =>
 (qf8 (fDiv .f32 (fSub .f32 (Vec.getD 3 a1 1 (0:Nat)) (Vec.getD 3 a0.2.1 1 (0:Nat))) (Vec.getD 3 a0.1 1 (0:Nat)))).bind fun y2858 =>
 (qf8 (fDiv .f32 (fSub .f32 (Vec.getD 3 a1 2 (0:Nat)) (Vec.getD 3 a0.2.1 2 (0:Nat))) (Vec.getD 3 a0.1 2 (0:Nat)))).bind fun y2864 =>
 some ((((y2852.1.1,y2858.1.1,y2864.1.1,()):(Vec 3 Int)),()),())
def qp3:Entry:=⟨⟨[.ro Uq6,.v (.arr 3 (.flt .f32))],[.v (.val (.arr 3 (.int .i16)))],false⟩,fun x=>qnv x.1 x.2.1⟩
theorem qyj:Sound Tryz.prog G 156 qp3:=qab (envS (l:=[(188,qrm)]) ⟨(qzm),trivial⟩) [(3,.unroll 4)] Tryz.func156 (by kernel_rfl) rfl fun _=>by kernel_rfl
def qnw (a0:Dq24):Option Dq7 :=
 bif (fEq .f32 (Vec.getD 3 a0.1 0 (0:Nat)) 0) then some ((false,()),()) else
 bif (fEq .f32 (Vec.getD 3 a0.1 1 (0:Nat)) 0) then some ((false,()),()) else
 bif (fEq .f32 (Vec.getD 3 a0.1 2 (0:Nat)) 0) then some ((false,()),()) else
 (qcn a0.1).bind fun y2877 =>
 bif y2877.1.1 then
  (qcn a0.2.1).bind fun y2878 =>
  bif y2878.1.1 then
   (qcg a0.2.2.1 (1:Int) (1000000:Int)).bind fun y2879 =>
   bif y2879.1.1 then
    (qcg a0.2.2.2.1 (0:Int) (1000000:Int)).bind fun y2880 =>
    some ((y2880.1.1,()),())
   else some ((false,()),())
  else some ((false,()),())
 else some ((false,()),())
def qp4:Entry:=⟨⟨[.ro Uq6],[.v (.val (.bool))],false⟩,fun x=>qnw x.1⟩
theorem qyk:Sound Tryz.prog G 155 qp4:=qab (envS (l:=[(117,qf6),(118,qfp)]) ⟨(qii),(qhj),trivial⟩) [(2,.unroll 4)] Tryz.func155 (by kernel_rfl) rfl fun _=>by kernel_rfl
def qk2 (a0:Dq24) (a1:(Vec 3 Nat)):Option (((Vec 3 Int)×Int×Unit)×Unit) :=
 (qnw a0).bind fun y2844 =>
 bif (! y2844.1.1) then some ((((0,0,0,()):(Vec 3 Int)),(1:Int),()),()) else
 (qnv a0 a1).bind fun y2846 =>
 some ((y2846.1.1,(0:Int),()),())
def qrc:Entry:=⟨⟨[.v Uq6,.v (.arr 3 (.flt .f32))],[.v (.val (.arr 3 (.int .i16))),.v (.val (.int .i64))],false⟩,fun x=>qk2 x.1 x.2.1⟩
theorem qzh:Sound Tryz.prog G 119 qrc:=qab (envS (l:=[(155,qp4),(156,qp3)]) ⟨(qyk),(qyj),trivial⟩) [] Tryz.func119 (by kernel_rfl) rfl fun _=>by kernel_rfl
def qiu (a0:Int) (a1:Int):Option Dq19 :=
 bif (iLt a1 a0) then some ((a0,()),()) else some ((a1,()),())
def qt4:Entry:=⟨⟨[.v (.int .i64),.v (.int .i64)],[.v (.val (.int .i64))],false⟩,fun x=>qiu x.1 x.2.1⟩
theorem qace:Sound Tryz.prog G 157 qt4:=qab (envS (l:=[]) trivial) [] Tryz.func157 (by kernel_rfl) rfl fun _=>by kernel_rfl
def qiv (a0:Int) (a1:Int):Option Dq19 :=
 bif (iLt a0 a1) then some ((a0,()),()) else some ((a1,()),())
def qt5:Entry:=⟨⟨[.v (.int .i64),.v (.int .i64)],[.v (.val (.int .i64))],false⟩,fun x=>qiv x.1 x.2.1⟩
theorem qacf:Sound Tryz.prog G 158 qt5:=qab (envS (l:=[]) trivial) [] Tryz.func158 (by kernel_rfl) rfl fun _=>by kernel_rfl
def qh6 (a0:(Vec 3 Int)) (a1:Int) (a2:Int):Option (((Vec 3 Int)×Int×Int×Unit)×Unit) :=
 bif (iLt a2 0) then some ((((0,0,0,()):(Vec 3 Int)),(0:Int),(2:Int),()),()) else
 let x2883:=iAdd .u32 (iMul .u32 1664525 a1) 1013904223
 let x2888:=iAdd .i64 (iMul .i64 2 (iWrap .i64 a2)) 1
 bif iEq x2888 0 then none else
 (qiv (32767:Int) (iAdd .i64 (iWrap .i64 (Vec.getD 3 a0 0 (0:Int))) (iSub .i64 (iRem .i64 (iWrap .i64 (iQuo .u32 x2883 65536)) x2888) (iWrap .i64 a2)))).bind fun y2895 =>
 (qiu Lq12 y2895.1.1).bind fun y2896 =>
 let x2899:=iAdd .u32 (iMul .u32 1664525 x2883) 1013904223
 let x2904:=iAdd .i64 (iMul .i64 2 (iWrap .i64 a2)) 1
 bif iEq x2904 0 then none else
 (qiv (32767:Int) (iAdd .i64 (iWrap .i64 (Vec.getD 3 a0 1 (0:Int))) (iSub .i64 (iRem .i64 (iWrap .i64 (iQuo .u32 x2899 65536)) x2904) (iWrap .i64 a2)))).bind fun y2911 =>
 (qiu Lq12 y2911.1.1).bind fun y2912 =>
 let x2915:=iAdd .u32 (iMul .u32 1664525 x2899) 1013904223
 let x2920:=iAdd .i64 (iMul .i64 2 (iWrap .i64 a2)) 1
 bif iEq x2920 0 then none else
 (qiv (32767:Int) (iAdd .i64 (iWrap .i64 (Vec.getD 3 a0 2 (0:Int))) (iSub .i64 (iRem .i64 (iWrap .i64 (iQuo .u32 x2915 65536)) x2920) (iWrap .i64 a2)))).bind fun y2927 =>
 (qiu Lq12 y2927.1.1).bind fun y2928 =>
 some (((((iWrap .i16 y2896.1.1),(iWrap .i16 y2912.1.1),(iWrap .i16 y2928.1.1),()):(Vec 3 Int)),x2915,(0:Int),()),())
def qm7:Entry:=⟨⟨[.v (.arr 3 (.int .i16)),.v (.int .u32),.v (.int .i16)],[.v (.val (.arr 3 (.int .i16))),.v (.val (.int .u32)),.v (.val (.int .i64))],false⟩,fun x=>qh6 x.1 x.2.1 x.2.2.1⟩
theorem qvw:Sound Tryz.prog G 121 qm7:=qab (envS (l:=[(157,qt4),(158,qt5)]) ⟨(qace),(qacf),trivial⟩) [(5,.unroll 4)] Tryz.func121 (by kernel_rfl) rfl fun _=>by kernel_rfl
def qn8 (a0:(Vec 3 Nat)) (a1:(Vec 3 Nat)):Option (Dq18×Unit) :=
 some (((((fAdd .f32 (Vec.getD 3 a0 0 (0:Nat)) (Vec.getD 3 a1 0 (0:Nat))),(fAdd .f32 (Vec.getD 3 a0 1 (0:Nat)) (Vec.getD 3 a1 1 (0:Nat))),(fAdd .f32 (Vec.getD 3 a0 2 (0:Nat)) (Vec.getD 3 a1 2 (0:Nat))),()):(Vec 3 Nat)),()),())
def qtz:Entry:=⟨⟨[.v (.arr 3 (.flt .f32)),.v (.arr 3 (.flt .f32))],[.v (.val (.arr 3 (.flt .f32)))],false⟩,fun x=>qn8 x.1 x.2.1⟩
theorem qacc:Sound Tryz.prog G 137 qtz:=qab (envS (l:=[]) trivial) [] Tryz.func137 (by kernel_rfl) rfl fun _=>by kernel_rfl
def qk3 (a0:(Vec 3 Nat)) (a1:Nat):Option (Dq18×Unit) :=
 some (((((fMul .f32 (Vec.getD 3 a0 0 (0:Nat)) a1),(fMul .f32 (Vec.getD 3 a0 1 (0:Nat)) a1),(fMul .f32 (Vec.getD 3 a0 2 (0:Nat)) a1),()):(Vec 3 Nat)),()),())
def qrf:Entry:=⟨⟨[.v (.arr 3 (.flt .f32)),.v (.flt .f32)],[.v (.val (.arr 3 (.flt .f32)))],false⟩,fun x=>qk3 x.1 x.2.1⟩
theorem qzi:Sound Tryz.prog G 136 qrf:=qab (envS (l:=[]) trivial) [] Tryz.func136 (by kernel_rfl) rfl fun _=>by kernel_rfl
def qea (s2955:Dq12) (a0:Dq6) (y2960:(Dq18×Unit)) (s2969:Dq12):Option (Dq12⊕(Dq12⊕Dq15)) :=
 bif inB s2955.2.1 (List.length a0.2.2.2.1) then
  bif (iLt s2969.2.1 ((List.getD a0.2.2.2.1 s2955.2.1.toNat Lq8).1)) then
   (qn8 s2969.2.2.1 y2960.1.1).bind fun y2972 =>
   (qcn y2972.1.1).bind fun y2973 =>
   bif (! y2973.1.1) then
    Option.map Sum.inr (Option.map Sum.inr (some ((([]:(List (Vec 3 Nat))),(4:Int),()),())))
   else
   bif room (List.length s2969.1+1) 12 then
    some (Sum.inl ((s2969.1++([y2972.1.1]:(List (Vec 3 Nat)))),(iAdd .i64 s2969.2.1 1),y2972.1.1,()))
   else none
  else
  Option.map Sum.inr (some (Sum.inl (s2969.1,(iAdd .i64 s2955.2.1 1),s2969.2.2.1,())))
 else none
def qd9 (a0:Dq6) (s2955:Dq12):Option (Dq12⊕Dq15) :=
 bif (iLt s2955.2.1 (lenI a0.2.2.2.1)) then
  bif inB s2955.2.1 (List.length a0.2.2.2.1) then
   (qk3 (((List.getD a0.2.2.2.1 s2955.2.1.toNat Lq8).2).1) (fDiv .f32 1065353216 (fOfInt .f32 a0.1))).bind fun y2960 =>
   run (qea s2955 a0 y2960) (s2955.1,(0:Int),s2955.2.2.1,())
  else none
 else
 Option.map Sum.inr (some ((s2955.1,(0:Int),()),()))
def qe5 (a0:Dq6):Option Dq15 :=
 run (qd9 a0) (([a0.2.1]:(List (Vec 3 Nat))),(0:Int),a0.2.1,())
def qrs:Entry:=⟨⟨[.ro Uq5],[.v (.rows (.arr 3 (.flt .f32))),.v (.val (.int .i64))],false⟩,fun x=>qe5 x.1⟩
theorem qzq:Sound Tryz.prog G 85 qrs:=qab (envS (l:=[(118,qfp),(136,qrf),(137,qtz)]) ⟨(qhj),(qzi),(qacc),trivial⟩) [(4,.vary [(5,.rows (.arr 3 (.flt .f32))),(6,.sc (.int .i64)),(4,.box (.val (.arr 3 (.flt .f32))))]),(8,.vary [(5,.rows (.arr 3 (.flt .f32))),(8,.sc (.int .i64)),(4,.box (.val (.arr 3 (.flt .f32))))])] Tryz.func85 (by kernel_rfl) rfl fun _=>by kernel_rfl
def qgq (x2794:(Int×Dq9)) (y2758:Dq15) (s2792:Dq17) (a0:Dq6) (s2809:Dq17):Option (Dq17⊕(Dq17⊕Dq21)) :=
 bif (iLe s2809.2.2.1 x2794.1) then
  let x2811:=iAdd .i64 s2809.2.1 1
  bif room (List.length s2809.2.2.2.1.2.2.2.1+1) 48 then
   let l2812:=s2809.2.2.2.1.2.2.2.1++([(1,(0,0,0,()),(0,0,0,()),0,0,())]:(List Dq3))
   bif (iLt 0 x2794.2.2.1) then
    bif iEq x2794.2.2.1 0 then none else
    bif (iEq (iRem .i64 s2809.2.2.1 x2794.2.2.1) 0) then
     (qfs).bind fun y2816 =>
     bif inB x2811 (List.length y2758.1.1) then
      (qk2 y2816.1.1 (List.getD y2758.1.1 x2811.toNat Lq6)).bind fun y2818 =>
      (qh6 y2818.1.1 s2809.1 (4:Int)).bind fun y2819 =>
      bif room (List.length l2812+1) 48 then
       some (Sum.inl (y2819.1.2.1,x2811,(iAdd .i64 s2809.2.2.1 1),((s2809.2.2.2.1.1,s2809.2.2.2.1.2.1,s2809.2.2.2.1.2.2.1,(l2812++([(3,(0,0,0,()),y2819.1.1,0,0,())]:(List Dq3))),s2809.2.2.2.1.2.2.2.2):Dq1),()))
      else none
     else none
    else
    some (Sum.inl (s2809.1,x2811,(iAdd .i64 s2809.2.2.1 1),((s2809.2.2.2.1.1,s2809.2.2.2.1.2.1,s2809.2.2.2.1.2.2.1,l2812,s2809.2.2.2.1.2.2.2.2):Dq1),()))
   else
   some (Sum.inl (s2809.1,x2811,(iAdd .i64 s2809.2.2.1 1),((s2809.2.2.2.1.1,s2809.2.2.2.1.2.1,s2809.2.2.2.1.2.2.1,l2812,s2809.2.2.2.1.2.2.2.2):Dq1),()))
  else none
 else
 Option.map Sum.inr (
  bif (iLt x2794.2.2.2.1 0) then
   some (Sum.inl (s2809.1,s2809.2.1,(iAdd .i64 s2792.2.2.1 1),((s2809.2.2.2.1.1,s2809.2.2.2.1.2.1,s2809.2.2.2.1.2.2.1,s2809.2.2.2.1.2.2.2.1,s2809.2.2.2.1.2.2.2.2):Dq1),()))
  else
  let x2827:=iAdd .u32 (iMul .u32 1664525 s2809.1) 1013904223
  bif inB s2809.2.1 (List.length y2758.1.1) then
   bif inB x2794.2.2.2.1 (List.length a0.2.2.1) then
    (qfh (List.getD y2758.1.1 s2809.2.1.toNat Lq6) (List.getD a0.2.2.1 x2794.2.2.2.1.toNat Lq6)).bind fun y2835 =>
    (qe3 y2835.1.1).bind fun y2836 =>
    let x2838:=fAdd .f32 y2836.1.1 (fDiv .f32 (fOfInt .f32 (iSub .i64 (iWrap .i64 (iRem .u32 (iQuo .u32 x2827 65536) 9)) 4)) 1098907648)
    (qaa x2838).bind fun y2839 =>
    bif (! y2839.1.1) then
     Option.map Sum.inr (some ((Lq9,(4:Int),()),()))
    else
    bif room (List.length s2809.2.2.2.1.2.2.2.1+1) 48 then
     some (Sum.inl (x2827,s2809.2.1,(iAdd .i64 s2792.2.2.1 1),((s2809.2.2.2.1.1,s2809.2.2.2.1.2.1,s2809.2.2.2.1.2.2.1,(s2809.2.2.2.1.2.2.2.1++([(4,(0,0,0,()),(0,0,0,()),x2794.2.2.2.1,x2838,())]:(List Dq3))),s2809.2.2.2.1.2.2.2.2):Dq1),()))
    else none
   else none
  else none)
def qka (a0:Dq6) (y2758:Dq15) (s2792:Dq17):Option (Dq17⊕Dq21) :=
 bif (iLt s2792.2.2.1 (lenI a0.2.2.2.1)) then
  bif inB s2792.2.2.1 (List.length a0.2.2.2.1) then
   let x2794:=List.getD a0.2.2.2.1 s2792.2.2.1.toNat Lq8
   bif room (List.length s2792.2.2.2.1.2.2.2.1+1) 48 then
    run (qgq x2794 y2758 s2792 a0) (s2792.1,s2792.2.1,(1:Int),((s2792.2.2.2.1.1,s2792.2.2.2.1.2.1,s2792.2.2.2.1.2.2.1,(s2792.2.2.2.1.2.2.2.1++([(2,x2794.2.1,(0,0,0,()),0,0,())]:(List Dq3))),s2792.2.2.2.1.2.2.2.2):Dq1),())
   else none
  else none
 else
 Option.map Sum.inr (
  bif (iLt 1200 (lenI s2792.2.2.2.1.2.2.2.1)) then some ((Lq9,(3:Int),()),()) else
  some ((((s2792.2.2.2.1.1,s2792.2.2.2.1.2.1,s2792.2.2.2.1.2.2.1,s2792.2.2.2.1.2.2.2.1,s2792.2.2.2.1.2.2.2.2):Dq1),(0:Int),()),()))
def qob (a0:Dq6) (a1:Int):Option Dq21 :=
 (qe5 a0).bind fun y2758 =>
 bif (! (iEq y2758.1.2.1 0)) then some ((Lq9,y2758.1.2.1,()),()) else
 bif room (0+List.length a0.2.2.1) 12 then
  run (qka a0 y2758) (a1,(0:Int),(0:Int),((a0.1,a0.2.1,(([]:(List (Vec 3 Nat)))++a0.2.2.1),[],()):Dq1),())
 else none
def quf:Entry:=⟨⟨[.ro Uq5,.v (.int .u32)],[.v (.pair (.val (.int .i64)) (.pair (.val (.arr 3 (.flt .f32))) (.pair (.rows (.arr 3 (.flt .f32))) (.pair (.rows Uq1) (.val (.unit)))))),.v (.val (.int .i64))],false⟩,fun x=>qob x.1 x.2.1⟩
theorem qack:Sound Tryz.prog G 50 quf:=qab (envS (l:=[(85,qrs),(86,qlk),(87,qnr),(89,qbj),(119,qrc),(120,qkh),(121,qm7)]) ⟨(qzq),(qre),(qt2),(qbp),(qzh),(qp6),(qvw),trivial⟩) [(7,.vary [(1,.sc (.int .u32)),(9,.sc (.int .i64)),(10,.sc (.int .i64)),(8,.box (.pair (.val (.int .i64)) (.pair (.val (.arr 3 (.flt .f32))) (.pair (.rows (.arr 3 (.flt .f32))) (.pair (.rows Uq1) (.val (.unit)))))))]),(12,.vary [(1,.sc (.int .u32)),(9,.sc (.int .i64)),(12,.sc (.int .i64)),(8,.box (.pair (.val (.int .i64)) (.pair (.val (.arr 3 (.flt .f32))) (.pair (.rows (.arr 3 (.flt .f32))) (.pair (.rows Uq1) (.val (.unit)))))))])] Tryz.func50 (by kernel_rfl) rfl fun _=>by kernel_rfl
end
end Go.Proofs.YtnndahnmlmgenaaGreatDoor
