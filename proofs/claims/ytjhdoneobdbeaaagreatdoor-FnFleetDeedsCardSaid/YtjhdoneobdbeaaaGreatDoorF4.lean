import Derived.Test.YtjhdoneobdbeaaaGreatDoorF3
/- Functions on typed data: what the evaluation of each Go function is, and that it is sound. -/
set_option linter.unusedVariables false
namespace Go.Proofs.YtjhdoneobdbeaaaGreatDoor
open Go Go.Tm
noncomputable section
set_option maxRecDepth 100000
variable {G : List (Nat × Obj)}
def qnk (a0:Dq3) (a1:Dq3):Option Dq8 :=
 (qa8 a0.1 a1.1).bind fun y1718 =>
 bif y1718.1.1 then
  (qca a0.2.1 a1.2.1 (fun (z1719:(Dq2×Dq2×Unit))=>(qjm z1719.1 z1719.2.1).map fun y=>y.1.1)).bind fun y1720 =>
  some ((y1720.1.1,()),())
 else some ((false,()),())
def qto:Entry:=⟨⟨[.v Uq4,.v Uq4],[.v (.val (.bool))],false⟩,fun x=>qnk x.1 x.2.1⟩
theorem qab5:Sound Tryz.prog G 103 qto:=qab (envS (l:=[(141,qdh),(142,qh2),(143,qso)]) ⟨(qex),(qov),(qaa6),trivial⟩) [] Tryz.func103 (by kernel_rfl) rfl fun _=>by kernel_rfl
def qfo (a0:Dq7) (a1:Dq3):Option Dq8 :=
 (qnk a0.1 a1).bind fun y1716 =>
 some (((! y1716.1.1),()),())
def qlf:Entry:=⟨⟨[.v Uq3,.ro Uq4],[.v (.val (.bool))],false⟩,fun x=>qfo x.1 x.2.1⟩
theorem qtc:Sound Tryz.prog G 102 qlf:=qab (envS (l:=[(103,qto)]) ⟨(qab5),trivial⟩) [] Tryz.func102 (by kernel_rfl) rfl fun _=>by kernel_rfl
def qec (a0:(List Dq7)) (a1:((Dq7×Unit)→Option Bool)) (s1748:(Int×Unit)):Option ((Int×Unit)⊕Dq13) :=
 bif (iLt s1748.1 (lenI a0)) then
  bif inB s1748.1 (List.length a0) then
   (a1 ((List.getD a0 s1748.1.toNat Lq3),())).bind fun y1751 =>
   bif y1751 then
    Option.map Sum.inr (some ((s1748.1,()),()))
   else
   some (Sum.inl ((iAdd .i64 s1748.1 1),()))
  else none
 else
 Option.map Sum.inr (some ((Lq7,()),()))
def qc8 (a0:(List Dq7)) (a1:((Dq7×Unit)→Option Bool)):Option Dq13 :=
 run (qec a0 a1) ((0:Int),())
def qh4:Entry:=⟨⟨[.v (.list Uq3),.fn ⟨[.pair Uq4 Uq8],.bool⟩],[.v (.val (.int .i64))],false⟩,fun x=>qc8 x.1 x.2.1⟩
theorem qoz:Sound Tryz.prog G 140 qh4:=qab (envS (l:=[]) trivial) [(2,.vary [(8,.sc (.int .i64))])] Tryz.func140 (by kernel_rfl) rfl fun _=>by kernel_rfl
def qbv (a0:(List Dq7)) (a1:((Dq7×Unit)→Option Bool)):Option Dq8 :=
 (qc8 a0 a1).bind fun y1746 =>
 some (((iLe 0 y1746.1.1),()),())
def qgg:Entry:=⟨⟨[.v (.list Uq3),.fn ⟨[.pair Uq4 Uq8],.bool⟩],[.v (.val (.bool))],false⟩,fun x=>qbv x.1 x.2.1⟩
theorem qmx:Sound Tryz.prog G 101 qgg:=qab (envS (l:=[(140,qh4)]) ⟨(qoz),trivial⟩) [] Tryz.func101 (by kernel_rfl) rfl fun _=>by kernel_rfl
def qez (a0:Dq1):Option ((Bool×Unit)×(Dq1×Unit)) :=
 bif inB 0 (List.length a0.2.1.1) then
  (qbv a0.2.1.1 (fun (z1713:(Dq7×Unit))=>(qfo z1713.1 ((List.getD a0.2.1.1 0 Lq3).1)).map fun y=>y.1.1)).bind fun y1714 =>
  some (((! y1714.1.1),()),(((a0.1,(a0.2.1.1,a0.2.1.2.1,a0.2.1.2.2.1,a0.2.1.2.2.2),a0.2.2):Dq1),()))
 else none
def qm5:Entry:=⟨⟨[.io (.pair (.val Uq2) (.pair (.pair (.rows Uq3) (.pair (.rows Uq3) (.pair (.rows Uq6) (.val (.unit))))) (.val (.unit))))],[.v (.val (.bool))],true⟩,fun x=>qez x.1⟩
theorem qvk:Sound Tryz.prog G 53 qm5:=qab (envS (l:=[(101,qgg),(102,qlf)]) ⟨(qmx),(qtc),trivial⟩) [] Tryz.func53 (by kernel_rfl) rfl fun _=>by kernel_rfl
def qjl (a1:(List Dq6)) (s1761:(Int×Int×Dq1×Unit)):Option ((Int×Int×Dq1×Unit)⊕((Dq1×Int×Unit)×Unit)) :=
 bif (iLt s1761.2.1 (lenI a1)) then
  bif inB s1761.2.1 (List.length a1) then
   (qbj ((s1761.2.2.1.1,(s1761.2.2.1.2.1.1,s1761.2.2.1.2.1.2.1,s1761.2.2.1.2.1.2.2.1,s1761.2.2.1.2.1.2.2.2),s1761.2.2.1.2.2):Dq1) (List.getD a1 s1761.2.1.toNat Lq6)).bind fun y1764 =>
   bif (iEq y1764.1.1 0) then
    some (Sum.inl ((iAdd .i64 s1761.1 1),(iAdd .i64 s1761.2.1 1),((y1764.2.1.1,(y1764.2.1.2.1.1,y1764.2.1.2.1.2.1,y1764.2.1.2.1.2.2.1,y1764.2.1.2.1.2.2.2),y1764.2.1.2.2):Dq1),()))
   else
   some (Sum.inl (s1761.1,(iAdd .i64 s1761.2.1 1),((y1764.2.1.1,(y1764.2.1.2.1.1,y1764.2.1.2.1.2.1,y1764.2.1.2.1.2.2.1,y1764.2.1.2.1.2.2.2),y1764.2.1.2.2):Dq1),()))
  else none
 else
 Option.map Sum.inr (some ((((s1761.2.2.1.1,(s1761.2.2.1.2.1.1,s1761.2.2.1.2.1.2.1,s1761.2.2.1.2.1.2.2.1,s1761.2.2.1.2.1.2.2.2),s1761.2.2.1.2.2):Dq1),s1761.1,()),()))
def qr1 (a0:Dq5) (a1:(List Dq6)):Option ((Dq1×Int×Unit)×Unit) :=
 (qf2 a0).bind fun y1753 =>
 run (qjl a1) ((0:Int),(0:Int),((y1753.1.1.1,(y1753.1.1.2.1.1,y1753.1.1.2.1.2.1,y1753.1.1.2.1.2.2.1,y1753.1.1.2.1.2.2.2),y1753.1.1.2.2):Dq1),())
def qxd:Entry:=⟨⟨[.v Uq2,.v (.list Uq5)],[.p (.pair (.val Uq2) (.pair (.pair (.rows Uq3) (.pair (.rows Uq3) (.pair (.rows Uq6) (.val (.unit))))) (.val (.unit)))),.v (.val (.int .i64))],true⟩,fun x=>qr1 x.1 x.2.1⟩
theorem qaf5 (mx:GMax 4 G) (tb:GTab Tryz.prog G) (sy:GErr 1 G) (ra:GErr 2 G) (db:GDeb Tryz.prog G):Sound Tryz.prog G 42 qxd:=qab (envS (l:=[(46,qh9),(59,qh8)]) ⟨(qln mx tb sy ra db),(qlm),trivial⟩) [(4,.vary [(7,.sc (.int .i64)),(14,.sc (.int .i64)),(6,.box (.pair (.val Uq2) (.pair (.pair (.rows Uq3) (.pair (.rows Uq3) (.pair (.rows Uq6) (.val (.unit))))) (.val (.unit)))))])] Tryz.func42 (by kernel_rfl) rfl fun _=>by kernel_rfl
def qj9 (a0:(Vec 3 Nat)) (a1:(Vec 3 Nat)):Option Dq8 :=
 (qbq (Vec.getD 3 a0 0 (0:Nat)) (Vec.getD 3 a1 0 (0:Nat))).bind fun y1795 =>
 bif y1795.1.1 then
  (qbq (Vec.getD 3 a0 1 (0:Nat)) (Vec.getD 3 a1 1 (0:Nat))).bind fun y1798 =>
  bif y1798.1.1 then
   (qbq (Vec.getD 3 a0 2 (0:Nat)) (Vec.getD 3 a1 2 (0:Nat))).bind fun y1801 =>
   some ((y1801.1.1,()),())
  else some ((false,()),())
 else some ((false,()),())
def qqu:Entry:=⟨⟨[.v (.arr 3 (.flt .f32)),.v (.arr 3 (.flt .f32))],[.v (.val (.bool))],false⟩,fun x=>qj9 x.1 x.2.1⟩
theorem qzh:Sound Tryz.prog G 145 qqu:=qab (envS (l:=[(104,qhi)]) ⟨(qka),trivial⟩) [] Tryz.func145 (by kernel_rfl) rfl fun _=>by kernel_rfl
def qji (a0:Dq2) (a1:Dq2):Option Dq8 :=
 bif (iEq (Vec.getD 3 a0.1 0 (0:Int)) (Vec.getD 3 a1.1 0 (0:Int))&&(iEq (Vec.getD 3 a0.1 1 (0:Int)) (Vec.getD 3 a1.1 1 (0:Int))&&(iEq (Vec.getD 3 a0.1 2 (0:Int)) (Vec.getD 3 a1.1 2 (0:Int))&&true))) then
  (qj9 a0.2.1 a1.2.1).bind fun y1789 =>
  bif y1789.1.1 then
   (qbq a0.2.2.1 a1.2.2.1).bind fun y1790 =>
   bif y1790.1.1 then
    bif (iEq a0.2.2.2.1 a1.2.2.2.1) then
     some (((iEq a0.2.2.2.2.1 a1.2.2.2.2.1),()),())
    else some ((false,()),())
   else some ((false,()),())
  else some ((false,()),())
 else some ((false,()),())
def qpb:Entry:=⟨⟨[.ro Uq1,.ro Uq1],[.v (.val (.bool))],false⟩,fun x=>qji x.1 x.2.1⟩
theorem qxz:Sound Tryz.prog G 105 qpb:=qab (envS (l:=[(104,qhi),(145,qqu)]) ⟨(qka),(qzh),trivial⟩) [] Tryz.func105 (by kernel_rfl) rfl fun _=>by kernel_rfl
def qok (a0:Dq3) (a1:Dq3) (s1783:(Int×Unit)):Option ((Int×Unit)⊕Dq8) :=
 bif (iLt s1783.1 (lenI a0.2.1)) then
  bif inB s1783.1 (List.length a0.2.1) then
   bif inB s1783.1 (List.length a1.2.1) then
    (qji (List.getD a0.2.1 s1783.1.toNat Lq1) (List.getD a1.2.1 s1783.1.toNat Lq1)).bind fun y1785 =>
    bif (! y1785.1.1) then
     Option.map Sum.inr (some ((false,()),()))
    else
    some (Sum.inl ((iAdd .i64 s1783.1 1),()))
   else none
  else none
 else
 Option.map Sum.inr (some ((true,()),()))
def qoj (a0:Dq3) (a1:Dq3):Option Dq8 :=
 (qbq a0.1 a1.1).bind fun y1780 =>
 bif (! y1780.1.1) then some ((false,()),()) else
 bif (! (iEq (lenI a0.2.1) (lenI a1.2.1))) then some ((false,()),()) else run (qok a0 a1) ((0:Int),())
def qup:Entry:=⟨⟨[.ro Uq4,.ro Uq4],[.v (.val (.bool))],false⟩,fun x=>qoj x.1 x.2.1⟩
theorem qadl:Sound Tryz.prog G 55 qup:=qab (envS (l:=[(104,qhi),(105,qpb)]) ⟨(qka),(qxz),trivial⟩) [(4,.vary [(5,.sc (.int .i64))])] Tryz.func55 (by kernel_rfl) rfl fun _=>by kernel_rfl
def qdp (a0:Dq1) (s1775:(Int×Unit)):Option ((Int×Unit)⊕((Bool×Unit)×(Dq1×Unit))) :=
 bif (iLt s1775.1 (lenI a0.2.1.1)) then
  bif inB 0 (List.length a0.2.1.1) then
   bif inB s1775.1 (List.length a0.2.1.1) then
    (qoj ((List.getD a0.2.1.1 0 Lq3).1) ((List.getD a0.2.1.1 s1775.1.toNat Lq3).1)).bind fun y1777 =>
    bif (! y1777.1.1) then
     Option.map Sum.inr (some ((false,()),(((a0.1,(a0.2.1.1,a0.2.1.2.1,a0.2.1.2.2.1,a0.2.1.2.2.2),a0.2.2):Dq1),())))
    else
    some (Sum.inl ((iAdd .i64 s1775.1 1),()))
   else none
  else none
 else
 Option.map Sum.inr (some ((true,()),(((a0.1,(a0.2.1.1,a0.2.1.2.1,a0.2.1.2.2.1,a0.2.1.2.2.2),a0.2.2):Dq1),())))
def qhp (a0:Dq1):Option ((Bool×Unit)×(Dq1×Unit)) :=
 run (qdp a0) ((1:Int),())
def qna:Entry:=⟨⟨[.io (.pair (.ro Uq2) (.pair (.pair (.rows Uq3) (.pair (.rows Uq3) (.pair (.rows Uq6) (.val (.unit))))) (.val (.unit))))],[.v (.val (.bool))],true⟩,fun x=>qhp x.1⟩
theorem qv6:Sound Tryz.prog G 63 qna:=qab (envS (l:=[(55,qup)]) ⟨(qadl),trivial⟩) [(2,.vary [(3,.sc (.int .i64))])] Tryz.func63 (by kernel_rfl) rfl fun _=>by kernel_rfl
def ql5 (a0:Int):Option (Dq10×Unit) :=
 (strings_Split ([111,107,32,105,110,118,97,108,105,100,32,114,97,110,103,101,32,108,105,109,105,116,32,115,116,97,116,101,32,115,121,110,116,97,120,32,110,111,116,102,111,117,110,100,32,98,117,100,103,101,116,32,112,114,111,111,102]:List UInt8) ([32]:List UInt8)).bind fun y1862 =>
 bif (iLt a0 0) then some ((([]:List UInt8),()),()) else
 bif (iLe (lenI y1862.1.1) a0) then some ((([]:List UInt8),()),()) else
 bif inB a0 (List.length y1862.1.1) then
  some (((List.getD y1862.1.1 a0.toNat ([]:List UInt8)),()),())
 else none
def qsi:Entry:=⟨⟨[.v (.int .i64)],[.v (.val (.str))],false⟩,fun x=>ql5 x.1⟩
theorem qaa3 (mx:GMax 4 G):Sound Tryz.prog G 114 qsi:=qab (envS (l:=[(109,qdd)]) ⟨(qgq mx),trivial⟩) [] Tryz.func114 (by kernel_rfl) rfl fun _=>by kernel_rfl
def qig:Option Dq14 :=
 (strings_Split ([32,115,101,101,32,115,101,110,100,32,100,101,108,105,118,101,114,32,99,111,112,121,32,100,114,111,112,32,115,97,118,101,32,99,114,97,115,104]:List UInt8) ([32]:List UInt8)).bind fun y1892 =>
 some ((y1892.1.1,()),())
def qlk:Entry:=⟨⟨[],[.v (.rows (.str))],false⟩,fun _=>qig⟩
theorem qrk (mx:GMax 4 G):Sound Tryz.prog G 66 qlk:=qab (envS (l:=[(109,qdd)]) ⟨(qgq mx),trivial⟩) [] Tryz.func66 (by kernel_rfl) rfl fun _=>by kernel_rfl
def qgx (a0:Dq6):Option (Dq10×Unit) :=
 (qf0 a0).bind fun y1881 =>
 bif (! y1881.1.1) then some ((([]:List UInt8),()),()) else
 (qig).bind fun y1883 =>
 bif inB a0.1 (List.length y1883.1.1) then
  let x1884:=List.getD y1883.1.1 a0.1.toNat ([]:List UInt8)
  bif strRoom x1884 ([32]) then
   let x1885:=strCat x1884 ([32])
   (qa3 a0.2.1).bind fun y1886 =>
   bif strRoom x1885 y1886.1.1 then
    let x1887:=strCat x1885 y1886.1.1
    bif (iEq a0.1 2) then
     (qa3 a0.2.2.1).bind fun y1889 =>
     bif strRoom ([32]) y1889.1.1 then
      let x1890:=strCat ([32]) y1889.1.1
      bif strRoom x1887 x1890 then
       some (((strCat x1887 x1890),()),())
      else none
     else none
    else some ((x1887,()),())
   else none
  else none
 else none
def qmk:Entry:=⟨⟨[.v Uq5],[.v (.val (.str))],false⟩,fun x=>qgx x.1⟩
theorem qsj (mx:GMax 4 G) (tb:GTab Tryz.prog G):Sound Tryz.prog G 33 qmk:=qab (envS (l:=[(34,qh6),(66,qlk),(70,qdj)]) ⟨(qlj),(qrk mx),(qe4 tb),trivial⟩) [] Tryz.func33 (by kernel_rfl) rfl fun _=>by kernel_rfl
def qcc (a0:(List (List UInt8))) (a1:List UInt8) (s1893:(Int×Unit)):Option ((Int×Unit)⊕Dq13) :=
 bif (iLt s1893.1 (lenI a0)) then
  bif inB s1893.1 (List.length a0) then
   bif (sEq a1 (List.getD a0 s1893.1.toNat ([]:List UInt8))) then
    Option.map Sum.inr (some ((s1893.1,()),()))
   else
   some (Sum.inl ((iAdd .i64 s1893.1 1),()))
  else none
 else
 Option.map Sum.inr (some ((Lq7,()),()))
def qeh (a0:(List (List UInt8))) (a1:List UInt8):Option Dq13 :=
 run (qcc a0 a1) ((0:Int),())
def qly:Entry:=⟨⟨[.v (.list (.str)),.v (.str)],[.v (.val (.int .i64))],false⟩,fun x=>qeh x.1 x.2.1⟩
theorem qu6:Sound Tryz.prog G 65 qly:=qab (envS (l:=[]) trivial) [(2,.vary [(8,.sc (.int .i64))])] Tryz.func65 (by kernel_rfl) rfl fun _=>by kernel_rfl
def qc3 (a0:List UInt8):Option ((Dq6×Int×Unit)×Unit) :=
 (qby a0).bind fun y1866 =>
 (qig).bind fun y1867 =>
 (qbm ((y1866.1.1.1,y1866.1.1.2):Dq4)).bind fun y1868 =>
 (qeh y1867.1.1 y1868.1.1).bind fun y1869 =>
 (qac ((y1868.2.1.1,y1868.2.1.2):Dq4)).bind fun y1870 =>
 bif (iEq y1869.1.1 2) then
  (qac ((y1870.2.1.1,y1870.2.1.2):Dq4)).bind fun y1872 =>
  (qam ((y1872.2.1.1,y1872.2.1.2):Dq4)).bind fun y1873 =>
  bif (! y1873.1.1) then some ((Lq6,(5:Int),()),()) else
  (qgx ((y1869.1.1,y1870.1.1,y1872.1.1,()):Dq6)).bind fun y1875 =>
  bif (! (sEq y1875.1.1 a0)) then some ((Lq6,(5:Int),()),()) else some ((((y1869.1.1,y1870.1.1,y1872.1.1,()):Dq6),(0:Int),()),())
 else
 (qam ((y1870.2.1.1,y1870.2.1.2):Dq4)).bind fun y1877 =>
 bif (! y1877.1.1) then some ((Lq6,(5:Int),()),()) else
 (qgx ((y1869.1.1,y1870.1.1,0,()):Dq6)).bind fun y1879 =>
 bif (! (sEq y1879.1.1 a0)) then some ((Lq6,(5:Int),()),()) else some ((((y1869.1.1,y1870.1.1,0,()):Dq6),(0:Int),()),())
def qmm:Entry:=⟨⟨[.v (.str)],[.v (.val Uq5),.v (.val (.int .i64))],false⟩,fun x=>qc3 x.1⟩
theorem qsm (mx:GMax 4 G) (tb:GTab Tryz.prog G) (sy:GErr 1 G) (ra:GErr 2 G):Sound Tryz.prog G 32 qmm:=qab (envS (l:=[(33,qmk),(64,qja),(65,qly),(66,qlk),(67,qcu),(68,qc5),(69,qdu)]) ⟨(qsj mx tb),(qmp mx),(qu6),(qrk mx),(qed),(qe8 tb sy ra),(qf9),trivial⟩) [] Tryz.func32 (by kernel_rfl) rfl fun _=>by kernel_rfl
def qcl (a0:Dq1) (a1:List UInt8):Option (Dq10×(Dq1×Unit)) :=
 (qc3 a1).bind fun y1842 =>
 bif (iEq y1842.1.2.1 0) then
  (qbj ((a0.1,(a0.2.1.1,a0.2.1.2.1,a0.2.1.2.2.1,a0.2.1.2.2.2),a0.2.2):Dq1) y1842.1.1).bind fun y1844 =>
  bif (! (iEq y1844.1.1 0)) then
   (ql5 y1844.1.1).bind fun y1846 =>
   bif strRoom ([101,114,114,111,114,32]) y1846.1.1 then
    some (((strCat ([101,114,114,111,114,32]) y1846.1.1),()),(((y1844.2.1.1,(y1844.2.1.2.1.1,y1844.2.1.2.1.2.1,y1844.2.1.2.1.2.2.1,y1844.2.1.2.1.2.2.2),y1844.2.1.2.2):Dq1),()))
   else none
  else
  some ((([111,107]:List UInt8),()),(((y1844.2.1.1,(y1844.2.1.2.1.1,y1844.2.1.2.1.2.1,y1844.2.1.2.1.2.2.1,y1844.2.1.2.1.2.2.2),y1844.2.1.2.2):Dq1),()))
 else
 bif (sEq a1 ([97,103,114,101,101,100])) then
  (qez ((a0.1,(a0.2.1.1,a0.2.1.2.1,a0.2.1.2.2.1,a0.2.1.2.2.2),a0.2.2):Dq1)).bind fun y1849 =>
  bif y1849.1.1 then
   some ((([121,101,115]:List UInt8),()),(((y1849.2.1.1,(y1849.2.1.2.1.1,y1849.2.1.2.1.2.1,y1849.2.1.2.1.2.2.1,y1849.2.1.2.1.2.2.2),y1849.2.1.2.2):Dq1),()))
  else
  some ((([110,111]:List UInt8),()),(((y1849.2.1.1,(y1849.2.1.2.1.1,y1849.2.1.2.1.2.1,y1849.2.1.2.1.2.2.1,y1849.2.1.2.1.2.2.2),y1849.2.1.2.2):Dq1),()))
 else
 (qby a1).bind fun y1850 =>
 (qbe ((y1850.1.1.1,y1850.1.1.2):Dq4) ([109,97,114,107,115]:List UInt8)).bind fun y1851 =>
 (qac ((y1851.2.1.1,y1851.2.1.2):Dq4)).bind fun y1852 =>
 (qam ((y1852.2.1.1,y1852.2.1.2):Dq4)).bind fun y1853 =>
 bif (! y1853.1.1) then
  some ((([119,104,97,116]:List UInt8),()),(((a0.1,(a0.2.1.1,a0.2.1.2.1,a0.2.1.2.2.1,a0.2.1.2.2.2),a0.2.2):Dq1),()))
 else
 (qa9 ((a0.1,(a0.2.1.1,a0.2.1.2.1,a0.2.1.2.2.1,a0.2.1.2.2.2),a0.2.2):Dq1) y1852.1.1).bind fun y1855 =>
 bif (! y1855.1.1) then
  some ((([119,104,97,116]:List UInt8),()),(((y1855.2.1.1,(y1855.2.1.2.1.1,y1855.2.1.2.1.2.1,y1855.2.1.2.1.2.2.1,y1855.2.1.2.1.2.2.2),y1855.2.1.2.2):Dq1),()))
 else
 bif inB y1852.1.1 (List.length y1855.2.1.2.1.1) then
  let x1857:=List.getD y1855.2.1.2.1.1 y1852.1.1.toNat Lq3
  (qa3 (lenI x1857.1.2.1)).bind fun y1858 =>
  bif strRoom y1858.1.1 ([32]) then
   let x1859:=strCat y1858.1.1 ([32])
   (qa3 x1857.2.1).bind fun y1860 =>
   bif strRoom x1859 y1860.1.1 then
    some (((strCat x1859 y1860.1.1),()),(((y1855.2.1.1,(y1855.2.1.2.1.1,y1855.2.1.2.1.2.1,y1855.2.1.2.1.2.2.1,y1855.2.1.2.1.2.2.2),y1855.2.1.2.2):Dq1),()))
   else none
  else none
 else none
def qm6:Entry:=⟨⟨[.io (.pair (.val Uq2) (.pair (.pair (.rows Uq3) (.pair (.rows Uq3) (.pair (.rows Uq6) (.val (.unit))))) (.val (.unit)))),.v (.str)],[.v (.val (.str))],true⟩,fun x=>qcl x.1 x.2.1⟩
theorem qvl (mx:GMax 4 G) (tb:GTab Tryz.prog G) (sy:GErr 1 G) (ra:GErr 2 G) (db:GDeb Tryz.prog G):Sound Tryz.prog G 76 qm6:=qab (envS (l:=[(32,qmm),(46,qh9),(53,qm5),(54,qg9),(64,qja),(68,qc5),(69,qdu),(70,qdj),(114,qsi),(115,qgu)]) ⟨(qsm mx tb sy ra),(qln mx tb sy ra db),(qvk),(qkp),(qmp mx),(qe8 tb sy ra),(qf9),(qe4 tb),(qaa3 mx),(qle),trivial⟩) [] Tryz.func76 (by kernel_rfl) rfl fun _=>by kernel_rfl
def qlb (a0:List UInt8):Option Dq14 :=
 (strings_Split a0 ([10]:List UInt8)).bind fun y1898 =>
 let x1899:=iSub .i64 (lenI y1898.1.1) 1
 bif inB x1899 (List.length y1898.1.1) then
  bif (sEq (List.getD y1898.1.1 x1899.toNat ([]:List UInt8)) ([])) then
   bif inS 0 x1899 (List.length y1898.1.1) then some ((List.take x1899.toNat (List.drop 0 y1898.1.1),()),()) else none
  else some ((y1898.1.1,()),())
 else none
def qrm:Entry:=⟨⟨[.v (.str)],[.v (.rows (.str))],false⟩,fun x=>qlb x.1⟩
theorem qz0 (mx:GMax 4 G):Sound Tryz.prog G 74 qrm:=qab (envS (l:=[(109,qdd)]) ⟨(qgq mx),trivial⟩) [] Tryz.func74 (by kernel_rfl) rfl fun _=>by kernel_rfl
def qd4 (y1814:Dq14) (s1834:(Int×Dq1×Dq12×Unit)):Option ((Int×Dq1×Dq12×Unit)⊕(Dq15×Unit)) :=
 bif (iLt s1834.1 (lenI y1814.1.1)) then
  bif inB s1834.1 (List.length y1814.1.1) then
   (qcl ((s1834.2.1.1,(s1834.2.1.2.1.1,s1834.2.1.2.1.2.1,s1834.2.1.2.1.2.2.1,s1834.2.1.2.1.2.2.2),s1834.2.1.2.2):Dq1) (List.getD y1814.1.1 s1834.1.toNat ([]:List UInt8))).bind fun y1837 =>
   bif strRoom y1837.1.1 ([10]) then
    (qav ((s1834.2.2.1.1,s1834.2.2.1.2.1,s1834.2.2.1.2.2):Dq12) (strCat y1837.1.1 ([10]))).bind fun y1839 =>
    some (Sum.inl ((iAdd .i64 s1834.1 1),((y1837.2.1.1,(y1837.2.1.2.1.1,y1837.2.1.2.1.2.1,y1837.2.1.2.1.2.2.1,y1837.2.1.2.1.2.2.2),y1837.2.1.2.2):Dq1),((y1839.2.1.1,y1839.2.1.2.1,y1839.2.1.2.2):Dq12),()))
   else none
  else none
 else
 Option.map Sum.inr (
  (bldStr ((s1834.2.2.1.1,s1834.2.2.1.2.1,s1834.2.2.1.2.2):Dq12)).bind fun y1841 =>
  some ((y1841,(0:Int),()),()))
def qk6 (a0:Dq5) (a1:List UInt8):Option (Dq15×Unit) :=
 (qlb a1).bind fun y1814 =>
 (qg3 a0).bind fun y1815 =>
 bif (! y1815.1.1) then some ((([]:List UInt8),(1:Int),()),()) else
 bif (iLt 10000 (lenI a1)) then some ((([]:List UInt8),(2:Int),()),()) else
 bif (iLt 120 (lenI y1814.1.1)) then some ((([]:List UInt8),(2:Int),()),()) else
 (qf2 a0).bind fun y1819 =>
 run (qd4 y1814) ((0:Int),((y1819.1.1.1,(y1819.1.1.2.1.1,y1819.1.1.2.1.2.1,y1819.1.1.2.1.2.2.1,y1819.1.1.2.1.2.2.2),y1819.1.1.2.2):Dq1),(((),[],()):Dq12),())
def qrh:Entry:=⟨⟨[.v Uq2,.v (.str)],[.v (.val (.str)),.v (.val (.int .i64))],false⟩,fun x=>qk6 x.1 x.2.1⟩
theorem qzw (mx:GMax 4 G) (tb:GTab Tryz.prog G) (sy:GErr 1 G) (ra:GErr 2 G) (db:GDeb Tryz.prog G):Sound Tryz.prog G 36 qrh:=qab (envS (l:=[(17,qkl),(59,qh8),(74,qrm),(75,qd2),(76,qm6)]) ⟨(qqn),(qlm),(qz0 mx),(qhs),(qvl mx tb sy ra db),trivial⟩) [(9,.vary [(30,.sc (.int .i64)),(7,.box (.pair (.val Uq2) (.pair (.pair (.rows Uq3) (.pair (.rows Uq3) (.pair (.rows Uq6) (.val (.unit))))) (.val (.unit))))),(8,.box (.pair (.val (.ref 138)) (.pair (.rows (.int .u8)) (.val (.unit)))))])] Tryz.func36 (by kernel_rfl) rfl fun _=>by kernel_rfl
def qb5 (a0:Dq1) (a1:List UInt8):Option (Dq10×(Dq1×Unit)) :=
 bif (sEq a1 ([97,103,114,101,101,100])) then
  (qhp ((a0.1,(a0.2.1.1,a0.2.1.2.1,a0.2.1.2.2.1,a0.2.1.2.2.2),a0.2.2):Dq1)).bind fun y1985 =>
  bif y1985.1.1 then
   some ((([121,101,115]:List UInt8),()),(((y1985.2.1.1,(y1985.2.1.2.1.1,y1985.2.1.2.1.2.1,y1985.2.1.2.1.2.2.1,y1985.2.1.2.1.2.2.2),y1985.2.1.2.2):Dq1),()))
  else
  some ((([110,111]:List UInt8),()),(((y1985.2.1.1,(y1985.2.1.2.1.1,y1985.2.1.2.1.2.1,y1985.2.1.2.1.2.2.1,y1985.2.1.2.1.2.2.2),y1985.2.1.2.2):Dq1),()))
 else
 (qbz a1 (32:Int)).bind fun y1986 =>
 bif (! (iEq (lenI y1986.1.1) 2)) then
  some ((([119,104,97,116]:List UInt8),()),(((a0.1,(a0.2.1.1,a0.2.1.2.1,a0.2.1.2.2.1,a0.2.1.2.2.2),a0.2.2):Dq1),()))
 else
 bif inB 0 (List.length y1986.1.1) then
  bif (! (sEq (List.getD y1986.1.1 0 ([]:List UInt8)) ([109,97,114,107,115]))) then
   some ((([119,104,97,116]:List UInt8),()),(((a0.1,(a0.2.1.1,a0.2.1.2.1,a0.2.1.2.2.1,a0.2.1.2.2.2),a0.2.2):Dq1),()))
  else
  bif inB 1 (List.length y1986.1.1) then
   (qbg (List.getD y1986.1.1 1 ([]:List UInt8))).bind fun y1991 =>
   bif (! y1991.1.2.1) then
    some ((([119,104,97,116]:List UInt8),()),(((a0.1,(a0.2.1.1,a0.2.1.2.1,a0.2.1.2.2.1,a0.2.1.2.2.2),a0.2.2):Dq1),()))
   else
   bif (iLe (lenI a0.2.1.1) y1991.1.1) then
    some ((([119,104,97,116]:List UInt8),()),(((a0.1,(a0.2.1.1,a0.2.1.2.1,a0.2.1.2.2.1,a0.2.1.2.2.2),a0.2.2):Dq1),()))
   else
   bif inB y1991.1.1 (List.length a0.2.1.1) then
    let x1994:=List.getD a0.2.1.1 y1991.1.1.toNat Lq3
    (qb2 (lenI x1994.1.2.1)).bind fun y1995 =>
    bif strRoom y1995.1.1 ([32]) then
     let x1996:=strCat y1995.1.1 ([32])
     (qb2 x1994.2.1).bind fun y1997 =>
     bif strRoom x1996 y1997.1.1 then
      some (((strCat x1996 y1997.1.1),()),(((a0.1,(a0.2.1.1,a0.2.1.2.1,a0.2.1.2.2.1,a0.2.1.2.2.2),a0.2.2):Dq1),()))
     else none
    else none
   else none
  else none
 else none
def qnb:Entry:=⟨⟨[.io (.pair (.ro Uq2) (.pair (.pair (.rows Uq3) (.pair (.rows Uq3) (.pair (.rows Uq6) (.val (.unit))))) (.val (.unit)))),.v (.str)],[.v (.val (.str))],true⟩,fun x=>qb5 x.1 x.2.1⟩
theorem qv7:Sound Tryz.prog G 82 qnb:=qab (envS (l:=[(63,qna),(73,qhh),(79,qeo),(120,qfm)]) ⟨(qv6),(qj8),(qgi),(qib),trivial⟩) [] Tryz.func82 (by kernel_rfl) rfl fun _=>by kernel_rfl
def qff (a0:Int):Option (Dq10×Unit) :=
 (qb8 a0 (0:Int) (8:Int)).bind fun y1999 =>
 bif (! y1999.1.1) then some ((([]:List UInt8),()),()) else
 bif inB a0 9 then
  some (((List.getD ([[111,107],[105,110,118,97,108,105,100],[114,97,110,103,101],[108,105,109,105,116],[115,116,97,116,101],[115,121,110,116,97,120],[110,111,116,102,111,117,110,100],[98,117,100,103,101,116],[112,114,111,111,102]]:(List (List UInt8))) a0.toNat ([]:List UInt8)),()),())
 else none
def qsy:Entry:=⟨⟨[.v (.int .i64)],[.v (.val (.str))],false⟩,fun x=>qff x.1⟩
theorem qabc:Sound Tryz.prog G 84 qsy:=qab (envS (l:=[(112,qd8)]) ⟨(qfg),trivial⟩) [] Tryz.func84 (by kernel_rfl) rfl fun _=>by kernel_rfl
def qjt:Option (((List (List UInt8))×(List Int)×Unit)×Unit) :=
 some ((([[],[115,101,101],[115,101,110,100],[100,101,108,105,118,101,114],[99,111,112,121],[100,114,111,112],[115,97,118,101],[99,114,97,115,104]]:(List (List UInt8))),([0,1,2,1,1,1,1,1]:(List Int)),()),())
def qmz:Entry:=⟨⟨[],[.v (.rows (.str)),.v (.rows (.int .i64))],false⟩,fun _=>qjt⟩
theorem qs9:Sound Tryz.prog G 72 qmz:=qab (envS (l:=[]) trivial) [] Tryz.func72 (by kernel_rfl) rfl fun _=>by kernel_rfl
def qa2 (y2002:Dq14) (s2028:(Int×Dq6×Unit)):Option ((Int×Dq6×Unit)⊕((Dq6×Int×Unit)×Unit)) :=
 bif (iLt s2028.1 (lenI y2002.1.1)) then
  bif inB s2028.1 (List.length y2002.1.1) then
   (qbg (List.getD y2002.1.1 s2028.1.toNat ([]:List UInt8))).bind fun y2031 =>
   bif (! y2031.1.2.1) then
    Option.map Sum.inr (some ((Lq6,(5:Int),()),()))
   else
   bif (iEq s2028.1 1) then
    some (Sum.inl ((iAdd .i64 s2028.1 1),((s2028.2.1.1,y2031.1.1,s2028.2.1.2.2):Dq6),()))
   else
   some (Sum.inl ((iAdd .i64 s2028.1 1),((s2028.2.1.1,s2028.2.1.2.1,y2031.1.1,s2028.2.1.2.2.2):Dq6),()))
  else none
 else
 Option.map Sum.inr (
  (qir s2028.2.1).bind fun y2036 =>
  bif (! y2036.1.1) then some ((Lq6,(5:Int),()),()) else some ((s2028.2.1,(0:Int),()),()))
def qem (y2003:(((List (List UInt8))×(List Int)×Unit)×Unit)) (y2002:Dq14) (s2010:(Int×Dq6×Unit)):Option ((Int×Dq6×Unit)⊕((Dq6×Int×Unit)×Unit)) :=
 bif (iLt s2010.1 (lenI y2003.1.1)) then
  bif inB s2010.1 (List.length y2003.1.1) then
   bif inB 0 (List.length y2002.1.1) then
    bif (sEq (List.getD y2003.1.1 s2010.1.toNat ([]:List UInt8)) (List.getD y2002.1.1 0 ([]:List UInt8))) then
     some (Sum.inl ((iAdd .i64 s2010.1 1),((s2010.1,s2010.2.1.2):Dq6),()))
    else
    some (Sum.inl ((iAdd .i64 s2010.1 1),s2010.2.1,()))
   else none
  else none
 else
 Option.map Sum.inr (
  bif (iEq s2010.2.1.1 0) then some ((Lq6,(5:Int),()),()) else
  bif inB s2010.2.1.1 (List.length y2003.1.2.1) then
   bif (! (iEq (lenI y2002.1.1) (iAdd .i64 (List.getD y2003.1.2.1 s2010.2.1.1.toNat (0:Int)) 1))) then some ((Lq6,(5:Int),()),()) else run (qa2 y2002) ((1:Int),s2010.2.1,())
  else none)
def qbl (a0:List UInt8):Option ((Dq6×Int×Unit)×Unit) :=
 (qbz a0 (32:Int)).bind fun y2002 =>
 (qjt).bind fun y2003 =>
 run (qem y2003 y2002) ((1:Int),Lq6,())
def qs0:Entry:=⟨⟨[.v (.str)],[.v (.val Uq5),.v (.val (.int .i64))],false⟩,fun x=>qbl x.1⟩
theorem qabf:Sound Tryz.prog G 81 qs0:=qab (envS (l:=[(71,qoq),(72,qmz),(79,qeo),(120,qfm)]) ⟨(quu),(qs9),(qgi),(qib),trivial⟩) [(5,.vary [(8,.sc (.int .i64)),(7,.box (.val Uq5))]),(12,.vary [(9,.sc (.int .i64)),(7,.box (.val Uq5))])] Tryz.func81 (by kernel_rfl) rfl fun _=>by kernel_rfl
def qe3 (x1917:Int) (y1913:Dq14) (s1931:(List UInt8×Int×Dq1×Unit)):Option ((List UInt8×Int×Dq1×Unit)⊕(Dq15×Unit)) :=
 bif (iLt s1931.2.1 ((x1917.toNat:Nat):Int)) then
  bif inB s1931.2.1 x1917.toNat then
   (qbl (List.getD y1913.1.1 (0+s1931.2.1.toNat) ([]:List UInt8))).bind fun y1934 =>
   bif (! (iEq y1934.1.2.1 0)) then
    bif inB s1931.2.1 x1917.toNat then
     (qb5 ((s1931.2.2.1.1,(s1931.2.2.1.2.1.1,s1931.2.2.1.2.1.2.1,s1931.2.2.1.2.1.2.2.1,s1931.2.2.1.2.1.2.2.2),s1931.2.2.1.2.2):Dq1) (List.getD y1913.1.1 (0+s1931.2.1.toNat) ([]:List UInt8))).bind fun y1937 =>
     bif strRoom y1937.1.1 ([10]) then
      let x1938:=strCat y1937.1.1 ([10])
      bif strRoom s1931.1 x1938 then
       some (Sum.inl ((strCat s1931.1 x1938),(iAdd .i64 s1931.2.1 1),((y1937.2.1.1,(y1937.2.1.2.1.1,y1937.2.1.2.1.2.1,y1937.2.1.2.1.2.2.1,y1937.2.1.2.1.2.2.2),y1937.2.1.2.2):Dq1),()))
      else none
     else none
    else none
   else
   (qap ((s1931.2.2.1.1,(s1931.2.2.1.2.1.1,s1931.2.2.1.2.1.2.1,s1931.2.2.1.2.1.2.2.1,s1931.2.2.1.2.1.2.2.2),s1931.2.2.1.2.2):Dq1) y1934.1.1).bind fun y1941 =>
   bif (! (iEq y1941.1.1 0)) then
    (qff y1941.1.1).bind fun y1943 =>
    bif strRoom ([101,114,114,111,114,32]) y1943.1.1 then
     let x1944:=strCat ([101,114,114,111,114,32]) y1943.1.1
     bif strRoom x1944 ([10]) then
      let x1945:=strCat x1944 ([10])
      bif strRoom s1931.1 x1945 then
       some (Sum.inl ((strCat s1931.1 x1945),(iAdd .i64 s1931.2.1 1),((y1941.2.1.1,(y1941.2.1.2.1.1,y1941.2.1.2.1.2.1,y1941.2.1.2.1.2.2.1,y1941.2.1.2.1.2.2.2),y1941.2.1.2.2):Dq1),()))
      else none
     else none
    else none
   else
   bif strRoom ([111,107]) ([10]) then
    let x1948:=strCat ([111,107]) ([10])
    bif strRoom s1931.1 x1948 then
     some (Sum.inl ((strCat s1931.1 x1948),(iAdd .i64 s1931.2.1 1),((y1941.2.1.1,(y1941.2.1.2.1.1,y1941.2.1.2.1.2.1,y1941.2.1.2.1.2.2.1,y1941.2.1.2.1.2.2.2),y1941.2.1.2.2):Dq1),()))
    else none
   else none
  else none
 else
 Option.map Sum.inr (some ((s1931.1,(0:Int),()),()))
def qd0 (y1913:Dq14) (s1964:(List UInt8×Int×Dq1×Unit)):Option ((List UInt8×Int×Dq1×Unit)⊕(Dq15×Unit)) :=
 bif (iLt s1964.2.1 (lenI y1913.1.1)) then
  bif inB s1964.2.1 (List.length y1913.1.1) then
   (qbl (List.getD y1913.1.1 s1964.2.1.toNat ([]:List UInt8))).bind fun y1967 =>
   bif (! (iEq y1967.1.2.1 0)) then
    bif inB s1964.2.1 (List.length y1913.1.1) then
     (qb5 ((s1964.2.2.1.1,(s1964.2.2.1.2.1.1,s1964.2.2.1.2.1.2.1,s1964.2.2.1.2.1.2.2.1,s1964.2.2.1.2.1.2.2.2),s1964.2.2.1.2.2):Dq1) (List.getD y1913.1.1 s1964.2.1.toNat ([]:List UInt8))).bind fun y1970 =>
     bif strRoom y1970.1.1 ([10]) then
      let x1971:=strCat y1970.1.1 ([10])
      bif strRoom s1964.1 x1971 then
       some (Sum.inl ((strCat s1964.1 x1971),(iAdd .i64 s1964.2.1 1),((y1970.2.1.1,(y1970.2.1.2.1.1,y1970.2.1.2.1.2.1,y1970.2.1.2.1.2.2.1,y1970.2.1.2.1.2.2.2),y1970.2.1.2.2):Dq1),()))
      else none
     else none
    else none
   else
   (qap ((s1964.2.2.1.1,(s1964.2.2.1.2.1.1,s1964.2.2.1.2.1.2.1,s1964.2.2.1.2.1.2.2.1,s1964.2.2.1.2.1.2.2.2),s1964.2.2.1.2.2):Dq1) y1967.1.1).bind fun y1974 =>
   bif (! (iEq y1974.1.1 0)) then
    (qff y1974.1.1).bind fun y1976 =>
    bif strRoom ([101,114,114,111,114,32]) y1976.1.1 then
     let x1977:=strCat ([101,114,114,111,114,32]) y1976.1.1
     bif strRoom x1977 ([10]) then
      let x1978:=strCat x1977 ([10])
      bif strRoom s1964.1 x1978 then
       some (Sum.inl ((strCat s1964.1 x1978),(iAdd .i64 s1964.2.1 1),((y1974.2.1.1,(y1974.2.1.2.1.1,y1974.2.1.2.1.2.1,y1974.2.1.2.1.2.2.1,y1974.2.1.2.1.2.2.2),y1974.2.1.2.2):Dq1),()))
      else none
     else none
    else none
   else
   bif strRoom ([111,107]) ([10]) then
    let x1981:=strCat ([111,107]) ([10])
    bif strRoom s1964.1 x1981 then
     some (Sum.inl ((strCat s1964.1 x1981),(iAdd .i64 s1964.2.1 1),((y1974.2.1.1,(y1974.2.1.2.1.1,y1974.2.1.2.1.2.1,y1974.2.1.2.1.2.2.1,y1974.2.1.2.1.2.2.2),y1974.2.1.2.2):Dq1),()))
    else none
   else none
  else none
 else
 Option.map Sum.inr (some ((s1964.1,(0:Int),()),()))
def qim (a0:Dq5) (a1:List UInt8):Option (Dq15×Unit) :=
 (qos a0).bind fun y1911 =>
 bif (! y1911.1.1) then some ((([]:List UInt8),(1:Int),()),()) else
 (qbz a1 (10:Int)).bind fun y1913 =>
 let x1914:=iSub .i64 (lenI y1913.1.1) 1
 bif inB x1914 (List.length y1913.1.1) then
  bif (sEq (List.getD y1913.1.1 x1914.toNat ([]:List UInt8)) ([])) then
   let x1917:=iSub .i64 (lenI y1913.1.1) 1
   bif inS 0 x1917 (List.length y1913.1.1) then
    bif (iLt 10000 (lenI a1)) then some ((([]:List UInt8),(2:Int),()),()) else
    bif (iLt 120 ((x1917.toNat:Nat):Int)) then some ((([]:List UInt8),(2:Int),()),()) else
    (qfh a0).bind fun y1920 =>
    run (qe3 x1917 y1913) (([]:List UInt8),(0:Int),((y1920.1.1.1,(y1920.1.1.2.1.1,y1920.1.1.2.1.2.1,y1920.1.1.2.1.2.2.1,y1920.1.1.2.1.2.2.2),y1920.1.1.2.2):Dq1),())
   else none
  else
  bif (iLt 10000 (lenI a1)) then some ((([]:List UInt8),(2:Int),()),()) else
  bif (iLt 120 (lenI y1913.1.1)) then some ((([]:List UInt8),(2:Int),()),()) else
  (qfh a0).bind fun y1953 =>
  run (qd0 y1913) (([]:List UInt8),(0:Int),((y1953.1.1.1,(y1953.1.1.2.1.1,y1953.1.1.2.1.2.1,y1953.1.1.2.1.2.2.1,y1953.1.1.2.1.2.2.2),y1953.1.1.2.2):Dq1),())
 else none
def qrr:Entry:=⟨⟨[.v Uq2,.v (.str)],[.v (.val (.str)),.v (.val (.int .i64))],false⟩,fun x=>qim x.1 x.2.1⟩
theorem qz6:Sound Tryz.prog G 37 qrr:=qab (envS (l:=[(78,qxn),(79,qeo),(80,qmy),(81,qs0),(82,qnb),(83,qlr),(84,qsy)]) ⟨(qagf),(qgi),(qs5),(qabf),(qv7),(qrw),(qabc),trivial⟩) [(1000008,.frz [2]),(11,.vary [(8,.sc (.str)),(9,.sc (.int .i64)),(7,.box (.pair (.ro Uq2) (.pair (.pair (.rows Uq3) (.pair (.rows Uq3) (.pair (.rows Uq6) (.val (.unit))))) (.val (.unit)))))])] Tryz.func37 (by kernel_rfl) rfl fun _=>by kernel_rfl
def qid (a0:Dq5) (a1:(List Dq6)):Option ((Dq17×Int×Int×Unit)×Unit) :=
 (qg6 a0 a1).bind fun y2087 =>
 bif (! (iEq y2087.1.1 0)) then
  some (((([],[],[],()):Dq17),(0:Int),y2087.1.1,()),())
 else
 (qr1 a0 a1).bind fun y2089 =>
 some ((((y2089.1.1.2.1.1,y2089.1.1.2.1.2.1,y2089.1.1.2.1.2.2.1,y2089.1.1.2.1.2.2.2):Dq17),y2089.1.2.1,(0:Int),()),())
def qri:Entry:=⟨⟨[.v Uq2,.v (.list Uq5)],[.v (.pair (.rows Uq3) (.pair (.rows Uq3) (.pair (.rows Uq6) (.val (.unit))))),.v (.val (.int .i64)),.v (.val (.int .i64))],true⟩,fun x=>qid x.1 x.2.1⟩
theorem qzx (mx:GMax 4 G) (tb:GTab Tryz.prog G) (sy:GErr 1 G) (ra:GErr 2 G) (db:GDeb Tryz.prog G):Sound Tryz.prog G 12 qri:=qab (envS (l:=[(41,qkn),(42,qxd)]) ⟨(qqo),(qaf5 mx tb sy ra db),trivial⟩) [] Tryz.func12 (by kernel_rfl) rfl fun _=>by kernel_rfl
def qu0 (a0:(List Int)) (a1:(List Int)):Option Dq8 :=
 bif (iLt 3000 (lenI a0)) then some ((true,()),()) else
 some (((iLt 3000 (lenI a1)),()),())
def qvn:Entry:=⟨⟨[.v (.list (.int .u8)),.v (.list (.int .u8))],[.v (.val (.bool))],false⟩,fun x=>qu0 x.1 x.2.1⟩
theorem qad1:Sound Tryz.prog G 9 qvn:=qab (envS (l:=[]) trivial) [] Tryz.func9 (by kernel_rfl) rfl fun _=>by kernel_rfl
def qn7 (a0:(List Int)):Option ((Dq9×Unit)×Unit) :=
 some ((((a0,0,0,()):Dq9),()),())
def qn8:Entry:=⟨⟨[.v (.list (.int .u8))],[.p (.val Uq7)],true⟩,fun x=>qn7 x.1⟩
theorem que:Sound Tryz.prog G 39 qn8:=qab (envS (l:=[]) trivial) [] Tryz.func39 (by kernel_rfl) rfl fun _=>by kernel_rfl
def qen (a0:Dq9):Option ((Int×Unit)×(Dq9×Unit)) :=
 bif (iLt a0.2.1 (lenI a0.1)) then
  bif inB a0.2.1 (List.length a0.1) then
   let x2163:=iWrap .i64 (List.getD a0.1 a0.2.1.toNat (0:Int))
   let x2164:=iAdd .i64 a0.2.1 1
   let x2168:=iAdd .u64 (iAdd .u64 (iMul .u64 a0.2.2.1 6364136223846793005) (iWrap .u64 x2163)) 1442695040888963407
   bif (iLe x2164 (lenI a0.1)) then some ((x2163,()),(((a0.1,x2164,x2168,a0.2.2.2):Dq9),())) else
   some (((iWrap .i64 (iAnd .u64 (iShr .u64 x2168 40) 255)),()),(((a0.1,x2164,x2168,a0.2.2.2):Dq9),()))
  else none
 else
 let x2173:=iAdd .i64 a0.2.1 1
 let x2176:=iAdd .u64 (iAdd .u64 (iMul .u64 a0.2.2.1 6364136223846793005) 0) 1442695040888963407
 bif (iLe x2173 (lenI a0.1)) then some (((0:Int),()),(((a0.1,x2173,x2176,a0.2.2.2):Dq9),())) else
 some (((iWrap .i64 (iAnd .u64 (iShr .u64 x2176 40) 255)),()),(((a0.1,x2173,x2176,a0.2.2.2):Dq9),()))
def qo9:Entry:=⟨⟨[.io (.val Uq7)],[.v (.val (.int .i64))],true⟩,fun x=>qen x.1⟩
theorem qxx:Sound Tryz.prog G 125 qo9:=qab (envS (l:=[]) trivial) [] Tryz.func125 (by kernel_rfl) rfl fun _=>by kernel_rfl
def qag (a0:Dq9) (a1:Int):Option ((Int×Unit)×(Dq9×Unit)) :=
 bif (iLe a1 1) then some (((0:Int),()),(a0,())) else
 (qen a0).bind fun y2154 =>
 bif (iLt 200 a1) then
  (qen y2154.2.1).bind fun y2157 =>
  bif iEq a1 0 then none else
  some (((iRem .i64 (iAdd .i64 (iMul .i64 y2154.1.1 256) y2157.1.1) a1),()),(y2157.2.1,()))
 else
 bif iEq a1 0 then none else
 some (((iRem .i64 y2154.1.1 a1),()),(y2154.2.1,()))
def qej:Entry:=⟨⟨[.io (.val Uq7),.v (.int .i64)],[.v (.val (.int .i64))],true⟩,fun x=>qag x.1 x.2.1⟩
theorem qgt:Sound Tryz.prog G 86 qej:=qab (envS (l:=[(125,qo9)]) ⟨(qxx),trivial⟩) [] Tryz.func86 (by kernel_rfl) rfl fun _=>by kernel_rfl
def qia (a0:Dq9) (a1:(List Int)):Option ((Int×Unit)×(Dq9×Unit)) :=
 (qag a0 (lenI a1)).bind fun y2151 =>
 bif inB y2151.1.1 (List.length a1) then
  some (((List.getD a1 y2151.1.1.toNat (0:Int)),()),(y2151.2.1,()))
 else none
def qn9:Entry:=⟨⟨[.io (.val Uq7),.v (.list (.int .i64))],[.v (.val (.int .i64))],true⟩,fun x=>qia x.1 x.2.1⟩
theorem qw6:Sound Tryz.prog G 87 qn9:=qab (envS (l:=[(86,qej)]) ⟨(qgt),trivial⟩) [] Tryz.func87 (by kernel_rfl) rfl fun _=>by kernel_rfl
def qgl (a1:Dq5) (s2115:((List Dq6)×Int×Dq9×Dq1×Unit)):Option (((List Dq6)×Int×Dq9×Dq1×Unit)⊕(((List Dq6)×Unit)×(Dq9×Unit))) :=
 bif (iLt 0 s2115.2.1) then
  (qia s2115.2.2.1 ([1,1,1,2,2,3,3,3,4,5,6,7]:(List Int))).bind fun y2117 =>
  (qag y2117.2.1 (lenI a1.2.2.1)).bind fun y2118 =>
  bif (iEq y2117.1.1 2) then
   (qag y2118.2.1 (lenI a1.2.2.1)).bind fun y2120 =>
   bif room (List.length s2115.1+1) 24 then
    (qap ((s2115.2.2.2.1.1,(s2115.2.2.2.1.2.1.1,s2115.2.2.2.1.2.1.2.1,s2115.2.2.2.1.2.1.2.2.1,s2115.2.2.2.1.2.1.2.2.2),s2115.2.2.2.1.2.2):Dq1) ((y2117.1.1,y2118.1.1,y2120.1.1,()):Dq6)).bind fun y2122 =>
    some (Sum.inl ((s2115.1++([(y2117.1.1,y2118.1.1,y2120.1.1,())]:(List Dq6))),(iSub .i64 s2115.2.1 1),y2120.2.1,((y2122.2.1.1,(y2122.2.1.2.1.1,y2122.2.1.2.1.2.1,y2122.2.1.2.1.2.2.1,y2122.2.1.2.1.2.2.2),y2122.2.1.2.2):Dq1),()))
   else none
  else
  let x2124:=iEq y2117.1.1 3
  bif x2124 then
   bif x2124 then
    (qdq (lenI s2115.2.2.2.1.2.1.2.2.1) (1:Int)).bind fun y2125 =>
    (qag y2118.2.1 y2125.1.1).bind fun y2126 =>
    bif room (List.length s2115.1+1) 24 then
     (qap ((s2115.2.2.2.1.1,(s2115.2.2.2.1.2.1.1,s2115.2.2.2.1.2.1.2.1,s2115.2.2.2.1.2.1.2.2.1,s2115.2.2.2.1.2.1.2.2.2),s2115.2.2.2.1.2.2):Dq1) ((y2117.1.1,y2126.1.1,0,()):Dq6)).bind fun y2128 =>
     some (Sum.inl ((s2115.1++([(y2117.1.1,y2126.1.1,0,())]:(List Dq6))),(iSub .i64 s2115.2.1 1),y2126.2.1,((y2128.2.1.1,(y2128.2.1.2.1.1,y2128.2.1.2.1.2.1,y2128.2.1.2.1.2.2.1,y2128.2.1.2.1.2.2.2),y2128.2.1.2.2):Dq1),()))
    else none
   else
   bif room (List.length s2115.1+1) 24 then
    (qap ((s2115.2.2.2.1.1,(s2115.2.2.2.1.2.1.1,s2115.2.2.2.1.2.1.2.1,s2115.2.2.2.1.2.1.2.2.1,s2115.2.2.2.1.2.1.2.2.2),s2115.2.2.2.1.2.2):Dq1) ((y2117.1.1,y2118.1.1,0,()):Dq6)).bind fun y2131 =>
    some (Sum.inl ((s2115.1++([(y2117.1.1,y2118.1.1,0,())]:(List Dq6))),(iSub .i64 s2115.2.1 1),y2118.2.1,((y2131.2.1.1,(y2131.2.1.2.1.1,y2131.2.1.2.1.2.1,y2131.2.1.2.1.2.2.1,y2131.2.1.2.1.2.2.2),y2131.2.1.2.2):Dq1),()))
   else none
  else
  let x2133:=iEq y2117.1.1 4
  bif x2133 then
   bif x2133 then
    (qdq (lenI s2115.2.2.2.1.2.1.2.2.1) (1:Int)).bind fun y2134 =>
    (qag y2118.2.1 y2134.1.1).bind fun y2135 =>
    bif room (List.length s2115.1+1) 24 then
     (qap ((s2115.2.2.2.1.1,(s2115.2.2.2.1.2.1.1,s2115.2.2.2.1.2.1.2.1,s2115.2.2.2.1.2.1.2.2.1,s2115.2.2.2.1.2.1.2.2.2),s2115.2.2.2.1.2.2):Dq1) ((y2117.1.1,y2135.1.1,0,()):Dq6)).bind fun y2137 =>
     some (Sum.inl ((s2115.1++([(y2117.1.1,y2135.1.1,0,())]:(List Dq6))),(iSub .i64 s2115.2.1 1),y2135.2.1,((y2137.2.1.1,(y2137.2.1.2.1.1,y2137.2.1.2.1.2.1,y2137.2.1.2.1.2.2.1,y2137.2.1.2.1.2.2.2),y2137.2.1.2.2):Dq1),()))
    else none
   else
   bif room (List.length s2115.1+1) 24 then
    (qap ((s2115.2.2.2.1.1,(s2115.2.2.2.1.2.1.1,s2115.2.2.2.1.2.1.2.1,s2115.2.2.2.1.2.1.2.2.1,s2115.2.2.2.1.2.1.2.2.2),s2115.2.2.2.1.2.2):Dq1) ((y2117.1.1,y2118.1.1,0,()):Dq6)).bind fun y2140 =>
    some (Sum.inl ((s2115.1++([(y2117.1.1,y2118.1.1,0,())]:(List Dq6))),(iSub .i64 s2115.2.1 1),y2118.2.1,((y2140.2.1.1,(y2140.2.1.2.1.1,y2140.2.1.2.1.2.1,y2140.2.1.2.1.2.2.1,y2140.2.1.2.1.2.2.2),y2140.2.1.2.2):Dq1),()))
   else none
  else
  bif (iEq y2117.1.1 5) then
   (qdq (lenI s2115.2.2.2.1.2.1.2.2.1) (1:Int)).bind fun y2143 =>
   (qag y2118.2.1 y2143.1.1).bind fun y2144 =>
   bif room (List.length s2115.1+1) 24 then
    (qap ((s2115.2.2.2.1.1,(s2115.2.2.2.1.2.1.1,s2115.2.2.2.1.2.1.2.1,s2115.2.2.2.1.2.1.2.2.1,s2115.2.2.2.1.2.1.2.2.2),s2115.2.2.2.1.2.2):Dq1) ((y2117.1.1,y2144.1.1,0,()):Dq6)).bind fun y2146 =>
    some (Sum.inl ((s2115.1++([(y2117.1.1,y2144.1.1,0,())]:(List Dq6))),(iSub .i64 s2115.2.1 1),y2144.2.1,((y2146.2.1.1,(y2146.2.1.2.1.1,y2146.2.1.2.1.2.1,y2146.2.1.2.1.2.2.1,y2146.2.1.2.1.2.2.2),y2146.2.1.2.2):Dq1),()))
   else none
  else
  bif room (List.length s2115.1+1) 24 then
   (qap ((s2115.2.2.2.1.1,(s2115.2.2.2.1.2.1.1,s2115.2.2.2.1.2.1.2.1,s2115.2.2.2.1.2.1.2.2.1,s2115.2.2.2.1.2.1.2.2.2),s2115.2.2.2.1.2.2):Dq1) ((y2117.1.1,y2118.1.1,0,()):Dq6)).bind fun y2149 =>
   some (Sum.inl ((s2115.1++([(y2117.1.1,y2118.1.1,0,())]:(List Dq6))),(iSub .i64 s2115.2.1 1),y2118.2.1,((y2149.2.1.1,(y2149.2.1.2.1.1,y2149.2.1.2.1.2.1,y2149.2.1.2.1.2.2.1,y2149.2.1.2.1.2.2.2),y2149.2.1.2.2):Dq1),()))
  else none
 else
 Option.map Sum.inr (some ((s2115.1,()),(s2115.2.2.1,())))
def qra (a0:Dq9) (a1:Dq5) (a2:Int):Option (((List Dq6)×Unit)×(Dq9×Unit)) :=
 (qfh a1).bind fun y2094 =>
 (qag a0 (iAdd .i64 a2 1)).bind fun y2096 =>
 run (qgl a1) (([]:(List Dq6)),y2096.1.1,y2096.2.1,((y2094.1.1.1,(y2094.1.1.2.1.1,y2094.1.1.2.1.2.1,y2094.1.1.2.1.2.2.1,y2094.1.1.2.1.2.2.2),y2094.1.1.2.2):Dq1),())
def qs6:Entry:=⟨⟨[.io (.val Uq7),.ro Uq2,.v (.int .i64)],[.v (.rows Uq5)],true⟩,fun x=>qra x.1 x.2.1 x.2.2.1⟩
theorem qabj:Sound Tryz.prog G 40 qs6:=qab (envS (l:=[(80,qmy),(83,qlr),(86,qej),(87,qn9),(88,qpt)]) ⟨(qs5),(qrw),(qgt),(qw6),(qvw),trivial⟩) [(5,.vary [(7,.rows Uq5),(10,.sc (.int .i64)),(0,.box (.val Uq7)),(8,.box (.pair (.ro Uq2) (.pair (.pair (.rows Uq3) (.pair (.rows Uq3) (.pair (.rows Uq6) (.val (.unit))))) (.val (.unit)))))])] Tryz.func40 (by kernel_rfl) rfl fun _=>by kernel_rfl
def qn3 (a0:(List Int)) (a1:Dq5):Option (((List Dq6)×Unit)×Unit) :=
 (qn7 a0).bind fun y2092 =>
 (qra y2092.1.1 a1 (24:Int)).bind fun y2093 =>
 some ((y2093.1.1,()),())
def qt8:Entry:=⟨⟨[.v (.list (.int .u8)),.v Uq2],[.v (.val (.list Uq5))],true⟩,fun x=>qn3 x.1 x.2.1⟩
theorem qac2:Sound Tryz.prog G 11 qt8:=qab (envS (l:=[(39,qn8),(40,qs6)]) ⟨(que),(qabj),trivial⟩) [] Tryz.func11 (by kernel_rfl) rfl fun _=>by kernel_rfl
def qlq (a0:Dq9):Option ((Nat×Unit)×(Dq9×Unit)) :=
 (qag a0 (4:Int)).bind fun y2328 =>
 some (((fDiv .f32 (fOfInt .f32 (iAdd .i64 1 y2328.1.1)) 1073741824),()),(y2328.2.1,()))
def qol:Entry:=⟨⟨[.io (.val Uq7)],[.v (.val (.flt .f32))],true⟩,fun x=>qlq x.1⟩
theorem qw7:Sound Tryz.prog G 85 qol:=qab (envS (l:=[(86,qej)]) ⟨(qgt),trivial⟩) [] Tryz.func85 (by kernel_rfl) rfl fun _=>by kernel_rfl
def qgn (s2281:(Int×Dq9×Dq5×Unit)) (s2305:((List Dq11)×Int×Dq9×Unit)):Option (((List Dq11)×Int×Dq9×Unit)⊕((Int×Dq9×Dq5×Unit)⊕((Dq5×Unit)×(Dq9×Unit)))) :=
 bif (iLt 0 s2305.2.1) then
  (qag s2305.2.2.1 (8:Int)).bind fun y2307 =>
  (qag y2307.2.1 (20:Int)).bind fun y2311 =>
  (qag y2311.2.1 (33:Int)).bind fun y2312 =>
  (qag y2312.2.1 (33:Int)).bind fun y2316 =>
  (qag y2316.2.1 (33:Int)).bind fun y2320 =>
  bif room (List.length s2305.1+1) 24 then
   some (Sum.inl ((s2305.1++([(((fDiv .f32 (fOfInt .f32 (iSub .i64 y2312.1.1 16)) 1090519040),(fDiv .f32 (fOfInt .f32 (iSub .i64 y2316.1.1 16)) 1090519040),(fDiv .f32 (fOfInt .f32 (iSub .i64 y2320.1.1 16)) 1090519040),()),(fDiv .f32 (fOfInt .f32 (iAdd .i64 1 y2307.1.1)) 1082130432),y2311.1.1,())]:(List Dq11))),(iSub .i64 s2305.2.1 1),y2320.2.1,()))
  else none
 else
 Option.map Sum.inr (
  bif room (List.length s2281.2.2.1.2.2.1+1) 24 then
   some (Sum.inl ((iSub .i64 s2281.1 1),s2305.2.2.1,((s2281.2.2.1.1,s2281.2.2.1.2.1,(s2281.2.2.1.2.2.1++([s2305.1]:(List (List Dq11)))),s2281.2.2.1.2.2.2):Dq5),()))
  else none)
def qgm (s2281:(Int×Dq9×Dq5×Unit)):Option ((Int×Dq9×Dq5×Unit)⊕((Dq5×Unit)×(Dq9×Unit))) :=
 bif (iLt 0 s2281.1) then
  (qag s2281.2.1 (6:Int)).bind fun y2283 =>
  run (qgn s2281) (([]:(List Dq11)),y2283.1.1,y2283.2.1,())
 else
 Option.map Sum.inr (some ((((s2281.2.2.1.1,s2281.2.2.1.2.1,s2281.2.2.1.2.2.1,s2281.2.2.1.2.2.2):Dq5),()),(s2281.2.1,())))
def qrb (a0:Dq9):Option ((Dq5×Unit)×(Dq9×Unit)) :=
 (qlq a0).bind fun y2183 =>
 (qag y2183.2.1 (5:Int)).bind fun y2184 =>
 (qag y2184.2.1 (3:Int)).bind fun y2187 =>
 run (qgm) ((iAdd .i64 1 y2187.1.1),y2187.2.1,((y2183.1.1,(fDiv .f32 (fOfInt .f32 y2184.1.1) 1082130432),[],()):Dq5),())
def qs7:Entry:=⟨⟨[.io (.val Uq7)],[.v (.pair (.val (.flt .f32)) (.pair (.val (.flt .f32)) (.pair (.rows (.list Uq11)) (.val (.unit)))))],true⟩,fun x=>qrb x.1⟩
theorem qabk:Sound Tryz.prog G 38 qs7:=qab (envS (l:=[(85,qol),(86,qej)]) ⟨(qw7),(qgt),trivial⟩) [(3,.vary [(4,.sc (.int .i64)),(0,.box (.val Uq7)),(3,.box (.pair (.val (.flt .f32)) (.pair (.val (.flt .f32)) (.pair (.rows (.list Uq11)) (.val (.unit))))))]),(7,.vary [(5,.rows Uq11),(6,.sc (.int .i64)),(0,.box (.val Uq7))]),(11,.unroll 4)] Tryz.func38 (by kernel_rfl) rfl fun _=>by kernel_rfl
def qn4 (a0:(List Int)):Option ((Dq5×Unit)×Unit) :=
 (qn7 a0).bind fun y2181 =>
 (qrb y2181.1.1).bind fun y2182 =>
 some ((((y2182.1.1.1,y2182.1.1.2.1,y2182.1.1.2.2.1,y2182.1.1.2.2.2):Dq5),()),())
def qt9:Entry:=⟨⟨[.v (.list (.int .u8))],[.v (.val Uq2)],true⟩,fun x=>qn4 x.1⟩
theorem qac3:Sound Tryz.prog G 10 qt9:=qab (envS (l:=[(38,qs7),(39,qn8)]) ⟨(qabk),(que),trivial⟩) [] Tryz.func10 (by kernel_rfl) rfl fun _=>by kernel_rfl
def ql6 (a0:Dq6):Option (Dq10×Unit) :=
 (qir a0).bind fun y2332 =>
 bif (! y2332.1.1) then some ((([]:List UInt8),()),()) else
 (qjt).bind fun y2334 =>
 bif inB a0.1 (List.length y2334.1.1) then
  let x2335:=List.getD y2334.1.1 a0.1.toNat ([]:List UInt8)
  bif strRoom x2335 ([32]) then
   let x2336:=strCat x2335 ([32])
   (qb2 a0.2.1).bind fun y2337 =>
   bif strRoom x2336 y2337.1.1 then
    let x2338:=strCat x2336 y2337.1.1
    bif inB a0.1 (List.length y2334.1.2.1) then
     bif (iLt 1 (List.getD y2334.1.2.1 a0.1.toNat (0:Int))) then
      (qb2 a0.2.2.1).bind fun y2341 =>
      bif strRoom ([32]) y2341.1.1 then
       let x2342:=strCat ([32]) y2341.1.1
       bif strRoom x2338 x2342 then
        some (((strCat x2338 x2342),()),())
       else none
      else none
     else some ((x2338,()),())
    else none
   else none
  else none
 else none
def qsz:Entry:=⟨⟨[.v Uq5],[.v (.val (.str))],false⟩,fun x=>ql6 x.1⟩
theorem qabe:Sound Tryz.prog G 35 qsz:=qab (envS (l:=[(71,qoq),(72,qmz),(73,qhh)]) ⟨(quu),(qs9),(qj8),trivial⟩) [] Tryz.func35 (by kernel_rfl) rfl fun _=>by kernel_rfl
def qba (y2059:(Dq15×Unit)) (y2041:((Dq17×Int×Int×Unit)×Unit)) (y2040:(((List Dq6)×Unit)×Unit)) (y2042:Dq23) (y2039:((Dq5×Unit)×Unit)) (s2064:(Int×Int×Int×Unit)):Option ((Int×Int×Int×Unit)⊕Dq8) :=
 bif (iLt s2064.2.2.1 (lenI y2059.1.1)) then
  bif inB s2064.2.2.1 (List.length y2059.1.1) then
   bif (iEq (strAt y2059.1.1 s2064.2.2.1) 10) then
    bif inS s2064.2.1 s2064.2.2.1 (List.length y2059.1.1) then
     bif (sEq (subL y2059.1.1 s2064.2.1 s2064.2.2.1) ([111,107])) then
      some (Sum.inl ((iAdd .i64 s2064.1 1),(iAdd .i64 s2064.2.2.1 1),(iAdd .i64 s2064.2.2.1 1),()))
     else
     some (Sum.inl (s2064.1,(iAdd .i64 s2064.2.2.1 1),(iAdd .i64 s2064.2.2.1 1),()))
    else none
   else
   some (Sum.inl (s2064.1,s2064.2.1,(iAdd .i64 s2064.2.2.1 1),()))
  else none
 else
 Option.map Sum.inr (
  bif (! (iEq s2064.1 y2041.1.2.1)) then some ((false,()),()) else
  bif (iEq y2041.1.2.1 (lenI y2040.1.1)) then
   some (((iEq y2042.1.2.2.1 6),()),())
  else
  bif (! (iEq y2042.1.2.2.1 0)) then some ((false,()),()) else
  bif (iEq y2042.1.2.1 0) then some ((false,()),()) else
  bif (iLt y2042.1.1 0) then some ((false,()),()) else
  bif (iLe (lenI y2040.1.1) y2042.1.1) then some ((false,()),()) else
  bif inS 0 y2042.1.1 (List.length y2040.1.1) then
   (qid y2039.1.1 (takeL y2040.1.1 y2042.1.1)).bind fun y2084 =>
   bif (iEq y2084.1.2.2.1 0) then
    some (((iEq y2084.1.2.1 y2042.1.1),()),())
   else some ((false,()),())
  else none)
def qdv (y2040:(((List Dq6)×Unit)×Unit)) (y2039:((Dq5×Unit)×Unit)) (y2041:((Dq17×Int×Int×Unit)×Unit)) (y2042:Dq23) (s2043:Dq15):Option (Dq15⊕Dq8) :=
 bif (iLt s2043.2.1 (lenI y2040.1.1)) then
  bif inB s2043.2.1 (List.length y2040.1.1) then
   (qgx (List.getD y2040.1.1 s2043.2.1.toNat Lq6)).bind fun y2046 =>
   (qc3 y2046.1.1).bind fun y2047 =>
   bif (! (iEq y2047.1.2.1 0)) then
    Option.map Sum.inr (some ((false,()),()))
   else
   bif inB s2043.2.1 (List.length y2040.1.1) then
    let x2049:=List.getD y2040.1.1 s2043.2.1.toNat Lq6
    bif (! (iEq y2047.1.1.1 x2049.1&&(iEq y2047.1.1.2.1 x2049.2.1&&(iEq y2047.1.1.2.2.1 x2049.2.2.1&&true)))) then
     Option.map Sum.inr (some ((false,()),()))
    else
    (qf0 y2047.1.1).bind fun y2051 =>
    bif (! y2051.1.1) then
     Option.map Sum.inr (some ((false,()),()))
    else
    bif inB s2043.2.1 (List.length y2040.1.1) then
     (ql6 (List.getD y2040.1.1 s2043.2.1.toNat Lq6)).bind fun y2054 =>
     bif strRoom y2054.1.1 ([10]) then
      let x2055:=strCat y2054.1.1 ([10])
      bif strRoom s2043.1 x2055 then
       some (Sum.inl ((strCat s2043.1 x2055),(iAdd .i64 s2043.2.1 1),()))
      else none
     else none
    else none
   else none
  else none
 else
 Option.map Sum.inr (
  bif strRoom s2043.1 ([97,103,114,101,101,100,10,109,97,114,107,115,32,48,10,119,104,97,116,32,105,115,32,116,104,105,115]) then
   let x2058:=strCat s2043.1 ([97,103,114,101,101,100,10,109,97,114,107,115,32,48,10,119,104,97,116,32,105,115,32,116,104,105,115])
   (qk6 y2039.1.1 x2058).bind fun y2059 =>
   (qim y2039.1.1 x2058).bind fun y2060 =>
   bif (! (iEq y2041.1.2.2.1 0)) then some ((false,()),()) else
   bif (! (iEq y2059.1.2.1 0)) then some ((false,()),()) else
   bif (! (sEq y2059.1.1 y2060.1.1)) then some ((false,()),()) else run (qba y2059 y2041 y2040 y2042 y2039) ((0:Int),(0:Int),(0:Int),())
  else none)
def qlp (a0:(List Int)) (a1:(List Int)):Option Dq8 :=
 (qu0 a0 a1).bind fun y2038 =>
 bif y2038.1.1 then some ((true,()),()) else
 (qn4 a0).bind fun y2039 =>
 (qn3 a1 y2039.1.1).bind fun y2040 =>
 (qid y2039.1.1 y2040.1.1).bind fun y2041 =>
 (qi3 y2039.1.1 y2040.1.1).bind fun y2042 =>
 run (qdv y2040 y2039 y2041 y2042) (([]:List UInt8),(0:Int),())
def qnv:Entry:=⟨⟨[.v (.list (.int .u8)),.v (.list (.int .u8))],[.v (.val (.bool))],false⟩,fun x=>qlp x.1 x.2.1⟩
theorem qww (mx:GMax 4 G) (tb:GTab Tryz.prog G) (sy:GErr 1 G) (ra:GErr 2 G) (db:GDeb Tryz.prog G):Sound Tryz.prog G 7 qnv:=qab (envS (l:=[(9,qvn),(10,qt9),(11,qt8),(12,qri),(28,qo4),(32,qmm),(33,qmk),(34,qh6),(35,qsz),(36,qrh),(37,qrr)]) ⟨(qad1),(qac3),(qac2),(qzx mx tb sy ra db),(qxs mx tb sy ra db),(qsm mx tb sy ra),(qsj mx tb),(qlj),(qabe),(qzw mx tb sy ra db),(qz6),trivial⟩) [(9,.vary [(13,.sc (.str)),(14,.sc (.int .i64))]),(23,.vary [(21,.sc (.int .i64)),(22,.sc (.int .i64)),(23,.sc (.int .i64))])] Tryz.func7 (by kernel_rfl) rfl fun _=>by kernel_rfl
end
end Go.Proofs.YtjhdoneobdbeaaaGreatDoor
