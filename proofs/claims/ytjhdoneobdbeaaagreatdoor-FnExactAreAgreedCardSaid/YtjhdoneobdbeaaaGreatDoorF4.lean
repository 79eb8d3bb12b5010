import Derived.Test.YtjhdoneobdbeaaaGreatDoorF3
/- Functions on typed data: what the evaluation of each Go function is, and that it is sound. -/
set_option linter.unusedVariables false
namespace Go.Proofs.YtjhdoneobdbeaaaGreatDoor
open Go Go.Tm
noncomputable section
set_option maxRecDepth 100000
variable {G : List (Nat × Obj)}
def qlo (a0:Dq3) (a1:Dq3):Option Dq7 :=
 (qa1 a0.1 a1.1).bind fun y1718 =>
 bif y1718.1.1 then
  (qbq a0.2.1 a1.2.1 (fun (z1719:(Dq2×Dq2×Unit))=>(qhp z1719.1 z1719.2.1).map fun y=>y.1.1)).bind fun y1720 =>
  some ((y1720.1.1,()),())
 else some ((false,()),())
def qrl:Entry:=⟨⟨[.v Uq6,.v Uq6],[.v (.val (.bool))],false⟩,fun x=>qlo x.1 x.2.1⟩
theorem qz8:Sound Tryz.prog G 103 qrl:=qab (envS (l:=[(141,qcr),(142,qf6),(143,qqq)]) ⟨(qdr),(qm2),(qy7),trivial⟩) [] Tryz.func103 (by kernel_rfl) rfl fun _=>by kernel_rfl
def qec (a0:Dq8) (a1:Dq3):Option Dq7 :=
 (qlo a0.1 a1).bind fun y1716 =>
 some (((! y1716.1.1),()),())
def qjo:Entry:=⟨⟨[.v Uq3,.ro Uq6],[.v (.val (.bool))],false⟩,fun x=>qec x.1 x.2.1⟩
theorem qrc:Sound Tryz.prog G 102 qjo:=qab (envS (l:=[(103,qrl)]) ⟨(qz8),trivial⟩) [] Tryz.func102 (by kernel_rfl) rfl fun _=>by kernel_rfl
def qdf (a0:(List Dq8)) (a1:((Dq8×Unit)→Option Bool)) (s1748:(Int×Unit)):Option ((Int×Unit)⊕Dq11) :=
 bif (iLt s1748.1 (lenI a0)) then
  bif inB s1748.1 (List.length a0) then
   (a1 ((List.getD a0 s1748.1.toNat Lq3),())).bind fun y1751 =>
   bif y1751 then
    Option.map Sum.inr (some ((s1748.1,()),()))
   else
   some (Sum.inl ((iAdd .i64 s1748.1 1),()))
  else none
 else
 Option.map Sum.inr (some ((Lq6,()),()))
def qck (a0:(List Dq8)) (a1:((Dq8×Unit)→Option Bool)):Option Dq11 :=
 run (qdf a0 a1) ((0:Int),())
def qf8:Entry:=⟨⟨[.v (.list Uq3),.fn ⟨[.pair Uq6 Uq8],.bool⟩],[.v (.val (.int .i64))],false⟩,fun x=>qck x.1 x.2.1⟩
theorem qm6:Sound Tryz.prog G 140 qf8:=qab (envS (l:=[]) trivial) [(2,.vary [(8,.sc (.int .i64))])] Tryz.func140 (by kernel_rfl) rfl fun _=>by kernel_rfl
def qbf (a0:(List Dq8)) (a1:((Dq8×Unit)→Option Bool)):Option Dq7 :=
 (qck a0 a1).bind fun y1746 =>
 some (((iLe 0 y1746.1.1),()),())
def qey:Entry:=⟨⟨[.v (.list Uq3),.fn ⟨[.pair Uq6 Uq8],.bool⟩],[.v (.val (.bool))],false⟩,fun x=>qbf x.1 x.2.1⟩
theorem qk2:Sound Tryz.prog G 101 qey:=qab (envS (l:=[(140,qf8)]) ⟨(qm6),trivial⟩) [] Tryz.func101 (by kernel_rfl) rfl fun _=>by kernel_rfl
def qdt (a0:Dq1):Option ((Bool×Unit)×(Dq1×Unit)) :=
 bif inB 0 (List.length a0.2.1.1) then
  (qbf a0.2.1.1 (fun (z1713:(Dq8×Unit))=>(qec z1713.1 ((List.getD a0.2.1.1 0 Lq3).1)).map fun y=>y.1.1)).bind fun y1714 =>
  some (((! y1714.1.1),()),(((a0.1,(a0.2.1.1,a0.2.1.2.1,a0.2.1.2.2.1,a0.2.1.2.2.2),a0.2.2):Dq1),()))
 else none
def qla:Entry:=⟨⟨[.io (.pair (.val Uq2) (.pair (.pair (.rows Uq3) (.pair (.rows Uq3) (.pair (.rows Uq7) (.val (.unit))))) (.val (.unit))))],[.v (.val (.bool))],true⟩,fun x=>qdt x.1⟩
theorem qti:Sound Tryz.prog G 53 qla:=qab (envS (l:=[(101,qey),(102,qjo)]) ⟨(qk2),(qrc),trivial⟩) [] Tryz.func53 (by kernel_rfl) rfl fun _=>by kernel_rfl
def qhm (a1:(List Dq6)) (s1761:(Int×Int×Dq1×Unit)):Option ((Int×Int×Dq1×Unit)⊕((Dq1×Int×Unit)×Unit)) :=
 bif (iLt s1761.2.1 (lenI a1)) then
  bif inB s1761.2.1 (List.length a1) then
   (qcv ((s1761.2.2.1.1,(s1761.2.2.1.2.1.1,s1761.2.2.1.2.1.2.1,s1761.2.2.1.2.1.2.2.1,s1761.2.2.1.2.1.2.2.2),s1761.2.2.1.2.2):Dq1) (List.getD a1 s1761.2.1.toNat Lq10)).bind fun y1764 =>
   bif (iEq y1764.1.1 0) then
    some (Sum.inl ((iAdd .i64 s1761.1 1),(iAdd .i64 s1761.2.1 1),((y1764.2.1.1,(y1764.2.1.2.1.1,y1764.2.1.2.1.2.1,y1764.2.1.2.1.2.2.1,y1764.2.1.2.1.2.2.2),y1764.2.1.2.2):Dq1),()))
   else
   some (Sum.inl (s1761.1,(iAdd .i64 s1761.2.1 1),((y1764.2.1.1,(y1764.2.1.2.1.1,y1764.2.1.2.1.2.1,y1764.2.1.2.1.2.2.1,y1764.2.1.2.1.2.2.2),y1764.2.1.2.2):Dq1),()))
  else none
 else
 Option.map Sum.inr (some ((((s1761.2.2.1.1,(s1761.2.2.1.2.1.1,s1761.2.2.1.2.1.2.1,s1761.2.2.1.2.1.2.2.1,s1761.2.2.1.2.1.2.2.2),s1761.2.2.1.2.2):Dq1),s1761.1,()),()))
def qp7 (a0:Dq9) (a1:(List Dq6)):Option ((Dq1×Int×Unit)×Unit) :=
 (qjg a0).bind fun y1753 =>
 run (qhm a1) ((0:Int),(0:Int),((y1753.1.1.1,(y1753.1.1.2.1.1,y1753.1.1.2.1.2.1,y1753.1.1.2.1.2.2.1,y1753.1.1.2.1.2.2.2),y1753.1.1.2.2):Dq1),())
def qu8:Entry:=⟨⟨[.v Uq2,.v (.list Uq4)],[.p (.pair (.val Uq2) (.pair (.pair (.rows Uq3) (.pair (.rows Uq3) (.pair (.rows Uq7) (.val (.unit))))) (.val (.unit)))),.v (.val (.int .i64))],true⟩,fun x=>qp7 x.1 x.2.1⟩
theorem qaej (mx:GMax 4 G) (tb:GTab Tryz.prog G) (sy:GErr 1 G) (ra:GErr 2 G) (db:GDeb Tryz.prog G):Sound Tryz.prog G 42 qu8:=qab (envS (l:=[(46,qpo),(59,qpn)]) ⟨(qxt mx tb sy ra db),(qxs),trivial⟩) [(4,.vary [(7,.sc (.int .i64)),(14,.sc (.int .i64)),(6,.box (.pair (.val Uq2) (.pair (.pair (.rows Uq3) (.pair (.rows Uq3) (.pair (.rows Uq7) (.val (.unit))))) (.val (.unit)))))])] Tryz.func42 (by kernel_rfl) rfl fun _=>by kernel_rfl
def qja (a0:Dq9) (a1:(List Dq6)):Option ((Bool×Int×Unit)×Unit) :=
 (qh5 a0 a1).bind fun y1708 =>
 bif (! (iEq y1708.1.1 0)) then some ((false,y1708.1.1,()),()) else
 (qp7 a0 a1).bind fun y1710 =>
 (qdt ((y1710.1.1.1,(y1710.1.1.2.1.1,y1710.1.1.2.1.2.1,y1710.1.1.2.1.2.2.1,y1710.1.1.2.1.2.2.2),y1710.1.1.2.2):Dq1)).bind fun y1711 =>
 some ((y1711.1.1,(0:Int),()),())
def qpi:Entry:=⟨⟨[.v Uq2,.v (.list Uq4)],[.v (.val (.bool)),.v (.val (.int .i64))],false⟩,fun x=>qja x.1 x.2.1⟩
theorem qxm (mx:GMax 4 G) (tb:GTab Tryz.prog G) (sy:GErr 1 G) (ra:GErr 2 G) (db:GDeb Tryz.prog G):Sound Tryz.prog G 18 qpi:=qab (envS (l:=[(41,qos),(42,qu8),(53,qla)]) ⟨(qwk),(qaej mx tb sy ra db),(qti),trivial⟩) [] Tryz.func18 (by kernel_rfl) rfl fun _=>by kernel_rfl
def qib (a0:(Vec 3 Nat)) (a1:(Vec 3 Nat)):Option Dq7 :=
 (qbc (Vec.getD 3 a0 0 (0:Nat)) (Vec.getD 3 a1 0 (0:Nat))).bind fun y1795 =>
 bif y1795.1.1 then
  (qbc (Vec.getD 3 a0 1 (0:Nat)) (Vec.getD 3 a1 1 (0:Nat))).bind fun y1798 =>
  bif y1798.1.1 then
   (qbc (Vec.getD 3 a0 2 (0:Nat)) (Vec.getD 3 a1 2 (0:Nat))).bind fun y1801 =>
   some ((y1801.1.1,()),())
  else some ((false,()),())
 else some ((false,()),())
def qo0:Entry:=⟨⟨[.v (.arr 3 (.flt .f32)),.v (.arr 3 (.flt .f32))],[.v (.val (.bool))],false⟩,fun x=>qib x.1 x.2.1⟩
theorem qxa:Sound Tryz.prog G 145 qo0:=qab (envS (l:=[(104,qfq)]) ⟨(qic),trivial⟩) [] Tryz.func145 (by kernel_rfl) rfl fun _=>by kernel_rfl
def qhi (a0:Dq2) (a1:Dq2):Option Dq7 :=
 bif (iEq (Vec.getD 3 a0.1 0 (0:Int)) (Vec.getD 3 a1.1 0 (0:Int))&&(iEq (Vec.getD 3 a0.1 1 (0:Int)) (Vec.getD 3 a1.1 1 (0:Int))&&(iEq (Vec.getD 3 a0.1 2 (0:Int)) (Vec.getD 3 a1.1 2 (0:Int))&&true))) then
  (qib a0.2.1 a1.2.1).bind fun y1789 =>
  bif y1789.1.1 then
   (qbc a0.2.2.1 a1.2.2.1).bind fun y1790 =>
   bif y1790.1.1 then
    bif (iEq a0.2.2.2.1 a1.2.2.2.1) then
     some (((iEq a0.2.2.2.2.1 a1.2.2.2.2.1),()),())
    else some ((false,()),())
   else some ((false,()),())
  else some ((false,()),())
 else some ((false,()),())
def qng:Entry:=⟨⟨[.ro Uq1,.ro Uq1],[.v (.val (.bool))],false⟩,fun x=>qhi x.1 x.2.1⟩
theorem qvu:Sound Tryz.prog G 105 qng:=qab (envS (l:=[(104,qfq),(145,qo0)]) ⟨(qic),(qxa),trivial⟩) [] Tryz.func105 (by kernel_rfl) rfl fun _=>by kernel_rfl
def qmr (a0:Dq3) (a1:Dq3) (s1783:(Int×Unit)):Option ((Int×Unit)⊕Dq7) :=
 bif (iLt s1783.1 (lenI a0.2.1)) then
  bif inB s1783.1 (List.length a0.2.1) then
   bif inB s1783.1 (List.length a1.2.1) then
    (qhi (List.getD a0.2.1 s1783.1.toNat Lq1) (List.getD a1.2.1 s1783.1.toNat Lq1)).bind fun y1785 =>
    bif (! y1785.1.1) then
     Option.map Sum.inr (some ((false,()),()))
    else
    some (Sum.inl ((iAdd .i64 s1783.1 1),()))
   else none
  else none
 else
 Option.map Sum.inr (some ((true,()),()))
def qmq (a0:Dq3) (a1:Dq3):Option Dq7 :=
 (qbc a0.1 a1.1).bind fun y1780 =>
 bif (! y1780.1.1) then some ((false,()),()) else
 bif (! (iEq (lenI a0.2.1) (lenI a1.2.1))) then some ((false,()),()) else run (qmr a0 a1) ((0:Int),())
def qsq:Entry:=⟨⟨[.ro Uq6,.ro Uq6],[.v (.val (.bool))],false⟩,fun x=>qmq x.1 x.2.1⟩
theorem qab1:Sound Tryz.prog G 55 qsq:=qab (envS (l:=[(104,qfq),(105,qng)]) ⟨(qic),(qvu),trivial⟩) [(4,.vary [(5,.sc (.int .i64))])] Tryz.func55 (by kernel_rfl) rfl fun _=>by kernel_rfl
def qc0 (a0:Dq1) (s1775:(Int×Unit)):Option ((Int×Unit)⊕((Bool×Unit)×(Dq1×Unit))) :=
 bif (iLt s1775.1 (lenI a0.2.1.1)) then
  bif inB 0 (List.length a0.2.1.1) then
   bif inB s1775.1 (List.length a0.2.1.1) then
    (qmq ((List.getD a0.2.1.1 0 Lq3).1) ((List.getD a0.2.1.1 s1775.1.toNat Lq3).1)).bind fun y1777 =>
    bif (! y1777.1.1) then
     Option.map Sum.inr (some ((false,()),(((a0.1,(a0.2.1.1,a0.2.1.2.1,a0.2.1.2.2.1,a0.2.1.2.2.2),a0.2.2):Dq1),())))
    else
    some (Sum.inl ((iAdd .i64 s1775.1 1),()))
   else none
  else none
 else
 Option.map Sum.inr (some ((true,()),(((a0.1,(a0.2.1.1,a0.2.1.2.1,a0.2.1.2.2.1,a0.2.1.2.2.2),a0.2.2):Dq1),())))
def qfx (a0:Dq1):Option ((Bool×Unit)×(Dq1×Unit)) :=
 run (qc0 a0) ((1:Int),())
def qlf:Entry:=⟨⟨[.io (.pair (.ro Uq2) (.pair (.pair (.rows Uq3) (.pair (.rows Uq3) (.pair (.rows Uq7) (.val (.unit))))) (.val (.unit))))],[.v (.val (.bool))],true⟩,fun x=>qfx x.1⟩
theorem qt4:Sound Tryz.prog G 63 qlf:=qab (envS (l:=[(55,qsq)]) ⟨(qab1),trivial⟩) [(2,.vary [(3,.sc (.int .i64))])] Tryz.func63 (by kernel_rfl) rfl fun _=>by kernel_rfl
def qjm (a0:Dq9) (a1:(List Dq6)):Option ((Bool×Int×Unit)×Unit) :=
 (qkg a0 a1).bind fun y1771 =>
 bif (! (iEq y1771.1.1 0)) then some ((false,y1771.1.1,()),()) else
 (qmx a0 a1).bind fun y1773 =>
 (qfx ((y1773.1.1.1,(y1773.1.1.2.1.1,y1773.1.1.2.1.2.1,y1773.1.1.2.1.2.2.1,y1773.1.1.2.1.2.2.2),y1773.1.1.2.2):Dq1)).bind fun y1774 =>
 some ((y1774.1.1,(0:Int),()),())
def qpv:Entry:=⟨⟨[.v Uq2,.v (.list Uq4)],[.v (.val (.bool)),.v (.val (.int .i64))],false⟩,fun x=>qjm x.1 x.2.1⟩
theorem qx5:Sound Tryz.prog G 31 qpv:=qab (envS (l:=[(43,qq6),(44,qsw),(63,qlf)]) ⟨(qzn),(qab5),(qt4),trivial⟩) [(1000004,.frz [2])] Tryz.func31 (by kernel_rfl) rfl fun _=>by kernel_rfl
def qgl (a0:Dq9) (a1:(List Dq6)):Option Dq7 :=
 (ql4 a0 (1048576:Int)).bind fun y1690 =>
 bif (iLt y1690.1.1 0) then some ((true,()),()) else
 (ql3 a1 y1690.1.1).bind fun y1692 =>
 bif (iLt y1692.1.1 0) then some ((true,()),()) else
 (qgn a0).bind fun y1694 =>
 (qgm a1).bind fun y1695 =>
 (qjm ((y1694.1.1.1,y1694.1.1.2.1,y1694.1.1.2.2.1,y1694.1.1.2.2.2):Dq9) y1695.1.1).bind fun y1696 =>
 (qgn a0).bind fun y1697 =>
 (qgm a1).bind fun y1698 =>
 (qja ((y1697.1.1.1,y1697.1.1.2.1,y1697.1.1.2.2.1,y1697.1.1.2.2.2):Dq9) y1698.1.1).bind fun y1699 =>
 bif (! (bEq y1699.1.1 y1696.1.1)) then some ((false,()),()) else
 bif (! (iEq y1699.1.2.1 y1696.1.2.1)) then some ((false,()),()) else
 (qgn a0).bind fun y1702 =>
 (ql1 ((y1697.1.1.1,y1697.1.1.2.1,y1697.1.1.2.2.1,y1697.1.1.2.2.2):Dq9) ((y1702.1.1.1,y1702.1.1.2.1,y1702.1.1.2.2.1,y1702.1.1.2.2.2):Dq9)).bind fun y1703 =>
 bif (! y1703.1.1) then some ((false,()),()) else
 (qgm a1).bind fun y1705 =>
 (qlz y1698.1.1 y1705.1.1).bind fun y1706 =>
 bif (! y1706.1.1) then some ((false,()),()) else some ((true,()),())
def qit:Entry:=⟨⟨[.v Uq2,.v (.list Uq4)],[.v (.val (.bool))],false⟩,fun x=>qgl x.1 x.2.1⟩
theorem qqr (mx:GMax 4 G) (tb:GTab Tryz.prog G) (sy:GErr 1 G) (ra:GErr 2 G) (db:GDeb Tryz.prog G):Sound Tryz.prog G 6 qit:=qab (envS (l:=[(18,qpi),(23,qr0),(24,qrz),(26,qr2),(27,qr1),(29,qrx),(30,qrw),(31,qpv)]) ⟨(qxm mx tb sy ra db),(qaax),(qaav),(qaa1),(qaaz),(qaar),(qaap),(qx5),trivial⟩) [] Tryz.func6 (by kernel_rfl) rfl fun _=>by kernel_rfl
end
end Go.Proofs.YtjhdoneobdbeaaaGreatDoor
