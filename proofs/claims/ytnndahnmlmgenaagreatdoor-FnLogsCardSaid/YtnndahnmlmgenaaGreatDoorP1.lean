import Derived.Test.YtnndahnmlmgenaaGreatDoorL
/- Functions of the program and of the reference in plain terms. -/
set_option linter.unusedSectionVars false
set_option linter.unusedSimpArgs false
set_option linter.unusedVariables false
namespace Go.Proofs.YtnndahnmlmgenaaGreatDoor
open Go Go.Tm
section
noncomputable def quf (a0:Nat):Option ((Int×Unit)×Unit) :=
 bif (! (fEq .f32 a0 a0)) then some (((2143289344:Int),()),()) else
 allSame fun (q581:Nat) =>
 some (((bitsF .f32 a0 q581),()),())
noncomputable def qkc (a0:Nat):Option ((List UInt8×Unit)×Unit) :=
 (quf a0).bind fun y551 =>
 bif (iLe 0 8&&iLe 8 8&&room ((8:Int)).toNat 1) then
  let x552:=iRem .u32 y551.1.1 16
  bif inB x552 (List.length ([48,49,50,51,52,53,54,55,56,57,97,98,99,100,101,102])) then
   bif inB 7 (List.length (List.replicate (((8:Int)).toNat) (0:Int))) then
    let w554:=List.set (List.replicate (((8:Int)).toNat) (0:Int)) 7 (strAt ([48,49,50,51,52,53,54,55,56,57,97,98,99,100,101,102]) x552)
    let x555:=iQuo .u32 y551.1.1 16
    let x556:=iRem .u32 x555 16
    bif inB x556 (List.length ([48,49,50,51,52,53,54,55,56,57,97,98,99,100,101,102])) then
     let x557:=strAt ([48,49,50,51,52,53,54,55,56,57,97,98,99,100,101,102]) x556
     bif inB 6 (List.length w554) then
      let x558:=iQuo .u32 x555 16
      let x559:=iRem .u32 x558 16
      bif inB x559 (List.length ([48,49,50,51,52,53,54,55,56,57,97,98,99,100,101,102])) then
       let x560:=strAt ([48,49,50,51,52,53,54,55,56,57,97,98,99,100,101,102]) x559
       bif inB 5 (List.length (List.set w554 6 x557)) then
        let x561:=iQuo .u32 x558 16
        let x562:=iRem .u32 x561 16
        bif inB x562 (List.length ([48,49,50,51,52,53,54,55,56,57,97,98,99,100,101,102])) then
         bif inB 4 (List.length (List.set (List.set w554 6 x557) 5 x560)) then
          let w564:=List.set (List.set (List.set w554 6 x557) 5 x560) 4 (strAt ([48,49,50,51,52,53,54,55,56,57,97,98,99,100,101,102]) x562)
          let x565:=iQuo .u32 x561 16
          let x566:=iRem .u32 x565 16
          bif inB x566 (List.length ([48,49,50,51,52,53,54,55,56,57,97,98,99,100,101,102])) then
           let x567:=strAt ([48,49,50,51,52,53,54,55,56,57,97,98,99,100,101,102]) x566
           bif inB 3 (List.length w564) then
            let x568:=iQuo .u32 x565 16
            let x569:=iRem .u32 x568 16
            bif inB x569 (List.length ([48,49,50,51,52,53,54,55,56,57,97,98,99,100,101,102])) then
             let x570:=strAt ([48,49,50,51,52,53,54,55,56,57,97,98,99,100,101,102]) x569
             bif inB 2 (List.length (List.set w564 3 x567)) then
              let x571:=iQuo .u32 x568 16
              let x572:=iRem .u32 x571 16
              bif inB x572 (List.length ([48,49,50,51,52,53,54,55,56,57,97,98,99,100,101,102])) then
               bif inB 1 (List.length (List.set (List.set w564 3 x567) 2 x570)) then
                let w574:=List.set (List.set (List.set w564 3 x567) 2 x570) 1 (strAt ([48,49,50,51,52,53,54,55,56,57,97,98,99,100,101,102]) x572)
                let x576:=iRem .u32 (iQuo .u32 x571 16) 16
                bif inB x576 (List.length ([48,49,50,51,52,53,54,55,56,57,97,98,99,100,101,102])) then
                 bif inB 0 (List.length w574) then
                  some (((ofBytes (List.set w574 0 (strAt ([48,49,50,51,52,53,54,55,56,57,97,98,99,100,101,102]) x576))),()),())
                 else none
                else none
               else none
              else none
             else none
            else none
           else none
          else none
         else none
        else none
       else none
      else none
     else none
    else none
   else none
  else none
 else none
noncomputable def qc5 (a0:(List Nat)) (s539:(List UInt8×Int×Unit)):Option ((List UInt8×Int×Unit)⊕((List UInt8×Unit)×Unit)) :=
 bif (iLt s539.2.1 (lenI a0)) then
  bif (iLt 0 s539.2.1) then
   bif strRoom s539.1 ([32]) then
    let x542:=strCat s539.1 ([32])
    bif inB s539.2.1 (List.length a0) then
     (qkc (List.getD a0 s539.2.1.toNat (0:Nat))).bind fun y544 =>
     bif strRoom x542 y544.1.1 then
      some (Sum.inl ((strCat x542 y544.1.1),(iAdd .i64 s539.2.1 1),()))
     else none
    else none
   else none
  else
  bif inB s539.2.1 (List.length a0) then
   (qkc (List.getD a0 s539.2.1.toNat (0:Nat))).bind fun y548 =>
   bif strRoom s539.1 y548.1.1 then
    some (Sum.inl ((strCat s539.1 y548.1.1),(iAdd .i64 s539.2.1 1),()))
   else none
  else none
 else
 Option.map Sum.inr (some ((s539.1,()),()))
noncomputable def qq8 (a0:(List Nat)):Option ((List UInt8×Unit)×Unit) :=
 run (qc5 a0) (([]:List UInt8),(0:Int),())
noncomputable def que (a0:(Vec 3 Nat)):Option ((List UInt8×Unit)×Unit) :=
 (qq8 ([Vec.getD 3 a0 0 (0:Nat),Vec.getD 3 a0 1 (0:Nat),Vec.getD 3 a0 2 (0:Nat)]:(List Nat))).bind fun y538 =>
 some ((y538.1.1,()),())
noncomputable def qis (a0:Int):Option ((List UInt8×Unit)×Unit) :=
 bif (iLt a0 0) then
  (qcl (iSub .i64 0 a0)).bind fun y612 =>
  bif strRoom ([45]) y612.1.1 then
   some (((strCat ([45]) y612.1.1),()),())
  else none
 else
 (qcl a0).bind fun y614 =>
 some ((y614.1.1,()),())
noncomputable def qlh (a0:(Int×((Vec 3 Nat)×((Vec 3 Int)×(Int×(Nat×Unit)))))):Option ((List UInt8×Unit)×Unit) :=
 bif (iEq a0.1 1) then some ((([116,105,99,107,10]:List UInt8),()),()) else
 bif (iEq a0.1 2) then
  (que a0.2.1).bind fun y585 =>
  bif strRoom ([109,111,118,101,32]) y585.1.1 then
   let x586:=strCat ([109,111,118,101,32]) y585.1.1
   bif strRoom x586 ([10]) then
    some (((strCat x586 ([10])),()),())
   else none
  else none
 else
 bif (iEq a0.1 3) then
  (qis (iWrap .i64 (Vec.getD 3 a0.2.2.1 0 (0:Int)))).bind fun y591 =>
  bif strRoom ([102,105,120,32]) y591.1.1 then
   let x592:=strCat ([102,105,120,32]) y591.1.1
   bif strRoom x592 ([32]) then
    let x593:=strCat x592 ([32])
    (qis (iWrap .i64 (Vec.getD 3 a0.2.2.1 1 (0:Int)))).bind fun y596 =>
    bif strRoom x593 y596.1.1 then
     let x597:=strCat x593 y596.1.1
     bif strRoom x597 ([32]) then
      let x598:=strCat x597 ([32])
      (qis (iWrap .i64 (Vec.getD 3 a0.2.2.1 2 (0:Int)))).bind fun y601 =>
      bif strRoom x598 y601.1.1 then
       let x602:=strCat x598 y601.1.1
       bif strRoom x602 ([10]) then
        some (((strCat x602 ([10])),()),())
       else none
      else none
     else none
    else none
   else none
  else none
 else
 (qcl a0.2.2.2.1).bind fun y604 =>
 bif strRoom ([114,97,110,103,101,32]) y604.1.1 then
  let x605:=strCat ([114,97,110,103,101,32]) y604.1.1
  bif strRoom x605 ([32]) then
   let x606:=strCat x605 ([32])
   (qkc a0.2.2.2.2.1).bind fun y607 =>
   bif strRoom x606 y607.1.1 then
    let x608:=strCat x606 y607.1.1
    bif strRoom x608 ([10]) then
     some (((strCat x608 ([10])),()),())
    else none
   else none
  else none
 else none
noncomputable def qek (s:List UInt8):Option ((Nat×Int×Unit)×Unit) :=
 (qam s).bind fun y =>
 bif (! y.1.2.1) then some (((0:Nat),(5:Int),()),()) else some ((y.1.1,(0:Int),()),())
end
section
theorem qfy {a:Int} (h : -9223372036854775808≤a) (h1:a≤9223372036854775807):iWrap .i64 a=a:=qr0 h h1
theorem qb8 {a b:Int} : iLe a b=true↔a≤b:=by simp [iLe]
theorem qyg {a b:Int} : iLt a b=true↔a<b:=by simp [iLt]
theorem qas {a b:Int} : iEq a b=true↔a=b:=by simp [iEq]
theorem qda {a b:Int} : iEq a b=false↔a≠b:=by simp [iEq]
theorem qv4:qb0=qby:=rfl
theorem qgv (a b c:Int):qby a b c=some ((iLe b a&&iLe a c,()),()):=by
 unfold qby
 cases iLe b a <;> rfl
theorem qan7 (a b:Int):qka a b=some ((max a b,()),()):=by
 unfold qka
 by_cases h:b<a
 ·rw [qaf h,cond_true,Int.max_eq_left (by omega)]
 ·rw [qag h,cond_false,Int.max_eq_right (by omega)]
def finB (x:Nat):Bool:=fEq .f32 (fSub .f32 x x) 0
theorem qcf (l:List Nat) (hl:l.length≤140737488355328):qaj l=some ((l.all finB,()),()):=by
 unfold qaj
 refine qs6 (fun i hi => ?_) ?_
 ·have e1:iLt (i:Int) (lenI l)=true:=qaf (by rw [qaa];omega)
  have e2:inB (i:Int) l.length=true:=qad hi
  have e4:l.getD i (0:Nat)=l[i]:=qao hi
  have e5:iAdd .i64 (i:Int) 1=((i+1:Nat):Int):=qat hi (by omega)
  simp only [qm7,e1,e2,e4,e5,Int.toNat_natCast,cond_true,finB]
  cases fEq .f32 (fSub .f32 l[i] l[i]) 0 <;> rfl
 ·have e1:iLt (l.length:Int) (lenI l)=false:=qag (by rw [qaa];omega)
  simp only [qm7,e1,cond_false]
  rfl
theorem qbg (x:Nat):qac x=some ((finB x,()),()):=rfl
def finV (v:Vec 3 Nat):Bool:=finB (Vec.getD 3 v 0 (0:Nat))&&(finB (Vec.getD 3 v 1 (0:Nat))&&finB (Vec.getD 3 v 2 (0:Nat)))
theorem qet (v:Vec 3 Nat):qbp v=some ((finV v,()),()):=by
 simp only [qbp,qcf [Vec.getD 3 v 0 (0:Nat),Vec.getD 3 v 1 (0:Nat),Vec.getD 3 v 2 (0:Nat)] (by simp),Option.bind_some,List.all_cons,List.all_nil,Bool.and_true,finV]
theorem qe6 (v:Vec 3 Nat):qcz v=some ((finV v,()),()):=by
 simp only [qcz,qbg,Option.bind_some,finV]
 cases finB (Vec.getD 3 v 0 (0:Nat)) <;> cases finB (Vec.getD 3 v 1 (0:Nat)) <;> rfl
theorem qaah (x:Nat):qvn x=some ((orNan .f64 (FloatKind.f64.format.sqrt x),()),()):=rfl
theorem qk5 (x:Nat):qhi x=some ((rootF x,()),()):=by
 simp only [qhi,qaah,qi0,qacx,Option.bind_some]
theorem qfp (x:Nat):qef x=some ((rootF x,()),()):=by
 simp only [qef,qaah,qi0,qacx,Option.bind_some]
def sameN (a b:Nat):Bool:=bif isNan .f32 a then isNan .f32 b else bif isNan .f32 b then false else iEq (a:Int) (b:Int)
theorem qx4 {A:Type} {g:Nat→Nat→Option A} {a:A} (h : ∀ q r,g q r=some a):(allSame fun q=>allSame fun r=>g q r)=some a:=qn7 fun q=>qn7 fun r=>h q r
theorem qkz (a b:Nat):qdb a b=some ((sameN a b,()),()):=by
 simp only [qdb,qf6,qm6,Bool.not_not,Option.bind_some,sameN]
 cases ha:isNan .f32 a <;> cases hb:isNan .f32 b
 ·exact qx4 fun q r=>by rw [qx6 ha,qx6 hb];rfl
 ·exact qx4 fun q r=>by rw [qagn (by simp [ha,hb])];rfl
 ·exact qx4 fun q r=>by rw [qagn (by simp [ha,hb])];rfl
 ·rfl
theorem qo2 (a b:Nat):qbz a b=some ((sameN a b,()),()):=by
 simp only [qbz,qm6,Bool.not_not,sameN]
 cases ha:isNan .f32 a <;> cases hb:isNan .f32 b
 ·exact qx4 fun q r=>by rw [qx6 ha,qx6 hb];rfl
 ·rfl
 ·rfl
 ·rfl
def sameV (a b:Vec 3 Nat):Bool:=sameN (Vec.getD 3 a 0 (0:Nat)) (Vec.getD 3 b 0 (0:Nat))&&(sameN (Vec.getD 3 a 1 (0:Nat)) (Vec.getD 3 b 1 (0:Nat))&&sameN (Vec.getD 3 a 2 (0:Nat)) (Vec.getD 3 b 2 (0:Nat)))
theorem qod (a b:Vec 3 Nat):qgp a b=some ((sameV a b,()),()):=by
 simp only [qgp,qkz,Option.bind_some,sameV]
 cases sameN (Vec.getD 3 a 0 (0:Nat)) (Vec.getD 3 b 0 (0:Nat)) <;> cases sameN (Vec.getD 3 a 1 (0:Nat)) (Vec.getD 3 b 1 (0:Nat)) <;> cases sameN (Vec.getD 3 a 2 (0:Nat)) (Vec.getD 3 b 2 (0:Nat)) <;> rfl
theorem qhu (a b:Vec 3 Nat):qbk a b=some ((sameV a b,()),()):=by
 simp only [qbk,qo2,Option.bind_some,sameV]
 cases sameN (Vec.getD 3 a 0 (0:Nat)) (Vec.getD 3 b 0 (0:Nat)) <;> cases sameN (Vec.getD 3 a 1 (0:Nat)) (Vec.getD 3 b 1 (0:Nat)) <;> rfl
end
section
def splitC (c:UInt8):List UInt8→List (List UInt8)
 | []=>[[]]
 | b :: r=>if b=c then [] :: splitC c r else
   match splitC c r with
   | []=>[[b]]
   | l :: ls=>(b :: l) :: ls
theorem qli (c:UInt8) : ∀ s,splitC c s≠[]
 | []=>by simp [splitC]
 | b :: r=>by
  unfold splitC
  split
  ·simp
  ·split <;> simp
theorem qfa {c:UInt8} : ∀ {p:List UInt8},c∉p→splitC c p=[p]
 | [],_=>rfl
 | b :: p,h=>by
  rw [List.mem_cons,not_or] at h
  unfold splitC
  rw [if_neg (fun e=>h.1 e.symm),qfa h.2]
theorem qf8 {c:UInt8} (r:List UInt8) : ∀ {p:List UInt8},c∉p→splitC c (p++c :: r)=p :: splitC c r
 | [],_=>by simp [splitC]
 | b :: p,h=>by
  rw [List.mem_cons,not_or] at h
  show splitC c (b :: (p++c :: r))=_
  rw [splitC,if_neg (fun e=>h.1 e.symm),qf8 r h.2]
theorem qku (c:UInt8) : ∀ s:List UInt8,c∉s ∨ ∃ p r,s=p++c :: r∧c∉p
 | [] => .inl (by simp)
 | b :: s=>by
  by_cases h:b=c
  ·exact .inr ⟨[],s,by rw [h];rfl,by simp⟩
  ·rcases qku c s with h1 | ⟨p,r,e,h1⟩
   ·exact .inl (by rw [List.mem_cons,not_or];exact ⟨fun e=>h e.symm,h1⟩)
   ·exact .inr ⟨b :: p,r,by rw [e];rfl,by rw [List.mem_cons,not_or];exact ⟨fun e=>h e.symm,h1⟩⟩
theorem qaei {c:UInt8} : ∀ {s:List UInt8},c∉s→Lib.index s [c] = -1
 | [],_=>rfl
 | b :: s,h=>by
  rw [List.mem_cons,not_or] at h
  have hb:(c==b)=false:=by simpa using h.1
  simp [Lib.index,List.isPrefixOf,hb,qaei h.2]
theorem qaaa {c:UInt8} (r:List UInt8) : ∀ {p:List UInt8},c∉p→Lib.index (p++c :: r) [c]=(p.length:Int)
 | [],_=>by simp [Lib.index,List.isPrefixOf]
 | b :: p,h=>by
  rw [List.mem_cons,not_or] at h
  have hb:(c==b)=false:=by simpa using h.1
  show Lib.index (b :: (p++c :: r)) [c]=_
  have hi:=qaaa r h.2
  have hne:((p.length:Int) == -1)=false:=by
   rw [beq_eq_false_iff_ne];omega
  simp [Lib.index,List.isPrefixOf,hb,hi,hne]
theorem qzr (c:UInt8) : ∀ (fuel:Nat) (s:List UInt8),s.length<fuel→s.count c≤Lib.countFrom [c] fuel s
 | 0,s,h=>by omega
 | fuel+1,s,h=>by
  rcases qku c s with h1 | ⟨p,r,e,h1⟩
  ·rw [List.count_eq_zero.2 h1];exact Nat.zero_le _
  ·subst e
   have hne:((p.length:Int) == -1)=false:=by
    rw [beq_eq_false_iff_ne];omega
   have hd:(p++c :: r).drop ((p.length:Int).toNat+[c].length)=r:=by
    rw [Int.toNat_natCast,List.length_singleton]
    rw [show p++c :: r=(p++[c])++r by simp,show p.length+1=(p++[c]).length by simp,List.drop_left]
   have ih:=qzr c fuel r (by simp at h;omega)
   unfold Lib.countFrom
   rw [qaaa r h1,hne,hd]
   rw [List.count_append,List.count_eq_zero.2 h1,List.count_cons_self]
   simp only [Bool.false_eq_true,if_false]
   omega
theorem qaht (c:UInt8) : ∀ (k:Nat) (s:List UInt8),s.count c≤k→Lib.splitK [c] 0 k s=splitC c s
 | 0,s,h=>by
  have:c∉s:=List.count_eq_zero.1 (Nat.le_zero.1 h)
  rw [qfa this];rfl
 | k+1,s,h=>by
  rcases qku c s with h1 | ⟨p,r,e,h1⟩
  ·unfold Lib.splitK
   rw [qaei h1,qfa h1]
   rfl
  ·subst e
   have hne:((p.length:Int) == -1)=false:=by
    rw [beq_eq_false_iff_ne];omega
   have hd:(p++c :: r).drop ((p.length:Int).toNat+[c].length)=r:=by
    rw [Int.toNat_natCast,List.length_singleton]
    rw [show p++c :: r=(p++[c])++r by simp,show p.length+1=(p++[c]).length by simp,List.drop_left]
   have ht:(p++c :: r).take ((p.length:Int).toNat+0)=p:=by simp
   unfold Lib.splitK
   rw [qaaa r h1,hne,hd,ht,qf8 r h1,qaht c k r]
   ·rfl
   ·rw [List.count_append,List.count_eq_zero.2 h1,List.count_cons_self] at h;omega
theorem qarp (c:UInt8) (s:List UInt8):Lib.split s [c]=splitC c s:=qaht c _ s (qzr c _ s (Nat.lt_succ_self _))
theorem quu (c:UInt8) {s:List UInt8} (h:s.length≤4294967280):strings_Split s [c]=some ((splitC c s,()),()):=by
 unfold strings_Split
 rw [show Nat.ble 1 [c].length=true from rfl,Nat.ble_eq_true_of_le h,qarp]
 rfl
theorem qeq (c:UInt8) : ∀ s:List UInt8,(splitC c s).length=s.count c+1
 | []=>rfl
 | b :: s=>by
  have ih:=qeq c s
  unfold splitC
  by_cases h:b=c
  ·rw [if_pos h,h,List.count_cons_self,List.length_cons,ih]
  ·rw [if_neg h,List.count_cons_of_ne h]
   cases hs:splitC c s with
   | nil=>exact absurd hs (qli c s)
   | cons l ls=>rw [hs] at ih;simpa using ih
theorem qaa1 (s:List UInt8) (i:Nat):strAt s (i:Int)=byteI (s.getD i 0):=by
 unfold strAt
 rw [Int.toNat_natCast]
theorem qacg (a b:UInt8):iEq (byteI a) (byteI b)=decide (a=b):=by
 unfold iEq byteI
 by_cases h:a=b
 ·simp [h]
 ·have:a.toNat≠b.toNat:=fun e=>h (UInt8.toNat_inj.1 e)
  have:(a.toNat:Int)≠(b.toNat:Int):=fun e=>this (Int.ofNat.inj e)
  simp [h,this]
theorem qatu {q p r:List UInt8} : subL (q++p++r) (q.length:Int) ((q++p).length:Int)=p:=by
 unfold subL
 rw [Int.toNat_natCast,Int.toNat_natCast,List.append_assoc,List.drop_left]
 rw [show (q++p).length-q.length=p.length by simp]
 simp
theorem qai3 (c:UInt8) {s:List UInt8} (hs:s.length≤1048576) : ∀ (r p q:List UInt8) (out:List (List UInt8)),s=q++p++r→c∉p→out.length≤q.length →
  run (qdt s (byteI c)) (out,(q.length:Int),((q++p).length:Int),())=some ((out++splitC c (p++r),()),()):=by
 intro r
 induction r with
 | nil =>
  intro p q out e hp ho
  refine qay ?_
  have hl:s.length=(q++p).length:=by rw [e];simp
  have e1:iLt ((q++p).length:Int) (lenI s)=false:=qag (by rw [qaa,hl];omega)
  have hq:q.length≤s.length:=by rw [hl];simp
  have e2:inS (q.length:Int) (lenI s) s.length=true:=by
   unfold inS;rw [qaa];simp;omega
  have e3:room (out.length+1) 16=true:=qbi (by omega)
  have e4:dropL s (q.length:Int)=p:=by
   unfold dropL
   rw [Int.toNat_natCast,e,List.append_nil,List.drop_left]
  simp only [qdt,e1,e2,e3,e4,cond_true,cond_false,List.append_nil,qfa hp]
  rfl
 | cons b r ih =>
  intro p q out e hp ho
  have hl:s.length=(q++p).length+(r.length+1):=by rw [e];simp;omega
  have hq:q.length≤(q++p).length:=by simp
  have e1:iLt ((q++p).length:Int) (lenI s)=true:=qaf (by rw [qaa,hl];omega)
  have e2:inB ((q++p).length:Int) s.length=true:=qad (by omega)
  have e3:strAt s ((q++p).length:Int)=byteI b:=by
   rw [qaa1,e]
   simp [List.getD_eq_getElem?_getD]
  have e5:iAdd .i64 ((q++p).length:Int) 1=(((q++p).length+1:Nat):Int):=qat (n:=s.length) (by omega) (by omega)
  by_cases h:b=c
  ·have e4:iEq (byteI b) (byteI c)=true:=by rw [qacg];simpa using h
   have e6:inS (q.length:Int) ((q++p).length:Int) s.length=true:=by
    unfold inS;simp;simp at hl;omega
   have e7:room (out.length+1) 16=true:=qbi (by omega)
   have e8:subL s (q.length:Int) ((q++p).length:Int)=p:=by rw [e];exact qatu
   have st:qdt s (byteI c) (out,(q.length:Int),((q++p).length:Int),())=some (.inl (out++[p],(((q++p).length+1:Nat):Int),(((q++p).length+1:Nat):Int),())):=by
    simp only [qdt,e1,e2,e3,e4,e5,e6,e7,e8,cond_true]
   rw [qar st]
   have:=ih [] (q++p++[c]) (out++[p]) (by rw [e,h];simp) (by simp) (by simp;omega)
   rw [h,qf8 r hp]
   rw [show ((q++p++[c]).length:Int)=(((q++p).length+1:Nat):Int) by simp;omega,show ((q++p++[c]++([]:List UInt8)).length:Int)=(((q++p).length+1:Nat):Int) by simp;omega] at this
   rw [this]
   simp
  ·have e4:iEq (byteI b) (byteI c)=false:=by rw [qacg];simpa using h
   have st:qdt s (byteI c) (out,(q.length:Int),((q++p).length:Int),())=some (.inl (out,(q.length:Int),(((q++p).length+1:Nat):Int),())):=by
    simp only [qdt,e1,e2,e3,e4,e5,cond_true,cond_false]
   rw [qar st]
   have:=ih (p++[b]) q out (by rw [e];simp) (by simp;exact ⟨hp,fun e=>h e.symm⟩) ho
   rw [show ((q++(p++[b])).length:Int)=(((q++p).length+1:Nat):Int) by simp;omega] at this
   rw [this]
   simp
theorem qe5 (c:UInt8) {s:List UInt8} (hs:s.length≤1048576):qbx s (byteI c)=some ((splitC c s,()),()):=by
 have:=qai3 c hs s [] [] [] (by simp) (by simp) (by simp)
 simpa [qbx] using this
theorem qr1 (u:Nat):1≤(Lib.decDigits u).length:=by
 rw [Lib.decDigits]
 split <;> simp
theorem qags : ∀ (k n:Nat),n<10^(k+1)→k≤100→n≤9223372036854775807→qco (k+1) (n:Int)=some ((Lib.decDigits n,()),())∧(Lib.decDigits n).length≤k+1:=by
 intro k
 induction k with
 | zero =>
  intro n h hk _
  have h:n<10:=by simpa using h
  have e1:iLe 10 (n:Int)=false:=qg9 (by omega)
  have e2:iAdd .i64 48 (n:Int)=((48+n:Nat):Int):=(qba (by omega) (by omega)).trans (by omega)
  have e3:iWrap .u8 ((48+n:Nat):Int)=((48+n:Nat):Int):=by simp [iWrap,IntKind.wrap,IntKind.signed,IntKind.bits];omega
  have e4:Lib.decDigits n=[UInt8.ofNat (48+n)]:=by rw [Lib.decDigits,dif_pos h]
  refine ⟨?_,by rw [e4];simp⟩
  show qd2 (qco 0) (n:Int)=_
  simp only [qd2,e1,e2,e3,e4,cond_false]
  rfl
 | succ k ih =>
  intro n h hk hm
  by_cases hn:n<10
  ·have e1:iLe 10 (n:Int)=false:=qg9 (by omega)
   have e2:iAdd .i64 48 (n:Int)=((48+n:Nat):Int):=(qba (by omega) (by omega)).trans (by omega)
   have e3:iWrap .u8 ((48+n:Nat):Int)=((48+n:Nat):Int):=by simp [iWrap,IntKind.wrap,IntKind.signed,IntKind.bits];omega
   have e4:Lib.decDigits n=[UInt8.ofNat (48+n)]:=by rw [Lib.decDigits,dif_pos hn]
   refine ⟨?_,by rw [e4];simp⟩
   show qd2 (qco (k+1)) (n:Int)=_
   simp only [qd2,e1,e2,e3,e4,cond_false]
   rfl
  ·have e1:iLe 10 (n:Int)=true:=qa3 (by omega)
   have e2:iQuo .i64 (n:Int) 10=((n/10:Nat):Int):=qr0 (a:=((n/10:Nat):Int)) (by omega) (by omega)
   have e3:iRem .i64 (n:Int) 10=((n%10:Nat):Int):=rfl
   obtain ⟨ih1,ih2⟩:=ih (n/10) (by rw [Nat.pow_succ] at h;omega) (by omega) (by omega)
   have e4:iAdd .i64 48 ((n%10:Nat):Int)=((48+n%10:Nat):Int):=(qba (by omega) (by omega)).trans (by omega)
   have e5:iWrap .u8 ((48+n%10:Nat):Int)=((48+n%10:Nat):Int):=by simp [iWrap,IntKind.wrap,IntKind.signed,IntKind.bits];omega
   have e6:Lib.decDigits n=Lib.decDigits (n/10)++[UInt8.ofNat (48+n%10)]:=by rw [Lib.decDigits,dif_neg hn]
   have e7:ofBytes [((48+n%10:Nat):Int)]=[UInt8.ofNat (48+n%10)]:=rfl
   have e8:strRoom (Lib.decDigits (n/10)) [UInt8.ofNat (48+n%10)]=true:=by
    unfold strRoom
    rw [decide_eq_true_eq,List.length_singleton]
    omega
   refine ⟨?_,by rw [e6,List.length_append,List.length_singleton];omega⟩
   show qd2 (qco (k+1)) (n:Int)=_
   simp only [qd2,e1,e2,ih1,e3,e4,e5,e7,e8,cond_true,Option.bind_some]
   rw [e6]
   rfl
theorem qal4 {n:Nat} (h:n≤9223372036854775807):qco 64 (n:Int)=some ((Lib.decDigits n,()),()) :=
 (qags 63 n (Nat.lt_of_le_of_lt h (by decide)) (by omega) h).1
theorem qhs {n:Nat} (h:n≤9223372036854775807):qcl (n:Int)=some ((Lib.decDigits n,()),())∧(Lib.decDigits n).length≤19:=by
 exact ⟨qal4 h,(qags 18 n (Nat.lt_of_le_of_lt h (by decide)) (by omega) h).2⟩
theorem qai0 (n:Nat):Lib.itoa (n:Int)=Lib.decDigits n:=by
 unfold Lib.itoa
 rw [if_neg (by omega),Int.toNat_natCast]
theorem qig {n:Int} (h : -9223372036854775808≤n) (h1:n≤9223372036854775807):qdy n=some ((Lib.itoa n,()),()):=by
 have:qb6 n 10=some ((Lib.itoa n,()),()):=by
  unfold qb6
  rw [qfq,qa3 h,qa3 h1]
  rfl
 simp only [qdy,this,Option.bind_some]
theorem qa2 {a b:List UInt8} (h:a.length+b.length≤4611686018427387904):strRoom a b=true:=by
 unfold strRoom;rw [decide_eq_true_eq];exact h
end
section
def digB (b:UInt8):Bool:=decide (48≤b.toNat)&&decide (b.toNat≤57)
def valD (acc:Nat) (l:List UInt8):Nat:=l.foldl (fun a b=>a*10+(b.toNat-48)) acc
theorem qahx (acc:Nat) (l:List UInt8) (b:UInt8):valD acc (l++[b])=valD acc l*10+(b.toNat-48):=by
 unfold valD
 rw [List.foldl_append]
 rfl
theorem qalt : ∀ (l:List UInt8) (acc:Nat),acc≤valD acc l
 | [],_=>Nat.le_refl _
 | b :: l,acc=>by
  have:=qalt l (acc*10+(b.toNat-48))
  show acc≤valD (acc*10+(b.toNat-48)) l
  omega
theorem qs4 {d:Nat} (h:d<10):(UInt8.ofNat (48+d)).toNat=48+d:=by
 rw [UInt8.toNat_ofNat']
 omega
theorem qjs : ∀ (k u:Nat),u<10^(k+1)→(Lib.decDigits u).all digB=true∧valD 0 (Lib.decDigits u)=u∧(Lib.decDigits u).length≤k+1∧(1≤u → ∃ c r,Lib.decDigits u=c :: r∧c.toNat≠48)
 | 0,u,h=>by
  have h:u<10:=by simpa using h
  have e:Lib.decDigits u=[UInt8.ofNat (48+u)]:=by rw [Lib.decDigits,dif_pos h]
  have hb:=qs4 h
  rw [e]
  refine ⟨?_,?_,by simp,fun h1=>⟨_,_,rfl,by omega⟩⟩
  ·simp [digB,hb];omega
  ·show 0*10+((UInt8.ofNat (48+u)).toNat-48)=u
   omega
 | k+1,u,h=>by
  by_cases hu:u<10
  ·obtain ⟨h1,h2,h3,h4⟩:=qjs 0 u (by simpa using hu)
   exact ⟨h1,h2,by omega,h4⟩
  ·have e:Lib.decDigits u=Lib.decDigits (u/10)++[UInt8.ofNat (48+u%10)]:=by rw [Lib.decDigits,dif_neg hu]
   obtain ⟨h1,h2,h3,h4⟩:=qjs k (u/10) (by rw [Nat.pow_succ] at h;omega)
   have hb:=qs4 (d:=u%10) (by omega)
   obtain ⟨c,r,e2,hc⟩:=h4 (by omega)
   rw [e]
   refine ⟨?_,?_,by simp;omega,fun _=>⟨c,r++[UInt8.ofNat (48+u%10)],by rw [e2];rfl,hc⟩⟩
   ·rw [List.all_append,h1];simp [digB,hb];omega
   ·rw [qahx,h2,hb];omega
theorem qdv (u:Nat):(Lib.decDigits u).all digB=true∧valD 0 (Lib.decDigits u)=u∧(1≤u → ∃ c r,Lib.decDigits u=c :: r∧c.toNat≠48):=by
 obtain ⟨h1,h2,_,h4⟩:=qjs u u (Nat.lt_of_lt_of_le (Nat.lt_pow_self (by decide:1<10)) (Nat.pow_le_pow_right (by decide) (Nat.le_succ u)))
 exact ⟨h1,h2,h4⟩
theorem qagu : ∀ (n:Nat) (s:List UInt8),s.length=n+1→s.all digB=true→(n=0 ∨ ∃ c r,s=c :: r∧c.toNat≠48)→Lib.decDigits (valD 0 s)=s
 | 0,s,hl,hd,_=>by
  obtain ⟨b,rfl⟩ : ∃ b,s=[b]:=by
   match s,hl with
   | [b],_=>exact ⟨b,rfl⟩
  have hb:48≤b.toNat∧b.toNat≤57:=by simpa [digB] using hd
  have:valD 0 [b]=b.toNat-48:=by show 0*10+(b.toNat-48)=_;omega
  rw [this,Lib.decDigits,dif_pos (by omega)]
  congr 1
  refine UInt8.toNat_inj.1 ?_
  rw [qs4 (by omega)]
  omega
 | n+1,s,hl,hd,h0=>by
  obtain ⟨c,r,e,hc⟩ : ∃ c r,s=c :: r∧c.toNat≠48:=by
   rcases h0 with h0 | h0
   ·omega
   ·exact h0
  obtain ⟨t,b,rfl⟩ : ∃ t b,s=t++[b]:=by
   exact ⟨s.dropLast,s.getLast (by rw [e];simp),(List.dropLast_concat_getLast (by rw [e];simp)).symm⟩
  rw [List.all_append,Bool.and_eq_true] at hd
  have hb:48≤b.toNat∧b.toNat≤57:=by simpa [digB] using hd.2
  have ht:t.length=n+1:=by simpa using hl
  obtain ⟨d,q,rfl⟩ : ∃ d q,t=d :: q:=by
   cases t with
   | nil=>simp at ht
   | cons d q=>exact ⟨d,q,rfl⟩
  have hdc:d=c:=by
   have:d :: (q++[b])=c :: r:=e
   exact (List.cons.inj this).1
  have ih:=qagu n (d :: q) ht hd.1 (.inr ⟨d,q,rfl,by rw [hdc];exact hc⟩)
  have hv:1≤valD 0 (d :: q):=by
   rcases Nat.eq_zero_or_pos (valD 0 (d :: q)) with h | h
   ·rw [h] at ih
    have h0:Lib.decDigits 0=[48]:=by rw [Lib.decDigits,dif_pos (by decide)];rfl
    rw [h0] at ih
    have:d=48:=(List.cons.inj ih).1.symm
    rw [← hdc,this] at hc
    exact absurd rfl hc
   ·exact h
  rw [qahx,Lib.decDigits,dif_neg (by omega)]
  have e1:(valD 0 (d :: q)*10+(b.toNat-48))/10=valD 0 (d :: q):=by omega
  have e2:(valD 0 (d :: q)*10+(b.toNat-48))%10=b.toNat-48:=by omega
  rw [e1,e2,ih]
  congr 2
  refine UInt8.toNat_inj.1 ?_
  rw [qs4 (by omega)]
  omega
def numOK (m:Nat) (s:List UInt8):Bool:=decide (s=Lib.decDigits (valD 0 s))&&decide (valD 0 s≤m)
theorem numOK_iff {m:Nat} {s:List UInt8} : numOK m s=true ↔ ∃ k,k≤m∧s=Lib.decDigits k:=by
 unfold numOK
 rw [Bool.and_eq_true,decide_eq_true_eq,decide_eq_true_eq]
 constructor
 ·exact fun ⟨h1,h2⟩=>⟨_,h2,h1⟩
 ·rintro ⟨k,hk,rfl⟩
  have:=(qdv k).2.1
  rw [this]
  exact ⟨rfl,hk⟩
theorem qr7 : ∀ (l:List UInt8) (acc:Nat),l.all digB=true→valD acc l≤999999999999999999→Lib.parseUintM (2^64-1) acc l = .ok (valD acc l)
 | [],_,_,_=>rfl
 | c :: r,acc,hd,hv=>by
  rw [List.all_cons,Bool.and_eq_true] at hd
  have hc:48≤c.toNat∧c.toNat≤57:=by simpa [digB] using hd.1
  have hv':valD (acc*10+(c.toNat-48)) r≤999999999999999999:=hv
  have hge:=qalt r (acc*10+(c.toNat-48))
  unfold Lib.parseUintM
  rw [if_pos hc,if_neg (by omega),if_neg (by omega),qr7 r _ hd.2 hv']
  rfl
theorem qsp {k:Nat} (hk:k≤999999999999999999):parseInt64 (Lib.decDigits k)=((k:Int),true):=by
 obtain ⟨h1,h2,_⟩:=qdv k
 have hp:=qr7 (Lib.decDigits k) 0 h1 (by rw [h2];exact hk)
 rw [h2] at hp
 have hne:=qr1 k
 unfold parseInt64
 have:Lib.parseIntB 64 (Lib.decDigits k) = .ok (k:Int):=by
  cases hd:Lib.decDigits k with
  | nil=>rw [hd] at hne;simp at hne
  | cons c r =>
   rw [hd,List.all_cons,Bool.and_eq_true] at h1
   have hc:48≤c.toNat∧c.toNat≤57:=by simpa [digB] using h1.1
   rw [hd] at hp
   unfold Lib.parseIntB
   simp only [if_neg (show ¬ (c.toNat=43∨c.toNat=45) by omega),Lib.parseUintB,if_neg (show ¬ (c :: r=[]) by simp),hp]
   rw [if_neg (by omega),if_neg (by omega),if_neg (by omega)]
 rw [this]
theorem qabo (s:List UInt8) : -9223372036854775808≤(parseInt64 s).1∧(parseInt64 s).1≤9223372036854775807:=by
 unfold parseInt64
 cases h:Lib.parseIntB 64 s with
 | ok v =>
  have:=Lib.parseIntB_bounds (B:=64) h
  simp at this ⊢
  omega
 | range =>
  show -9223372036854775808≤Lib.intSat 64 s∧Lib.intSat 64 s≤9223372036854775807
  unfold Lib.intSat
  split <;> decide
 | _=>exact ⟨by show (-9223372036854775808:Int)≤0;decide,by show (0:Int)≤9223372036854775807;decide⟩
theorem qzk {s:List UInt8} (h:s.length≤1048576):qdu s 10 64=some (((parseInt64 s).1,(parseInt64 s).2,()),()):=by
 unfold qdu
 rw [qfq,qfq,Nat.ble_eq_true_of_le (by omega)]
 rfl
theorem qai1 {n:Int} (h:0≤n):Lib.itoa n=Lib.decDigits n.toNat:=by
 unfold Lib.itoa
 rw [if_neg (by omega)]
theorem qakm {m:Nat} {s:List UInt8} (hm:m≤999999999999999999) (h:numOK m s=true):(parseInt64 s)=((valD 0 s:Int),true)∧Lib.itoa (valD 0 s:Int)=s∧valD 0 s≤m:=by
 obtain ⟨k,hk,e⟩:=numOK_iff.1 h
 have hv:valD 0 s=k:=by rw [e];exact (qdv k).2.1
 rw [hv]
 refine ⟨by rw [e];exact qsp (by omega),?_,hk⟩
 rw [qai0,e]
theorem qah1 {s:List UInt8} (hs:s.length≤9) : ∀ (r q:List UInt8) (acc:Nat),s=q++r→acc<10^q.length →
  run (qbs s) ((acc:Int),(q.length:Int),())=some ((bif r.all digB then ((valD acc r:Int),true,()) else (0,false,())),()):=by
 intro r
 induction r with
 | nil =>
  intro q acc e ha
  refine qay ?_
  rw [List.append_nil] at e
  have e1:iLt (q.length:Int) (lenI s)=false:=qag (by rw [qaa,e];omega)
  simp only [qbs,e1,cond_false]
  rfl
 | cons b r ih =>
  intro q acc e ha
  have hl:s.length=q.length+(r.length+1):=by rw [e];simp
  have e1:iLt (q.length:Int) (lenI s)=true:=qaf (by rw [qaa];omega)
  have e2:inB (q.length:Int) s.length=true:=qad (by omega)
  have e3:strAt s (q.length:Int)=byteI b:=by rw [qaa1,e];simp [List.getD_eq_getElem?_getD]
  have e5:iAdd .i64 (q.length:Int) 1=((q.length+1:Nat):Int):=qat (n:=s.length) (by omega) (by omega)
  have hpw:10^q.length≤10^8:=Nat.pow_le_pow_right (by decide) (by omega)
  by_cases h1:byteI b<48
  ·have:digB b=false:=by unfold digB;unfold byteI at h1;simp;omega
   rw [List.all_cons,this,Bool.false_and]
   refine qay ?_
   simp only [qbs,e1,e2,e3,qaf h1,cond_true]
   rfl
  ·by_cases h2:57<byteI b
   ·have:digB b=false:=by unfold digB;unfold byteI at h2;simp;omega
    rw [List.all_cons,this,Bool.false_and]
    refine qay ?_
    simp only [qbs,e1,e2,e3,qag h1,qaf h2,cond_true,cond_false]
    rfl
   ·have hd:digB b=true:=by unfold digB;unfold byteI at h1 h2;simp;omega
    have e6:iWrap .i64 (iSub .u8 (byteI b) 48)=((b.toNat-48:Nat):Int):=by
     have e7:iSub .u8 (byteI b) 48=((b.toNat-48:Nat):Int):=by
      unfold byteI at h1 h2 ⊢
      simp [iSub,IntKind.wrap,IntKind.signed,IntKind.bits];omega
     rw [e7]
     exact qfy (by omega) (by unfold byteI at h2;omega)
    have e8:iAdd .i64 (iMul .i64 (acc:Int) 10) ((b.toNat-48:Nat):Int)=((acc*10+(b.toNat-48):Nat):Int):=by
     unfold byteI at h2
     rw [qwr (by omega) (by omega),qba (by omega) (by omega)]
     omega
    have st:qbs s ((acc:Int),(q.length:Int),())=some (.inl (((acc*10+(b.toNat-48):Nat):Int),((q.length+1:Nat):Int),())):=by
     simp only [qbs,e1,e2,e3,e5,e6,e8,qag h1,qag h2,cond_true,cond_false]
    rw [qar st]
    have:=ih (q++[b]) (acc*10+(b.toNat-48)) (by rw [e];simp) (by rw [List.length_append,List.length_singleton,Nat.pow_succ];unfold byteI at h2;omega)
    rw [show (q++[b]).length=q.length+1 by simp] at this
    rw [this,List.all_cons,hd]
    rfl
theorem qagh : ∀ (l:List UInt8) (acc n:Nat),l.all digB=true→acc<10^n→valD acc l<10^(n+l.length)
 | [],_,_,_,h=>h
 | b :: l,acc,n,hd,h=>by
  rw [List.all_cons,Bool.and_eq_true] at hd
  have hb:48≤b.toNat∧b.toNat≤57:=by simpa [digB] using hd.1
  have:=qagh l (acc*10+(b.toNat-48)) (n+1) hd.2 (by rw [Nat.pow_succ];omega)
  rw [List.length_cons,show n+(l.length+1)=n+1+l.length by omega]
  exact this
theorem qabt (s:List UInt8):qgi s=some ((bif numOK 999999999 s then ((valD 0 s:Int),true,()) else (0,false,())),())∨(numOK 999999999 s=false ∧ ∃ n,qgi s=some ((n,false,()),())):=by
 have h52:qps=qbs:=rfl
 unfold qgi
 by_cases h1:lenI s<1
 ·have:s=[]:=by rw [qaa] at h1;exact List.length_eq_zero_iff.1 (by omega)
  subst this
  refine .inr ⟨?_,0,by rw [qaf h1];rfl⟩
  rw [← Bool.not_eq_true,numOK_iff]
  rintro ⟨k,_,e⟩
  have:=qr1 k
  rw [← e] at this
  simp at this
 ·by_cases h9:9<lenI s
  ·refine .inr ⟨?_,0,by rw [qag h1,qaf h9];rfl⟩
   rw [← Bool.not_eq_true,numOK_iff]
   rintro ⟨k,hk,e⟩
   have:=(qjs 8 k (by omega)).2.2.1
   rw [← e] at this
   rw [qaa] at h9
   omega
  ·rw [qaa] at h1 h9
   have i0:inB 0 s.length=true:=qad (i:=0) (by omega)
   have hrun:=qah1 (s:=s) (by omega) s [] 0 (by simp) (by simp)
   rw [qaa,qag h1,qag h9]
   simp only [cond_false,cond_true,i0,h52]
   obtain ⟨c,r,rfl⟩ : ∃ c r,s=c :: r:=by
    cases s with
    | nil=>simp at h1
    | cons c r=>exact ⟨c,r,rfl⟩
   have ec:strAt (c :: r) 0=byteI c:=rfl
   have key:(byteI c≠48∨r=[])→run (qbs (c :: r)) (0,0,())=some ((bif numOK 999999999 (c :: r) then ((valD 0 (c :: r):Int),true,()) else (0,false,())),()):=by
    intro hlead
    have hrun:run (qbs (c :: r)) (0,0,())=_:=hrun
    rw [hrun]
    cases hd:(c :: r).all digB with
    | true =>
     have hn:numOK 999999999 (c :: r)=true:=by
      refine numOK_iff.2 ⟨valD 0 (c :: r),?_,(qagu r.length (c :: r) (by simp) hd ?_).symm⟩
      ·have:=qagh (c :: r) 0 0 hd (by decide)
       have h2:10^(0+(c :: r).length)≤10^9:=Nat.pow_le_pow_right (by decide) (by omega)
       omega
      ·rcases hlead with h | h
       ·exact .inr ⟨c,r,rfl,fun e=>h (by unfold byteI;omega)⟩
       ·exact .inl (by rw [h];rfl)
     rw [hn]
    | false =>
     have hn:numOK 999999999 (c :: r)=false:=by
      rw [← Bool.not_eq_true,numOK_iff]
      rintro ⟨k,_,e⟩
      rw [e,(qdv k).1] at hd
      cases hd
     rw [hn]
   rw [ec]
   by_cases h48:byteI c=48
   ·rw [qfh h48]
    by_cases h11:(1:Int)<((c :: r).length:Int)
    ·refine .inr ⟨?_,0,by rw [qaf h11];rfl⟩
     rw [← Bool.not_eq_true,numOK_iff]
     rintro ⟨k,_,e⟩
     rcases Nat.eq_zero_or_pos k with rfl | hk
     ·rw [show Lib.decDigits 0=[48] by rw [Lib.decDigits,dif_pos (by decide)];rfl] at e
      rw [e] at h11
      simp at h11
     ·obtain ⟨_,_,hh⟩:=qdv k
      obtain ⟨c',r',e',hc'⟩:=hh hk
      rw [e'] at e
      have:=(List.cons.inj e).1
      rw [← this] at hc'
      exact hc' (by unfold byteI at h48;omega)
    ·have hr:r=[]:=by
      cases r with
      | nil=>rfl
      | cons d r=>simp at h11;omega
     rw [qag h11]
     exact .inl (key (.inr hr))
   ·rw [qaz h48]
    exact .inl (key (.inl h48))
theorem qah2 (s:List UInt8) : ∃ n:Int,qgi s=some ((n,numOK 999999999 s,()),())∧(numOK 999999999 s=true→n=(valD 0 s:Int)):=by
 rcases qabt s with h | ⟨h,n,h'⟩
 ·cases hn:numOK 999999999 s with
  | true=>rw [hn] at h;exact ⟨_,h,fun _=>rfl⟩
  | false=>rw [hn] at h;exact ⟨_,h,fun h=>by cases h⟩
 ·exact ⟨n,by rw [h];exact h',fun h''=>by rw [h] at h'';cases h''⟩
end
section
def digsL:List UInt8:=[48,49,50,51,52,53,54,55,56,57,97,98,99,100,101,102,103,104,105,106,107,108,109,110,111,112,113,114,115,116,117,118,119,120,121,122]
def hexC (d:Nat):UInt8:=digsL.getD d 0
def hexG:Nat→Nat→List UInt8
 | 0,n=>[hexC n]
 | k+1,n=>if n<16 then [hexC n] else hexG k (n/16)++[hexC (n%16)]
def hexP:Nat→Nat→List UInt8
 | 0,_=>[]
 | k+1,n=>hexP k (n/16)++[hexC (n%16)]
theorem qgc : ∀ k n,(hexP k n).length=k
 | 0,_=>rfl
 | k+1,n=>by rw [hexP,List.length_append,qgc k];rfl
theorem qau6 {u:Int} (h0:0≤u) (h1:u<18446744073709551616):iAnd .u64 u 15=u%16:=by
 obtain ⟨n,rfl⟩:=Int.eq_ofNat_of_zero_le h0
 have hb:(BitVec.ofInt 64 ((n:Nat):Int)).toNat=n:=by
  rw [BitVec.toNat_ofInt];omega
 have e2:(BitVec.ofInt 64 15).toNat=15:=by decide
 have h:((BitVec.ofInt IntKind.u64.bits ((n:Nat):Int) &&& BitVec.ofInt IntKind.u64.bits 15).toNat)=n%16:=by
  show ((BitVec.ofInt 64 ((n:Nat):Int) &&& BitVec.ofInt 64 15).toNat)=n%16
  rw [BitVec.toNat_and,e2,hb]
  exact Nat.and_two_pow_sub_one_eq_mod n 4
 unfold iAnd
 rw [h]
 simp [IntKind.wrap,IntKind.signed,IntKind.bits]
 omega
theorem shr4 {u:Int} (h0:0≤u):iShr .u64 u 4=u/16:=by
 show u.fdiv (2^(min (4:Int).toNat 64))=u/16
 rw [Int.fdiv_eq_ediv_of_nonneg _ (by decide)]
 rfl
theorem qalj : ∀ (k:Nat) (n:Nat) (f:Nat),n<16^(k+1)→k≤f→List.replicate (k+1-(hexG f n).length) 48++hexG f n=hexP (k+1) n∧(hexG f n).length≤k+1
 | 0,n,f,h,_=>by
  have h:n<16:=h
  have e:hexG f n=[hexC n]:=by
   cases f with
   | zero=>rfl
   | succ f=>rw [hexG,if_pos h]
  have e2:n%16=n:=Nat.mod_eq_of_lt h
  rw [e]
  refine ⟨?_,Nat.le_refl _⟩
  show [hexC n]=hexP 0 (n/16)++[hexC (n%16)]
  rw [e2];rfl
 | k+1,n,0,h,hf=>by omega
 | k+1,n,f+1,h,hf=>by
  by_cases hn:n<16
  ·have e2:n%16=n:=Nat.mod_eq_of_lt hn
   have e3:n/16=0:=Nat.div_eq_of_lt hn
   have hz : ∀ j,hexP j 0=List.replicate j 48:=by
    intro j
    induction j with
    | zero=>rfl
    | succ j ih=>rw [hexP,show 0/16=0 from rfl,ih,List.replicate_succ'];rfl
   rw [hexG,if_pos hn]
   refine ⟨?_,by simp⟩
   show List.replicate (k+1+1-1) 48++[hexC n]=hexP (k+1) (n/16)++[hexC (n%16)]
   rw [e2,e3,hz]
   rfl
  ·have hd:n/16<16^(k+1):=by
    rw [Nat.div_lt_iff_lt_mul (by decide)]
    rw [Nat.pow_succ] at h
    exact h
   obtain ⟨h1,h2⟩:=qalj k (n/16) f hd (by omega)
   rw [hexG,if_neg hn,List.length_append]
   refine ⟨?_,by simp;omega⟩
   rw [show k+1+1-((hexG f (n/16)).length+[hexC (n%16)].length)=k+1-(hexG f (n/16)).length by simp,← List.append_assoc,h1]
   rfl
theorem qahy {α:Type} {z:α} : ∀ (n:Nat) (v:Vec n α) (i j:Nat) (x:α),i<n→Vec.getD n (Vec.set n v i x) j z=if j=i then x else Vec.getD n v j z
 | 0,_,_,_,_,h=>absurd h (Nat.not_lt_zero _)
 | _+1,_,0,0,_,_=>rfl
 | _+1,_,0,_+1,_,_=>rfl
 | _+1,_,_+1,0,_,_=>rfl
 | n+1,v,i+1,j+1,x,h=>by
  have:=qahy (z:=z) n v.2 i j x (Nat.lt_of_succ_lt_succ h)
  show Vec.getD n (Vec.set n v.2 i x) j z=_
  rw [this]
  by_cases e:j=i
  ·rw [if_pos e,if_pos (congrArg (· + 1) e)]
  ·rw [if_neg e,if_neg (fun h=>e (Nat.succ.inj h))]
   rfl
theorem qafg (d:Nat):strAt digsL (d:Int)=byteI (hexC d):=qaa1 _ d
theorem quw (b:UInt8):toByte (byteI b)=b:=by
 unfold toByte byteI
 rw [Int.toNat_natCast]
 exact UInt8.ofNat_toNat
def list65 (V:Vec 65 Int):List Int:=(List.range 65).map fun j=>Vec.getD 65 V j (0:Int)
theorem qau4 {V:Vec 65 Int} {i:Nat} {L:List UInt8} (hi:i+L.length=65) (h : ∀ j (hj:j<L.length),Vec.getD 65 V (i+j) (0:Int)=byteI L[j]):ofBytes (List.take (65-i) (List.drop i (list65 V)))=L:=by
 have e:List.take (65-i) (List.drop i (list65 V))=L.map byteI:=by
  unfold list65
  apply List.ext_getElem
  ·simp;omega
  ·intro j h1 h2
   simp only [List.getElem_map,List.getElem_take,List.getElem_drop,List.getElem_range]
   exact h j (by simpa using h2)
 rw [e]
 unfold ofBytes
 rw [List.map_map]
 have:toByte ∘ byteI=id:=by funext b;exact quw b
 rw [this,List.map_id]
theorem qar0 (u i:Int) (V:Vec 65 Int):qca 16 15 4 false false (u,i,V,()) =
  bif iLe 16 u then (bif inB (iAnd .u64 u 15) digsL.length then bif inB (iSub .i64 i 1) 65 then bif iLe 0 4 then some (.inl (iShr .u64 u 4,iSub .i64 i 1,Vec.set 65 V (iSub .i64 i 1).toNat (strAt digsL (iAnd .u64 u 15)),())) else none else none else none)
  else Option.map Sum.inr (bif inB u digsL.length then bif inB (iSub .i64 i 1) 65 then bif inS (iSub .i64 i 1) ((65:Nat):Int) 65 then some ((([]:List Int),ofBytes (List.take (65-(iSub .i64 i 1).toNat) (List.drop (iSub .i64 i 1).toNat (list65 (Vec.set 65 V (iSub .i64 i 1).toNat (strAt digsL u))))),()),()) else none else none else none):=by kernel_rfl
theorem qans : ∀ (f n:Nat) (i:Nat) (V:Vec 65 Int) (L:List UInt8),n<16^(f+1)→f≤8→f+1≤i→i+L.length=65→(∀ j (hj:j<L.length),Vec.getD 65 V (i+j) (0:Int)=byteI L[j]) →
  run (qca 16 15 4 false false) ((n:Int),(i:Int),V,())=some ((([]:List Int),hexG f n++L,()),())
 | f,n,i,V,L,hn,hf,hi,hl,hV=>by
  have hp:(16:Nat)^(f+1)≤16^9:=Nat.pow_le_pow_right (by decide) (by omega)
  have hp9:(16:Nat)^9=68719476736:=by decide
  obtain ⟨q,rfl⟩ : ∃ q,i=q+1:=⟨i-1,by omega⟩
  have ei:iSub .i64 ((q+1:Nat):Int) 1=(q:Int):=(qcm (by omega) (by omega)).trans (by omega)
  have eb:inB (q:Int) 65=true:=qad (by omega)
  have hset : ∀ (x:UInt8),∀ j (hj:j<(x :: L).length),Vec.getD 65 (Vec.set 65 V q (byteI x)) (q+j) (0:Int)=byteI (x :: L)[j]:=by
   intro x j hj
   rw [qahy 65 V q (q+j) _ (by omega)]
   cases j with
   | zero=>rw [if_pos (Nat.add_zero q)];rfl
   | succ j =>
    rw [if_neg (by omega)]
    simp only [List.getElem_cons_succ]
    rw [← hV j (by simpa using hj)]
    congr 1
    omega
  by_cases h16:n<16
  ·have e:hexG f n=[hexC n]:=by
    cases f with
    | zero=>rfl
    | succ f=>rw [hexG,if_pos h16]
   rw [e]
   refine qay ?_
   have e1:iLe 16 (n:Int)=false:=qg9 (by omega)
   have e2:inB (n:Int) digsL.length=true:=qad (show n<36 by omega)
   have e3:inS (q:Int) ((65:Nat):Int) 65=true:=by unfold inS;simp;omega
   rw [qar0,e1,ei,e2,eb,e3,qafg,Int.toNat_natCast]
   simp only [cond_true,cond_false,Option.map_some]
   have:=qau4 (V:=Vec.set 65 V q (byteI (hexC n))) (i:=q) (L:=hexC n :: L) (by simp;omega) (hset (hexC n))
   exact congrArg (fun z=>some (Sum.inr ((([]:List Int),z,()),()))) this
  ·cases f with
   | zero=>exact absurd hn h16
   | succ f =>
    have hd:n/16<16^(f+1):=by
     rw [Nat.div_lt_iff_lt_mul (by decide)]
     rw [Nat.pow_succ] at hn
     exact hn
    have e1:iLe 16 (n:Int)=true:=qa3 (by omega)
    have e4:iAnd .u64 (n:Int) 15=((n%16:Nat):Int):=by
     rw [qau6 (by omega) (by omega)];omega
    have e5:iShr .u64 (n:Int) 4=((n/16:Nat):Int):=by
     rw [shr4 (by omega)];omega
    have e2:inB ((n%16:Nat):Int) digsL.length=true:=qad (show n%16<36 by omega)
    have e6:iLe 0 (4:Int)=true:=by decide
    have st:qca 16 15 4 false false ((n:Int),((q+1:Nat):Int),V,())=some (.inl (((n/16:Nat):Int),(q:Int),Vec.set 65 V q (byteI (hexC (n%16))),())):=by
     rw [qar0,e1,ei,e4,e5,e2,eb,e6,qafg,Int.toNat_natCast]
     rfl
    rw [qar st]
    have:=qans f (n/16) q (Vec.set 65 V q (byteI (hexC (n%16)))) (hexC (n%16) :: L) hd (by omega) (by omega) (by simp;omega) (hset _)
    rw [this,hexG,if_neg h16]
    simp
theorem qx0 {n:Nat} (h:n<4294967296):qhz (n:Int) 16=some ((hexG 7 n,()),()):=by
 have e0:iEq (16:Int) 10=false:=by decide
 have e1:iLt (16:Int) 2=false:=by decide
 have e2:iLt 36 (16:Int)=false:=by decide
 have e3:qcs 16=some ((true,()),()):=by kernel_rfl
 have e4:iWrap .u64 (16:Int)=16:=by decide
 have e5:qbu 16=some ((4,()),()):=rfl
 have e6:iSub .u64 (16:Int) 1=15:=by decide
 have e7:iWrap .u64 (4:Int)=4:=by decide
 have:=qans 7 n 65 ((0,0,0,0,0,0,0,0,0,0,0,0,0,0,0,0,0,0,0,0,0,0,0,0,0,0,0,0,0,0,0,0,0,0,0,0,0,0,0,0,0,0,0,0,0,0,0,0,0,0,0,0,0,0,0,0,0,0,0,0,0,0,0,0,0,()):Vec 65 Int) [] (Nat.lt_of_lt_of_le h (by decide)) (by decide) (by decide) rfl (fun j hj=>by cases hj)
 rw [List.append_nil] at this
 have hfb:qdc ([]:List Int) (n:Int) 16 false false=some ((([]:List Int),hexG 7 n,()),()):=by
  unfold qdc
  rw [e0,e1,e2]
  simp only [cond_false,e3,Option.bind_some,cond_true,e4,e5,e6,e7]
  exact this
 unfold qhz qfd
 rw [e0]
 simp only [cond_false,hfb,Option.bind_some]
def bitsOf (a:Nat):Nat:=if fEq .f32 a a=true then a else 2143289344
theorem qalk : ∀ (d:Nat) (s:List UInt8),d+s.length=8→run (qfb) (s,())=some ((List.replicate d 48++s,()),())
 | 0,s,h=>by
  have e:iLt (lenI s) 8=false:=qag (by rw [qaa];omega)
  refine qay ?_
  unfold qfb
  simp only
  rw [e];rfl
 | d+1,s,h=>by
  have e:iLt (lenI s) 8=true:=qaf (by rw [qaa];omega)
  have e2:strRoom ([48]) s=true:=by unfold strRoom;simp;omega
  have st:qfb (s,())=some (.inl (48 :: s,())):=by
   unfold qfb
   simp only
   rw [e,e2];rfl
  rw [qar st,qalk d (48 :: s) (by simp;omega),List.replicate_succ']
  simp
theorem qfc {a:Nat} (h:a<4294967296):qd8 a=some ((hexP 8 (bitsOf a),()),()):=by
 unfold qd8 qf6 bitsOf
 simp only [Option.bind_some]
 cases hn:fEq .f32 a a with
 | false=>exact (by kernel_rfl:some (([55,102,99,48,48,48,48,48],()),())=some ((hexP 8 2143289344,()),()))
 | true =>
  simp only [Bool.not_true,cond_false,if_true]
  refine qn7 fun q => ?_
  have hq:bitsF .f32 a q=(a:Int):=by
   unfold bitsF
   rw [qm6] at hn
   simp only [Bool.not_eq_true'] at hn
   rw [hn]
   rfl
  have hw:iWrap .u64 (a:Int)=(a:Int):=by simp [iWrap,IntKind.wrap,IntKind.signed,IntKind.bits];omega
  obtain ⟨p1,p2⟩:=qalj 7 a 7 (Nat.lt_of_lt_of_le h (by decide)) (Nat.le_refl _)
  rw [hq,hw,qx0 h]
  simp only [Option.bind_some]
  rw [qalk (8-(hexG 7 a).length) (hexG 7 a) (by omega),p1]
theorem qagm {a:Nat} (h:a<4294967296):bitsOf a<4294967296:=by
 unfold bitsOf
 split
 ·exact h
 ·decide
theorem qae9 {a:Nat} (h:a<4294967296):quf a=some ((((bitsOf a:Nat):Int),()),()):=by
 unfold quf bitsOf
 cases hn:fEq .f32 a a with
 | false=>rfl
 | true =>
  simp only [Bool.not_true,cond_false,if_true]
  refine qn7 fun q => ?_
  have hq:bitsF .f32 a q=(a:Int):=by
   unfold bitsF
   rw [qm6] at hn
   simp only [Bool.not_eq_true'] at hn
   rw [hn]
   rfl
  rw [hq]
theorem qavf (n:Nat):iRem .u32 (n:Int) 16=((n%16:Nat):Int):=by
 unfold iRem
 rw [Int.tmod_eq_emod_of_nonneg (by omega)]
 omega
theorem qyp {n:Nat} (h:n<4294967296):iQuo .u32 (n:Int) 16=((n/16:Nat):Int):=by
 unfold iQuo
 rw [Int.tdiv_eq_ediv_of_nonneg (by omega)]
 simp [IntKind.wrap,IntKind.signed,IntKind.bits]
 omega
theorem qavg (n:Nat):strAt [48,49,50,51,52,53,54,55,56,57,97,98,99,100,101,102] ((n%16:Nat):Int)=byteI (hexC (n%16)):=by
 have key : ∀ d:Fin 16,strAt [48,49,50,51,52,53,54,55,56,57,97,98,99,100,101,102] ((d.val:Nat):Int)=byteI (hexC d.val):=by decide
 exact key ⟨n%16,Nat.mod_lt _ (by decide)⟩
theorem in16 (n:Nat):inB ((n%16:Nat):Int) 16=true:=qad (Nat.mod_lt _ (by decide))
theorem qaga {a:Nat} (h:a<4294967296):qkc a=some ((hexP 8 (bitsOf a),()),()):=by
 have hb:=qagm h
 have e:=qae9 h
 generalize bitsOf a=b at hb e
 have q1:=qyp hb
 have q2:=qyp (n:=b/16) (by omega)
 have q3:=qyp (n:=b/16/16) (by omega)
 have q4:=qyp (n:=b/16/16/16) (by omega)
 have q5:=qyp (n:=b/16/16/16/16) (by omega)
 have q6:=qyp (n:=b/16/16/16/16/16) (by omega)
 have q7:=qyp (n:=b/16/16/16/16/16/16) (by omega)
 have hr:(iLe 0 8&&iLe 8 8&&room ((8:Int)).toNat 1)=true:=by decide
 unfold qkc
 rw [e]
 simp only [Option.bind_some,hr,cond_true,q1,q2,q3,q4,q5,q6,q7,qavf,List.length_cons,List.length_nil,Nat.reduceAdd,in16,qavg,List.length_set,List.length_replicate]
 have hs : ∀ j:Nat,j<8→inB (j:Int) (8:Int).toNat=true:=fun j hj=>qad hj
 have s0:=hs 0 (by decide);have s1:=hs 1 (by decide);have s2:=hs 2 (by decide);have s3:=hs 3 (by decide)
 have s4:=hs 4 (by decide);have s5:=hs 5 (by decide);have s6:=hs 6 (by decide);have s7:=hs 7 (by decide)
 simp only [Int.cast_ofNat_Int] at s0 s1 s2 s3 s4 s5 s6 s7
 rw [show inB 7 (8:Int).toNat=true from s7,show inB 6 (8:Int).toNat=true from s6,show inB 5 (8:Int).toNat=true from s5,show inB 4 (8:Int).toNat=true from s4,show inB 3 (8:Int).toNat=true from s3,show inB 2 (8:Int).toNat=true from s2,show inB 1 (8:Int).toNat=true from s1,show inB 0 (8:Int).toNat=true from s0]
 simp only [cond_true]
 refine congrArg (fun z=>some ((z,()),())) ?_
 show [toByte (byteI (hexC (b/16/16/16/16/16/16/16%16))),toByte (byteI (hexC (b/16/16/16/16/16/16%16))),toByte (byteI (hexC (b/16/16/16/16/16%16))),toByte (byteI (hexC (b/16/16/16/16%16))),toByte (byteI (hexC (b/16/16/16%16))),toByte (byteI (hexC (b/16/16%16))),toByte (byteI (hexC (b/16%16))),toByte (byteI (hexC (b%16)))]=hexP 8 b
 simp only [quw]
 rfl
def lowD (c:UInt8):Option Nat:=if 48≤c.toNat∧c.toNat≤57 then some (c.toNat-48) else if 97≤c.toNat∧c.toNat≤102 then some (c.toNat-87) else none
def lowV:Nat→List UInt8→Option Nat
 | acc,[]=>some acc
 | acc,c :: r=>match lowD c with | none=>none | some d=>lowV (acc*16+d) r
def lowT (n:Nat):Bool:=match lowD (UInt8.ofNat n) with | none=>true | some d=>decide (d<16)&&(decide (hexC d=UInt8.ofNat n)&&decide (hexD (UInt8.ofNat n)=some d))
theorem qas4:(List.range 256).all lowT=true:=by kernel_rfl
theorem qaog {c:UInt8} {d:Nat} (h:lowD c=some d):d<16∧hexC d=c∧hexD c=some d:=by
 have k:=List.all_eq_true.1 qas4 c.toNat (List.mem_range.2 c.toNat_lt)
 unfold lowT at k
 rw [UInt8.ofNat_toNat,h] at k
 simpa using k
theorem qagt : ∀ d:Fin 16,lowD (hexC d.val)=some d.val∧hexD (hexC d.val)=some d.val:=by decide
theorem qaof {d:Nat} (h:d<16):lowD (hexC d)=some d:=(qagt ⟨d,h⟩).1
theorem qan3 {d:Nat} (h:d<16):hexD (hexC d)=some d:=(qagt ⟨d,h⟩).2
theorem qaae (c:UInt8) : ∀ (p:List UInt8) (acc:Nat),lowV acc (p++[c])=(lowV acc p).bind fun a=>(lowD c).map fun d=>a*16+d
 | [],acc=>by
  show lowV acc [c]=_
  simp only [lowV,Option.bind_some]
  cases lowD c <;> rfl
 | b :: p,acc=>by
  show lowV acc (b :: (p++[c]))=_
  simp only [lowV]
  cases lowD b with
  | none=>rfl
  | some d=>exact qaae c p (acc*16+d)
theorem qw8 : ∀ (k:Nat) (s:List UInt8) (v:Nat),s.length=k→lowV 0 s=some v→v<16^k∧s=hexP k v
 | 0,s,v,hl,h=>by
  have:s=[]:=List.length_eq_zero_iff.1 hl
  subst this
  have:v=0:=by simpa [lowV] using h.symm
  subst this
  exact ⟨by decide,rfl⟩
 | k+1,s,v,hl,h=>by
  rcases List.eq_nil_or_concat s with rfl | ⟨p,c,rfl⟩
  ·simp at hl
  ·rw [List.concat_eq_append] at h hl ⊢
   rw [qaae] at h
   cases hp:lowV 0 p with
   | none=>rw [hp] at h;cases h
   | some a =>
    rw [hp] at h
    simp only [Option.bind_some] at h
    cases hc:lowD c with
    | none=>rw [hc] at h;cases h
    | some d =>
     rw [hc] at h
     have hv:a*16+d=v:=by simpa using h
     obtain ⟨h1,h2⟩:=qw8 k p a (by simpa using hl) hp
     obtain ⟨d1,d2,-⟩:=qaog hc
     have e1:v/16=a:=by omega
     have e2:v%16=d:=by omega
     refine ⟨by rw [Nat.pow_succ];omega,?_⟩
     rw [hexP,e1,e2,d2,← h2]
theorem qag6 (c:UInt8) : ∀ (p:List UInt8) (acc a d:Nat),hexM acc p=some (some a)→hexD c=some d→a*16+d≤4294967295→hexM acc (p++[c])=some (some (a*16+d))
 | [],acc,a,d,h,hc,hd=>by
  have:acc=a:=by simpa [hexM] using h
  subst this
  show hexM acc [c]=_
  have:¬ 4294967295<acc*16+d:=by omega
  simp only [hexM,hc,if_neg this]
 | b :: p,acc,a,d,h,hc,hd=>by
  show hexM acc (b :: (p++[c]))=_
  simp only [hexM] at h ⊢
  cases hb:hexD b with
  | none=>rw [hb] at h;cases h
  | some e =>
   rw [hb] at h
   simp only at h ⊢
   by_cases ho:4294967295<acc*16+e
   ·rw [if_pos ho] at h;cases h
   ·rw [if_neg ho] at h ⊢
    exact qag6 c p (acc*16+e) a d h hc hd
theorem qp4 : ∀ (k n:Nat),n<16^k→n≤4294967295→hexM 0 (hexP k n)=some (some n)∧lowV 0 (hexP k n)=some n
 | 0,n,h,_=>by
  have h:n<1:=h
  have:n=0:=by omega
  subst this
  exact ⟨rfl,rfl⟩
 | k+1,n,h,h'=>by
  have hd:n/16<16^k:=by
   rw [Nat.div_lt_iff_lt_mul (by decide)]
   rw [Nat.pow_succ] at h
   exact h
  obtain ⟨h1,h2⟩:=qp4 k (n/16) hd (by omega)
  have hm:n%16<16:=Nat.mod_lt _ (by decide)
  refine ⟨?_,?_⟩
  ·have:=qag6 (hexC (n%16)) (hexP k (n/16)) 0 (n/16) (n%16) h1 (qan3 hm) (by omega)
   rw [hexP,this]
   congr 2
   omega
  ·rw [hexP,qaae,h2,qaof hm]
   simp
   omega
def numR (s:List UInt8):Option Nat :=
 match lowV 0 s with
 | none=>none
 | some v=>if s.length=8∧bitsOf (canon .f32 v)=v then some (canon .f32 v) else none
theorem qadj {v:Nat} (h:v<4294967296):canon .f32 v<4294967296:=by
 unfold canon
 cases isNan .f32 v with
 | true =>
  show nan .f32<4294967296
  decide
 | false=>exact h
theorem qalc : ∀ (s:List UInt8) (acc v:Nat),acc≤4294967295→hexM acc s=some (some v)→v≤4294967295
 | [],acc,v,h,e=>by
  have:acc=v:=by simpa [hexM] using e
  omega
 | c :: s,acc,v,h,e=>by
  simp only [hexM] at e
  cases hc:hexD c with
  | none=>rw [hc] at e;cases e
  | some d =>
   rw [hc] at e
   simp only at e
   by_cases ho:4294967295<acc*16+d
   ·rw [if_pos ho] at e;cases e
   ·rw [if_neg ho] at e
    exact qalc s _ v (by omega) e
theorem qz5 {s:List UInt8} (hs:s.length≤1048576):qkk s=some (match numR s with | some a=>((a,0,()),()) | none=>((0,5,()),())):=by
 have hp:qc9 s 16 32=some (((parseHex s).1,(parseHex s).2,()),()):=by
  unfold qc9
  rw [qfq,qfq,Nat.ble_eq_true_of_le (by omega)]
  rfl
 have bad : ∀ z:Int,((qeb z).bind fun _:(Nat×Unit)×Unit=>some (((0,5,()),()):(Nat×Int×Unit)×Unit))=some ((0,5,()),()):=fun _=>rfl
 unfold qkk
 rw [hp]
 simp only [Option.bind_some]
 cases hx:hexN s with
 | none =>
  have h2:(parseHex s).2=false:=by unfold parseHex;rw [hx]
  have hn:numR s=none:=by
   unfold numR
   cases hl:lowV 0 s with
   | none=>rfl
   | some v =>
    simp only
    rw [if_neg]
    rintro ⟨h8,-⟩
    obtain ⟨h1,h3⟩:=qw8 8 s v h8 hl
    have h1:v<4294967296:=h1
    have:=(qp4 8 v h1 (by omega)).1
    rw [← h3] at this
    cases s with
    | nil=>cases h8
    | cons c r =>
     rw [show hexN (c :: r)=hexM 0 (c :: r) from rfl,this] at hx
     cases hx
  rw [h2,hn]
  rfl
 | some o =>
  cases o with
  | none =>
   have h2:(parseHex s).2=false:=by unfold parseHex;rw [hx]
   have hn:numR s=none:=by
    unfold numR
    cases hl:lowV 0 s with
    | none=>rfl
    | some v =>
     simp only
     rw [if_neg]
     rintro ⟨h8,-⟩
     obtain ⟨h1,h3⟩:=qw8 8 s v h8 hl
     have h1:v<4294967296:=h1
     have:=(qp4 8 v h1 (by omega)).1
     rw [← h3] at this
     cases s with
     | nil=>cases h8
     | cons c r =>
      rw [show hexN (c :: r)=hexM 0 (c :: r) from rfl,this] at hx
      cases hx
   rw [h2,hn]
   rfl
  | some v =>
   have hne:s≠[]:=by rintro rfl;cases hx
   have hM:hexM 0 s=some (some v):=by
    cases s with
    | nil=>exact absurd rfl hne
    | cons c r=>exact hx
   have hv:v≤4294967295:=qalc s 0 v (by decide) hM
   have h1:(parseHex s).1=(v:Int):=by unfold parseHex;rw [hx]
   have h2:(parseHex s).2=true:=by unfold parseHex;rw [hx]
   have hw:iWrap .u32 (v:Int)=(v:Int):=by simp [iWrap,IntKind.wrap,IntKind.signed,IntKind.bits];omega
   have hf:qeb (v:Int)=some ((canon .f32 v,()),()):=by
    unfold qeb
    rw [Int.toNat_natCast]
   have hcl:=qadj (v:=v) (by omega)
   rw [h1,h2,hw,hf]
   simp only [Option.bind_some,Bool.not_true,cond_false]
   rw [qfc hcl]
   simp only [Option.bind_some]
   have hbl:=qagm hcl
   by_cases he:hexP 8 (bitsOf (canon .f32 v))=s
   ·have hback:=qp4 8 (bitsOf (canon .f32 v)) hbl (by omega)
    rw [he] at hback
    have hvv:bitsOf (canon .f32 v)=v:=by
     have:=hback.1.symm.trans hM
     simpa using this
    have hn:numR s=some (canon .f32 v):=by
     unfold numR
     rw [hback.2,hvv]
     simp only
     rw [if_pos ⟨by rw [← he];exact qgc 8 _,hvv⟩]
    rw [he,qac0,hn]
    rfl
   ·have hse:sEq (hexP 8 (bitsOf (canon .f32 v))) s=false:=by
     cases hq:sEq (hexP 8 (bitsOf (canon .f32 v))) s with
     | false=>rfl
     | true=>exact absurd (by simpa [sEq] using hq) he
    have hn:numR s=none:=by
     unfold numR
     cases hl:lowV 0 s with
     | none=>rfl
     | some u =>
      simp only
      rw [if_neg]
      rintro ⟨h8,h9⟩
      obtain ⟨k1,k2⟩:=qw8 8 s u h8 hl
      have k1:u<4294967296:=k1
      have:=(qp4 8 u k1 (by omega)).1
      rw [← k2,hM] at this
      have huv:v=u:=by simpa using this
      subst huv
      rw [h9] at he
      exact he k2.symm
    rw [hse,hn]
    rfl
theorem qahj {s:List UInt8} {a:Nat} (h:numR s=some a):a<4294967296∧hexP 8 (bitsOf a)=s:=by
 unfold numR at h
 cases hl:lowV 0 s with
 | none=>rw [hl] at h;cases h
 | some v =>
  rw [hl] at h
  simp only at h
  by_cases hc:s.length=8∧bitsOf (canon .f32 v)=v
  ·rw [if_pos hc] at h
   have ha:canon .f32 v=a:=Option.some.inj h
   obtain ⟨h1,h2⟩:=qw8 8 s v hc.1 hl
   have h1:v<4294967296:=h1
   rw [← ha,hc.2]
   exact ⟨qadj h1,h2.symm⟩
  ·rw [if_neg hc] at h;cases h
theorem qaos {b:Nat} (h:b<4294967296):numR (hexP 8 b)=if bitsOf (canon .f32 b)=b then some (canon .f32 b) else none:=by
 unfold numR
 rw [(qp4 8 b h (by omega)).2]
 simp only
 by_cases hc:bitsOf (canon .f32 b)=b
 ·rw [if_pos ⟨qgc 8 b,hc⟩,if_pos hc]
 ·rw [if_neg (fun k=>hc k.2),if_neg hc]
end
section
abbrev TySpot:Ty:=.arr 2 (.int .i16)
abbrev DGrid:=Int×(Int×((List Int)×Unit))
def gridB (g:DGrid):Bool:=(iLe 1 g.1&&iLe g.1 24)&&((iLe 1 g.2.1&&iLe g.2.1 24)&&iEq (lenI g.2.2.1) (iMul .i64 g.1 g.2.1))
def hasB (g:DGrid) (s:Vec 2 Int):Bool:=(iLe 0 (iWrap .i64 (Vec.getD 2 s 0 (0:Int)))&&iLe (iWrap .i64 (Vec.getD 2 s 0 (0:Int))) (iSub .i64 g.1 1))&&(iLe 0 (iWrap .i64 (Vec.getD 2 s 1 (0:Int)))&&iLe (iWrap .i64 (Vec.getD 2 s 1 (0:Int))) (iSub .i64 g.2.1 1))
section
variable {g : DGrid} (hg : gridB g = true) {a b : Vec 2 Int} (ha : Fit TySpot a) (hb : Fit TySpot b) (hha : hasB g a = true) (hhb : hasB g b = true)
include hg ha hb hha hhb
end
end
section
theorem qqr (c:UInt8) : ∀ s:List UInt8,(splitC c s).flatten=s.filter (fun b => !decide (b=c))
 | []=>rfl
 | b :: s=>by
  have ih:=qqr c s
  unfold splitC
  by_cases h:b=c
  ·rw [if_pos h,List.flatten_cons,ih,List.filter_cons_of_neg (by simp [h])];rfl
  ·rw [if_neg h,List.filter_cons_of_pos (by simp [h])]
   cases hs:splitC c s with
   | nil=>exact absurd hs (qli c s)
   | cons l ls=>rw [hs] at ih;rw [← ih];rfl
def okG (s:List UInt8):Bool:=iLt 0 (s.count 10:Int)&&sEq ((splitC 10 s).getD (s.count 10) []) []
theorem qaeg {s:List UInt8} (hs:s.length≤1048576):qol s=some (((splitC 10 s).take (s.count 10),okG s,()),()):=by
 have hl:=qeq 10 s
 have hc:s.count 10≤s.length:=List.count_le_length
 have e1:iSub .i64 (lenI (splitC 10 s)) 1=(s.count 10:Int):=by rw [qaa,qcm (by omega) (by omega)];omega
 have e2:inS 0 (s.count 10:Int) (splitC 10 s).length=true:=by unfold inS;simp;omega
 have e3:inB (s.count 10:Int) (splitC 10 s).length=true:=qad (by omega)
 simp only [qol,quu 10 (s:=s) (by omega),Option.bind_some,e1,e2,e3,cond_true,List.drop_zero,Int.toNat_natCast,okG]
 cases iLt 0 (s.count 10:Int) <;> rfl
end
section
theorem qv7 {c:UInt8} (hc:digB c=false) (k:Nat):c∉Lib.decDigits k:=by
 intro h
 have:=List.all_eq_true.1 (qdv k).1 c h
 rw [hc] at this
 cases this
abbrev DRd:=List (List UInt8)×(Bool×Unit)
def wordOf (r:DRd):List UInt8:=r.1.getD 0 []
def restOf (r:DRd):DRd:=(r.1.drop 1,(r.1.isEmpty||r.2.1,()))
theorem qce (r:DRd):qbh r=some ((wordOf r,()),(restOf r,())):=by
 obtain ⟨ws,f,⟨⟩⟩:=r
 cases ws with
 | nil=>rfl
 | cons w ws =>
  have e1:iEq (lenI (w :: ws)) 0=false:=qaz (by rw [qaa,List.length_cons];omega)
  have e2:inB 0 (w :: ws).length=true:=qad (i:=0) (by simp)
  have e3:inS 1 (((w :: ws).length:Nat):Int) (w :: ws).length=true:=by unfold inS;simp;omega
  simp only [qbh,e1,e2,e3,cond_false,cond_true,restOf,wordOf]
  simp
def intOf (r:DRd):Int:=(parseInt64 (wordOf r)).1
def intRest (r:DRd):DRd:=(r.1.drop 1,((r.1.isEmpty||r.2.1)||(!(parseInt64 (wordOf r)).2 || !(sEq (Lib.itoa (intOf r)) (wordOf r))),()))
theorem qr4 {r:DRd} (h:(wordOf r).length≤1048576):qak r=some ((intOf r,()),(intRest r,())):=by
 obtain ⟨hb1,hb2⟩:=qabo (wordOf r)
 obtain ⟨ws,f,⟨⟩⟩:=r
 simp only [qak,qce,qzk h,qig hb1 hb2,Option.bind_some,restOf,intRest,intOf]
 cases (ws.isEmpty||f) <;> cases (parseInt64 (wordOf (ws,f,()))).2 <;> rfl
theorem qcw (r:DRd):qaw r=some ((!r.2.1&&r.1.isEmpty,()),()):=by
 obtain ⟨ws,f,⟨⟩⟩:=r
 unfold qaw
 cases f
 ·cases ws with
  | nil=>rfl
  | cons w ws =>
   have e1:iEq (lenI (w :: ws)) 0=false:=qaz (by rw [qaa,List.length_cons];omega)
   simp only [e1]
   rfl
 ·rfl
end
section
def lastOf (f:Ieee.Format) (m:Nat) (p:Int):Int:=max (p+m.log2-f.fractionBits) f.leastPlace
theorem qao5 {f:Ieee.Format} {s:Bool} {e K:Nat} (hK:(e=0∧K<f.binade)∨(f.binade≤K∧K<2*f.binade)) (hr:e*f.binade+K<f.infRung):f.read (f.word s (e*f.binade+K)) = .number s K (f.leastPlace+e):=by
 have h1:f.infRung<f.signWeight:=Ieee.Format.infRung_lt f
 generalize hR:e*f.binade+K=r at *
 have hm:f.word s r%f.signWeight=r:=qqw s (by omega)
 have hs:(f.word s r/f.signWeight%2==1)=s:=by
  cases s
  ·show (r/f.signWeight%2==1)=false
   rw [Nat.div_eq_of_lt (by omega)];rfl
  ·show ((f.signWeight+r)/f.signWeight%2==1)=true
   rw [Nat.add_div_left _ (by omega),Nat.div_eq_of_lt (by omega)];rfl
 have hpos:0<f.binade:=Nat.two_pow_pos _
 unfold Ieee.Format.read
 simp only [hm,hs]
 rcases hK with ⟨he,hK⟩ | ⟨hK,hK2⟩
 ·subst he
  rw [Nat.zero_mul,Nat.zero_add] at hR
  subst hR
  rw [if_pos hK]
  simp
 ·have hge:¬ r<f.binade:=by
   rw [← hR]
   have:=Nat.zero_le (e*f.binade)
   omega
  rw [if_neg hge,if_pos hr]
  obtain ⟨g,hg⟩ : ∃ g,K=f.binade+g:=⟨K-f.binade,by omega⟩
  have hg2:g<f.binade:=by omega
  have hR2:r=g+f.binade*(e+1):=by rw [← hR,hg,Nat.mul_add,Nat.mul_comm];omega
  have d1:r/f.binade=e+1:=by rw [hR2,Nat.add_mul_div_left _ _ hpos,Nat.div_eq_of_lt hg2];omega
  have d2:r%f.binade=g:=by rw [hR2,Nat.add_mul_mod_self_left,Nat.mod_eq_of_lt hg2]
  rw [d1,d2,hg]
  simp
theorem qaml {f:Ieee.Format} (s:Bool) {m:Nat} {p:Int} (hm:m≠0) (hp:lastOf f m p≤p) (hR:((lastOf f m p-f.leastPlace+2)*2^f.fractionBits:Int)≤f.infRung) :
  f.read (f.nearest s m p) = .number s (m*2^(p-lastOf f m p).toNat) (lastOf f m p):=by
 have hl:f.leastPlace≤lastOf f m p:=by unfold lastOf;omega
 have hml:=Nat.log2_self_le hm
 have hml2:m<2^(m.log2+1):=Nat.lt_log2_self
 have hbin:f.binade=2^f.fractionBits:=rfl
 generalize hla:lastOf f m p=last at *
 have hmax:max (p+(m.log2:Int)-f.fractionBits) f.leastPlace=last:=hla
 have hlt:m*2^(p-last).toNat<2*f.binade:=by
  have:m*2^(p-last).toNat<2^(m.log2+1)*2^(p-last).toNat:=Nat.mul_lt_mul_of_pos_right hml2 (Nat.two_pow_pos _)
  rw [← Nat.pow_add] at this
  refine Nat.lt_of_lt_of_le this ?_
  rw [hbin,show 2*2^f.fractionBits=2^(f.fractionBits+1) by rw [Nat.pow_succ,Nat.mul_comm]]
  exact Nat.pow_le_pow_right (by decide) (by omega)
 have hcase:((last-f.leastPlace).toNat=0∧m*2^(p-last).toNat<f.binade)∨(f.binade≤m*2^(p-last).toNat∧m*2^(p-last).toNat<2*f.binade):=by
  by_cases hb:m*2^(p-last).toNat<f.binade
  ·refine .inl ⟨?_,hb⟩
   apply Classical.byContradiction
   intro q
   have hlast:last=p+m.log2-f.fractionBits:=by omega
   have:2^(m.log2+(p-last).toNat)≤m*2^(p-last).toNat:=by rw [Nat.pow_add];exact Nat.mul_le_mul_right _ hml
   rw [show m.log2+(p-last).toNat=f.fractionBits by omega,← hbin] at this
   omega
  ·exact .inr ⟨by omega,hlt⟩
 have hrung:(last-f.leastPlace).toNat*f.binade+m*2^(p-last).toNat<f.infRung:=by
  have e1:(((last-f.leastPlace).toNat+2)*f.binade:Nat)≤f.infRung:=by
   have:((((last-f.leastPlace).toNat+2)*f.binade:Nat):Int)≤f.infRung:=by
    rw [hbin,Int.natCast_mul,Int.natCast_add,Int.toNat_of_nonneg (by omega)]
    simpa using hR
   exact Int.ofNat_le.1 this
  rw [Nat.add_mul] at e1
  omega
 have e:f.nearest s m p=f.word s ((last-f.leastPlace).toNat*f.binade+m*2^(p-last).toNat):=by
  unfold Ieee.Format.nearest
  rw [if_neg hm]
  simp only [hmax]
  rw [show (last-p).toNat=0 by omega,qp2,Nat.shiftLeft_eq,Nat.min_eq_left (Nat.le_of_lt hrung)]
 rw [e,qao5 hcase hrung]
 congr 1
 omega
end
section
theorem qanl (s:Bool) (q d:Nat) (hq:q≠0):Ieee.Toward.even.cut s (q*2^d) d=q:=by
 have hlog:d≤(q*2^d).log2:=by
  refine (Nat.le_log2 (Nat.mul_ne_zero hq (Nat.pos_iff_ne_zero.1 (Nat.two_pow_pos d)))).2 ?_
  exact Nat.le_mul_of_pos_left _ (Nat.pos_of_ne_zero hq)
 unfold Ieee.Toward.cut
 rw [Nat.min_eq_left (by omega),Nat.shiftLeft_eq,Nat.one_mul]
 simp only [Nat.mul_mod_left,Nat.mul_div_cancel _ (Nat.two_pow_pos d)]
 have h2:(2^d==2*0)=false:=by
  rw [beq_eq_false_iff_ne]
  have:=Nat.two_pow_pos d
  omega
 simp [h2]
theorem qaeo {m:Nat} (hm:m≠0) (a:Nat):(m*2^a).log2=m.log2+a:=by
 have h1:=Nat.log2_self_le hm
 have h2:=@Nat.lt_log2_self m
 have h0:m*2^a≠0:=Nat.mul_ne_zero hm (Nat.pos_iff_ne_zero.1 (Nat.two_pow_pos a))
 refine Nat.le_antisymm ?_ ?_
 ·have:m*2^a<2^(m.log2+a+1):=by
   rw [show m.log2+a+1=m.log2+1+a by omega,Nat.pow_add]
   exact Nat.mul_lt_mul_of_pos_right h2 (Nat.two_pow_pos a)
  exact Nat.le_of_lt_succ ((Nat.log2_lt h0).2 this)
 ·refine (Nat.le_log2 h0).2 ?_
  rw [Nat.pow_add]
  exact Nat.mul_le_mul_right _ h1
theorem qah4 {f:Ieee.Format} (s:Bool) {m:Nat} {p:Int} (a:Nat) (hm:m≠0) (hp:lastOf f m p≤p):f.nearest s (m*2^a) (p-a)=f.nearest s m p:=by
 have h0:m*2^a≠0:=Nat.mul_ne_zero hm (Nat.pos_iff_ne_zero.1 (Nat.two_pow_pos a))
 have hl:max (p-a+((m*2^a).log2:Int)-f.fractionBits) f.leastPlace=lastOf f m p:=by
  rw [qaeo hm]
  unfold lastOf
  congr 1
  omega
 unfold Ieee.Format.nearest
 rw [if_neg h0,if_neg hm]
 simp only [hl]
 rw [show max (p+(m.log2:Int)-f.fractionBits) f.leastPlace=lastOf f m p from rfl]
 generalize lastOf f m p=last at hp
 have e1:Ieee.Toward.even.cut s (m <<< (p-last).toNat) (last-p).toNat=m*2^(p-last).toNat:=by
  rw [Nat.shiftLeft_eq,show (last-p).toNat=0 by omega]
  exact qp2 _ _ _
 have e2:Ieee.Toward.even.cut s ((m*2^a) <<< (p-a-last).toNat) (last-(p-a)).toNat=m*2^(p-last).toNat:=by
  rw [Nat.shiftLeft_eq]
  by_cases h:(a:Int)≤p-last
  ·rw [show (last-(p-a)).toNat=0 by omega,qp2,Nat.mul_assoc,← Nat.pow_add]
   congr 2
   omega
  ·have hd:m*2^a*2^(p-a-last).toNat=(m*2^(p-last).toNat)*2^(last-(p-a)).toNat:=by
    rw [show (p-a-last).toNat=0 by omega,Nat.pow_zero,Nat.mul_one,Nat.mul_assoc,← Nat.pow_add]
    congr 2
    omega
   rw [hd]
   exact qanl s _ _ (Nat.mul_ne_zero hm (Nat.pos_iff_ne_zero.1 (Nat.two_pow_pos _)))
 rw [e1,e2]
theorem qaas {b:Nat} (h:isNan .f32 b=false):canon .f32 b=b:=by
 unfold canon;rw [h];rfl
theorem qamo {n:Int} : fOfInt .f32 n=FloatKind.f32.format.nearest (decide (n<0)) n.natAbs 0:=by
 show canon .f32 (FloatKind.f32.format.nearest (decide (n<0)) n.natAbs 0)=_
 exact qaas (qy0 .f32 _ _ _)
theorem div_one {n:Int} (h:n.natAbs<2^24):fDiv .f32 (fOfInt .f32 n) (fOfInt .f32 1)=fOfInt .f32 n:=by
 have one:FloatKind.f32.format.read (fOfInt .f32 1) = .number false 8388608 (-23):=by decide
 rcases Nat.eq_zero_or_pos n.natAbs with h0 | h0
 ·have:n=0:=by omega
  subst this
  decide
 ·have hm:n.natAbs≠0:=by omega
  have hlog:n.natAbs.log2≤23:=Nat.le_of_lt_succ ((Nat.log2_lt hm).2 h)
  have hf2:FloatKind.f32.format.fractionBits=23:=rfl
  have hf3:FloatKind.f32.format.leastPlace = -149:=rfl
  have hlast:lastOf FloatKind.f32.format n.natAbs 0=(n.natAbs.log2:Int)-23:=by
   unfold lastOf
   rw [hf2,hf3]
   omega
  have hr:=qaml (f:=FloatKind.f32.format) (decide (n<0)) (m:=n.natAbs) (p:=0) hm (by rw [hlast];omega) (by
   rw [hlast,hf2,hf3]
   show ((n.natAbs.log2:Int)-23 - -149+2)*2^23≤((2139095040:Nat):Int)
   omega)
  rw [hlast] at hr
  rw [qamo (n:=n)]
  unfold fDiv Ieee.Format.div
  rw [hr,one]
  simp only [Ieee.Datum.quotient,if_neg (show (8388608:Nat)≠0 by decide),Option.map_some,orNan]
  obtain ⟨a,ha⟩ : ∃ a:Nat,(0-((n.natAbs.log2:Int)-23)).toNat=a∧(a:Int)=23-(n.natAbs.log2:Int):=⟨_,rfl,by omega⟩
  rw [ha.1]
  have hM:(n.natAbs*2^a).log2=23:=by
   rw [qaeo hm];omega
  have hmore:FloatKind.f32.format.fractionBits+2+Nat.log2 8388608-(n.natAbs*2^a).log2=25:=by rw [hM,hf2];decide
  rw [hmore]
  have hsh:(n.natAbs*2^a) <<< 25=n.natAbs*2^a*4*8388608:=by rw [Nat.shiftLeft_eq];omega
  rw [hsh,Nat.mul_div_cancel _ (by decide),Nat.mul_mod_left]
  have hmag:2*(n.natAbs*2^a*4)+(0 != 0:Bool).toNat=n.natAbs*2^(a+3):=by
   rw [Nat.pow_add]
   show 2*(n.natAbs*2^a*4)+0=n.natAbs*(2^a*8)
   have:n.natAbs*(2^a*8)=n.natAbs*2^a*8:=(Nat.mul_assoc _ _ _).symm
   omega
  have hpl:(n.natAbs.log2:Int)-23 - -23-((25:Nat):Int)-1=0-((a+3:Nat):Int):=by omega
  rw [hmag,hpl,Bool.xor_false]
  show canon .f32 (FloatKind.f32.format.nearest _ _ _)=_
  rw [qah4 _ _ hm (by rw [hlast];omega)]
  exact qaas (qy0 .f32 _ _ _)
theorem qaor {s:List UInt8} (h:numOK 999999 s=true):s.length≤6:=by
 obtain ⟨k,hk,rfl⟩:=numOK_iff.1 h
 exact (qjs 5 k (by omega)).2.2.1
theorem qg3 (s:List UInt8) : ∃ n:Int,qa4 s=some ((n,numOK 999999 s,()),())∧(numOK 999999 s=true→n=(valD 0 s:Int)):=by
 unfold qa4
 by_cases h6:6<lenI s
 ·have:numOK 999999 s=false:=by
   rw [← Bool.not_eq_true]
   intro h
   have:=qaor h
   rw [qaa] at h6
   omega
  rw [qaf h6,this]
  exact ⟨0,rfl,fun h=>by cases h⟩
 ·obtain ⟨n,h1,h2⟩:=qah2 s
  have e:numOK 999999999 s=numOK 999999 s:=by
   rw [qaa] at h6
   cases h:numOK 999999999 s with
   | true =>
    obtain ⟨k,hk,e⟩:=numOK_iff.1 h
    symm
    refine numOK_iff.2 ⟨k,?_,e⟩
    have hd:=(qdv k)
    have:=qagh (Lib.decDigits k) 0 0 hd.1 (by decide)
    rw [hd.2.1,← e] at this
    have h2:10^(0+s.length)≤10^6:=Nat.pow_le_pow_right (by decide) (by omega)
    omega
   | false =>
    symm
    rw [← Bool.not_eq_true]
    intro h'
    obtain ⟨k,hk,e⟩:=numOK_iff.1 h'
    have:numOK 999999999 s=true:=numOK_iff.2 ⟨k,by omega,e⟩
    rw [h] at this
    cases this
  rw [qag h6]
  rw [e] at h1 h2
  exact ⟨n,by simp only [cond_false,h1,Option.bind_some],h2⟩
abbrev RdF:=(Nat×Int×Unit)×Unit
def badF:RdF:=((0,5,()),())
def negB (p:List UInt8):Bool:=Lib.hasPrefix p [45]
def tailS (p:List UInt8):List UInt8:=Lib.trimPrefix p [45]
def signedI (p:List UInt8):Int:=bif negB p then -(valD 0 (tailS p):Int) else (valD 0 (tailS p):Int)
def divB (r:List UInt8):Bool:=numOK 999999 r&&((iLe 2 (valD 0 r:Int)&&iLe (valD 0 r:Int) 1024)&&iEq (iAnd .i64 (valD 0 r:Int) (iSub .i64 (valD 0 r:Int) 1)) 0)
def fracOne (p:List UInt8):RdF:=bif numOK 999999 (tailS p) then ((fOfInt .f32 (signedI p),0,()),()) else badF
def fracTwo (p r:List UInt8):RdF:=bif numOK 999999 (tailS p)&&divB r then ((fDiv .f32 (fOfInt .f32 (signedI p)) (fOfInt .f32 (valD 0 r:Int)),0,()),()) else badF
theorem qaqp (p:List UInt8):(p=[]∧negB p=false∧tailS p=p)∨(∃ c t,p=c :: t∧((byteI c=45∧negB p=true∧tailS p=t)∨(byteI c≠45∧negB p=false∧tailS p=p))):=by
 cases p with
 | nil=>exact .inl ⟨rfl,rfl,rfl⟩
 | cons c t =>
  refine .inr ⟨c,t,rfl,?_⟩
  have hb:iEq (byteI c) 45=decide (c=45):=qacg c 45
  by_cases h:c=45
  ·subst h
   exact .inl ⟨rfl,rfl,rfl⟩
  ·have hp:negB (c :: t)=false:=by
    unfold negB Lib.hasPrefix
    have:((45:UInt8)==c)=false:=by simpa using fun e:(45:UInt8)=c=>h e.symm
    simp [List.isPrefixOf,this]
   refine .inr ⟨fun e => ?_,hp,?_⟩
   ·rw [qfh e] at hb
    simp at hb
    exact h hb
   ·unfold tailS Lib.trimPrefix
    unfold negB at hp
    rw [hp]
    rfl
noncomputable def backF (l:List (List UInt8)) (sg:Int) (n:Int):Option ((Nat×Bool×Unit)×Unit) :=
 bif (iLt 2 (lenI l)) then some (((0:Nat),false,()),()) else
 bif (iEq (lenI l) 1) then some (((fOfInt .f32 (iMul .i64 sg n)),true,()),()) else
 bif inB 1 (List.length l) then
  (qa4 (List.getD l 1 ([]:List UInt8))).bind fun y309 =>
  bif (! y309.1.2.1) then some (((0:Nat),false,()),()) else
  bif (iLt y309.1.1 2) then some (((0:Nat),false,()),()) else
  bif (iLt 1024 y309.1.1) then some (((0:Nat),false,()),()) else
  bif (! (iEq (iAnd .i64 y309.1.1 (iSub .i64 y309.1.1 1)) 0)) then some (((0:Nat),false,()),()) else
  some (((fDiv .f32 (fOfInt .f32 (iMul .i64 sg n)) (fOfInt .f32 y309.1.1)),true,()),())
 else none
theorem qpu {s p:List UInt8} {q:List (List UInt8)} (hs:s.length≤1048576) (e:splitC 47 s=p :: q):qam s=bif numOK 999999 (tailS p) then backF (p :: q) (bif negB p then -1 else 1) (valD 0 (tailS p):Int) else some (((0:Nat),false,()),()):=by
 have hsp:qbx s 47=some ((splitC 47 s,()),()):=qe5 47 hs
 have i0:inB 0 (p :: q).length=true:=qad (i:=0) (by simp)
 have g0:(p :: q).getD 0 []=p:=rfl
 obtain ⟨n,hn,hv⟩:=qg3 (tailS p)
 rcases qaqp p with ⟨hp,h1,h2⟩ | ⟨c,t,hp,⟨h0,h1,h2⟩ | ⟨h0,h1,h2⟩⟩
 ·have l0:iLt 0 (lenI p)=false:=by rw [hp];rfl
  rw [h2] at hn hv ⊢
  simp only [qam,hsp,e,i0,g0,l0,hn,h1,Option.bind_some,cond_true,cond_false]
  cases hk:numOK 999999 p with
  | false=>rfl
  | true=>rw [hv hk];rfl
 ·have l0:iLt 0 (lenI p)=true:=by rw [hp];exact qaf (by rw [qaa,List.length_cons];omega)
  have ip:inB 0 p.length=true:=qad (i:=0) (by rw [hp];simp)
  have es:iEq (strAt p 0) 45=true:=by rw [hp];exact qfh h0
  have ins:inS 1 (lenI p) p.length=true:=by unfold inS;rw [qaa,hp,List.length_cons];simp;omega
  have dr:dropL p 1=tailS p:=by rw [h2,hp];rfl
  simp only [qam,hsp,e,i0,g0,l0,ip,es,ins,dr,hn,h1,Option.bind_some,cond_true,cond_false]
  cases hk:numOK 999999 (tailS p) with
  | false=>rfl
  | true=>rw [hv hk];rfl
 ·have l0:iLt 0 (lenI p)=true:=by rw [hp];exact qaf (by rw [qaa,List.length_cons];omega)
  have ip:inB 0 p.length=true:=qad (i:=0) (by rw [hp];simp)
  have es:iEq (strAt p 0) 45=false:=by rw [hp];exact qaz h0
  rw [h2] at hn hv ⊢
  simp only [qam,hsp,e,i0,g0,l0,ip,es,hn,h1,Option.bind_some,cond_true,cond_false]
  cases hk:numOK 999999 p with
  | false=>rfl
  | true=>rw [hv hk];rfl
theorem qaj0 {p:List UInt8} (h:numOK 999999 (tailS p)=true):iMul .i64 (bif negB p then -1 else 1) (valD 0 (tailS p):Int)=signedI p:=by
 obtain ⟨_,_,hv⟩:=qakm (by decide) h
 unfold signedI
 cases negB p <;> simp only [cond_true,cond_false] <;> rw [qwr (by omega) (by omega)] <;> omega
theorem qjh {s:List UInt8} (hs:s.length≤1048576) : ∃ w,qek s=some w∧((∀ (h:(47:UInt8)∉s),w=fracOne s) ∧ ∀ p r,s=p++47 :: r→(47:UInt8)∉p→w=fracTwo p r):=by
 rcases qku 47 s with h | ⟨p,r,e,h⟩
 ·have hf:=qpu hs (qfa h)
  refine ⟨fracOne s,?_,fun _=>rfl,fun p r e _=>absurd (by rw [e];simp) h⟩
  simp only [qek,hf,fracOne]
  cases hk:numOK 999999 (tailS s) with
  | false=>rfl
  | true =>
   have e1:iLt 2 (lenI [s])=false:=rfl
   have e2:iEq (lenI [s]) 1=true:=rfl
   simp only [backF,e1,e2,qaj0 hk,cond_true,cond_false,Option.bind_some,Bool.not_true]
 ·have hl:p.length≤1048576∧r.length≤1048576:=by rw [e] at hs;simp at hs;omega
  have hf:=qpu hs (by rw [e];exact qf8 r h)
  have uniq : ∀ p' r',s=p'++47 :: r'→(47:UInt8)∉p'→p'=p∧r'=r:=by
   intro p' r' e' h'
   have h1:=qf8 r h
   have h2:=qf8 r' h'
   rw [← e,e',h2] at h1
   have hp:p'=p:=(List.cons.inj h1).1
   subst hp
   rw [e] at e'
   exact ⟨rfl,((List.cons.inj (List.append_cancel_left e')).2).symm⟩
  refine ⟨fracTwo p r,?_,fun h'=>absurd (by rw [e];simp) h',fun p' r' e' h'=>by rw [(uniq p' r' e' h').1,(uniq p' r' e' h').2]⟩
  simp only [qek,hf,fracTwo,divB]
  cases hk:numOK 999999 (tailS p) with
  | false=>rfl
  | true =>
   simp only [cond_true,Bool.true_and]
   rcases qku 47 r with hr | ⟨p2,r2,e2,h2⟩
   ·rw [qfa hr]
    obtain ⟨m,hm,hu⟩:=qg3 r
    have a1:iLt 2 (lenI [p,r])=false:=rfl
    have a2:iEq (lenI [p,r]) 1=false:=rfl
    have a3:inB 1 [p,r].length=true:=rfl
    have a4:[p,r].getD 1 []=r:=rfl
    simp only [backF,a1,a2,a3,a4,hm,qaj0 hk,cond_true,cond_false,Option.bind_some]
    cases hq:numOK 999999 r with
    | false=>rfl
    | true =>
     rw [hu hq]
     simp only [Bool.not_true,cond_false,Bool.true_and]
     by_cases h2:(valD 0 r:Int)<2
     ·rw [qaf h2,qg9 (show ¬ (2:Int)≤(valD 0 r:Int) by omega)];rfl
     ·rw [qag h2,qa3 (show (2:Int)≤(valD 0 r:Int) by omega)]
      by_cases h3:(1024:Int)<(valD 0 r:Int)
      ·rw [qaf h3,qg9 (show ¬ (valD 0 r:Int)≤1024 by omega)];rfl
      ·rw [qag h3,qa3 (show (valD 0 r:Int)≤1024 by omega)]
       cases iEq (iAnd .i64 (valD 0 r:Int) (iSub .i64 (valD 0 r:Int) 1)) 0 <;> rfl
   ·have hq:numOK 999999 r=false:=by
     rw [← Bool.not_eq_true]
     intro hq
     obtain ⟨k,_,ek⟩:=numOK_iff.1 hq
     have:=qv7 (c:=47) rfl k
     rw [← ek,e2] at this
     exact this (by simp)
    have hlen:=qeq 47 r
    have hc:1≤r.count 47:=List.one_le_count_iff.2 (by rw [e2];simp)
    have a1:iLt 2 (lenI (p :: splitC 47 r))=true:=qaf (by rw [qaa,List.length_cons];omega)
    simp only [backF,a1,hq,cond_true,Bool.false_and,cond_false,Option.bind_some,Bool.not_false]
    rfl
end
section
abbrev DSrc:=(List Int)×(Int×(Int×Unit))
structure SrcOK (n:Int) (s:DSrc):Prop where
 low:0≤s.2.1
 up:s.2.1≤n
 byte : ∀ x∈s.1,0≤x∧x≤255
 len:s.1.length≤4096
theorem SrcOK.mono {n m:Int} {s:DSrc} (h:SrcOK n s) (hm:n≤m):SrcOK m s:=⟨h.low,Int.le_trans h.up hm,h.byte,h.len⟩
theorem qapz (a:Int):0≤iAnd .u64 a 255∧iAnd .u64 a 255≤255:=by
 have e2:(BitVec.ofInt 64 255).toNat=255:=by decide
 have h:((BitVec.ofInt IntKind.u64.bits a &&& BitVec.ofInt IntKind.u64.bits 255).toNat)≤255:=by
  show ((BitVec.ofInt 64 a &&& BitVec.ofInt 64 255).toNat)≤255
  rw [BitVec.toNat_and,e2]
  exact Nat.and_le_right
 unfold iAnd
 generalize (BitVec.ofInt IntKind.u64.bits a &&& BitVec.ofInt IntKind.u64.bits 255).toNat=m at h
 simp [IntKind.wrap,IntKind.signed,IntKind.bits];omega
theorem qvx (l:List Int):qo0 l=some (((l,0,0,()),()),()):=rfl
theorem qaj2 {l:List Int} (h : ∀ x∈l,0≤x∧x≤255) (hl:l.length≤4096):SrcOK 0 ((l,0,0,()):DSrc):=⟨Int.le_refl _,Int.le_refl _,h,hl⟩
theorem qpc {n:Int} (hn:n≤1000000000000) {s:DSrc} (h:SrcOK n s) : ∃ (v:Int) (s':DSrc),qe4 s=some ((v,()),(s',()))∧0≤v∧v≤255∧SrcOK (n+1) s':=by
 obtain ⟨l,k,z,⟨⟩⟩:=s
 have h0:=h.low
 have h1:=h.up
 have hb:=h.byte
 have hl:=h.len
 simp only at h0 h1 hb hl
 have ek:iAdd .i64 k 1=k+1:=qba (by omega) (by omega)
 have good : ∀ q:Int,SrcOK (n+1) ((l,k+1,q,()):DSrc):=fun q=>⟨by show 0≤k+1;omega,by show k+1≤n+1;omega,hb,hl⟩
 have wb : ∀ a:Int,0≤iWrap .i64 (iAnd .u64 a 255)∧iWrap .i64 (iAnd .u64 a 255)≤255:=fun a=>by
  have:=qapz a
  rw [qfy (by omega) (by omega)];exact this
 by_cases hk:k<(l.length:Int)
 ·have e1:iLt k (lenI l)=true:=qaf (by rw [qaa];exact hk)
  have e2:inB k l.length=true:=qii h0 hk
  have hlt:k.toNat<l.length:=by omega
  have e3:l.getD k.toNat 0=l[k.toNat]:=qao hlt
  have hx:=hb _ (List.getElem_mem hlt)
  have e4:iWrap .i64 l[k.toNat]=l[k.toNat]:=qfy (by omega) (by omega)
  have e5:iLe (k+1) (lenI l)=true:=qa3 (by rw [qaa];omega)
  refine ⟨l[k.toNat],(l,k+1,iAdd .u64 (iAdd .u64 (iMul .u64 z 6364136223846793005) (iWrap .u64 l[k.toNat])) 1442695040888963407,()),?_,hx.1,hx.2,good _⟩
  simp only [qe4,e1,e2,e3,e4,ek,e5,cond_true]
 ·have e1:iLt k (lenI l)=false:=qag (by rw [qaa];exact hk)
  have e5:iLe (k+1) (lenI l)=false:=qg9 (by rw [qaa];omega)
  refine ⟨_,_,by simp only [qe4,e1,ek,e5,cond_false];rfl,(wb _).1,(wb _).2,good _⟩
theorem qdn {n:Int} (hn:n≤999999999999) {s:DSrc} (h:SrcOK n s) (k:Int) (hk:k≤60000) : ∃ (v:Int) (s':DSrc),qau s k=some ((v,()),(s',()))∧0≤v∧v≤60000∧(1≤k→v<k)∧SrcOK (n+2) s':=by
 by_cases h1:k≤1
 ·have e:iLe k 1=true:=qa3 h1
  exact ⟨0,s,by simp only [qau,e,cond_true],Int.le_refl _,by omega,fun h=>by omega,h.mono (by omega)⟩
 ·have e:iLe k 1=false:=qg9 h1
  have e0:iEq k 0=false:=qaz (by omega)
  obtain ⟨v,s1,hv,v0,v1,hs1⟩:=qpc (by omega) h
  have key : ∀ x:Int,0≤x→0≤iRem .i64 x k∧iRem .i64 x k<k:=fun x hx=>by
   have:iRem .i64 x k=x%k:=Int.tmod_eq_emod_of_nonneg hx
   rw [this]
   exact ⟨Int.emod_nonneg _ (by omega),Int.emod_lt_of_pos _ (by omega)⟩
  by_cases h2:200<k
  ·have e2:iLt 200 k=true:=qaf h2
   obtain ⟨u,s2,hu,u0,u1,hs2⟩:=qpc (by omega) hs1
   have m1:iMul .i64 v 256=v*256:=qwr (by omega) (by omega)
   have m2:iAdd .i64 (v*256) u=v*256+u:=qba (by omega) (by omega)
   have:=key (v*256+u) (by omega)
   refine ⟨iRem .i64 (v*256+u) k,s2,?_,this.1,by omega,fun _=>this.2,hs2.mono (by omega)⟩
   simp only [qau,e,e0,e2,hv,hu,m1,m2,Option.bind_some,cond_true,cond_false]
  ·have e2:iLt 200 k=false:=qag h2
   have:=key v v0
   refine ⟨iRem .i64 v k,s1,?_,this.1,by omega,fun _=>this.2,hs1.mono (by omega)⟩
   simp only [qau,e,e0,e2,hv,Option.bind_some,cond_false]
end
section
abbrev DLeg:=Int×((Vec 3 Nat)×(Int×(Int×Unit)))
abbrev DMission:=Int×((Vec 3 Nat)×((List (Vec 3 Nat))×((List DLeg)×Unit)))
abbrev DEntry:=Int×((Vec 3 Nat)×((Vec 3 Int)×(Int×(Nat×Unit))))
abbrev DLog:=Int×((Vec 3 Nat)×((List (Vec 3 Nat))×((List DEntry)×Unit)))
abbrev TyLeg:Ty:=.pair (.int .i64) (.pair (.arr 3 (.flt .f32)) (.pair (.int .i64) (.pair (.int .i64) .unit)))
abbrev TyVec:Ty:=.arr 3 (.flt .f32)
abbrev TyMission:Ty:=.pair (.int .i64) (.pair TyVec (.pair (.list TyVec) (.pair (.list TyLeg) .unit)))
abbrev TyEntry:Ty:=.pair (.int .i64) (.pair TyVec (.pair (.arr 3 (.int .i16)) (.pair (.int .i64) (.pair (.flt .f32) .unit))))
abbrev TyLog:Ty:=.pair (.int .i64) (.pair TyVec (.pair (.list TyVec) (.pair (.list TyEntry) .unit)))
def sameVs (a b:List (Vec 3 Nat)):Bool:=iEq (lenI a) (lenI b)&&all2 sameV a b
theorem qaem {α:Type} {a b:List α} (h:iEq (lenI a) (lenI b)=true):a.length=b.length:=by
 rw [qas,qaa,qaa] at h
 omega
theorem qqe (a b:List (Vec 3 Nat)) (g:(Vec 3 Nat)×(Vec 3 Nat)×Unit→Option Bool) (p:Vec 3 Nat→Vec 3 Nat→Bool) (hl:a.length≤140737488355328) (hg : ∀ x y,g (x,y,())=some (p x y)) :
  qd3 a b g=some ((iEq (lenI a) (lenI b)&&all2 p a b,()),()):=by
 unfold qd3
 cases he:iEq (lenI a) (lenI b)
 ·rfl
 ·have hab:=qaem he
  simp only [Bool.not_true,cond_false,Bool.true_and]
  refine qs5 hab (fun i hi hj => ?_) ?_
  ·have e1:iLt (i:Int) (lenI a)=true:=qaf (by rw [qaa];omega)
   have e2:inB (i:Int) a.length=true:=qad hi
   have e3:inB (i:Int) b.length=true:=qad hj
   have e4:a.getD i ((0,0,0,()):(Vec 3 Nat))=a[i]:=qao hi
   have e6:b.getD i ((0,0,0,()):(Vec 3 Nat))=b[i]:=qao hj
   have e5:iAdd .i64 (i:Int) 1=((i+1:Nat):Int):=qat hi (by omega)
   simp only [qe2,e1,e2,e3,e4,e5,e6,Int.toNat_natCast,hg,Option.bind_some,cond_true]
   cases p a[i] b[i] <;> rfl
  ·have e1:iLt (a.length:Int) (lenI a)=false:=qag (by rw [qaa];omega)
   simp only [qe2,e1,cond_false]
   rfl
theorem qov (a b:List DEntry) (g:DEntry×DEntry×Unit→Option Bool) (p:DEntry→DEntry→Bool) (hl:a.length≤140737488355328) (hg : ∀ x y,g (x,y,())=some (p x y)) :
  qdf a b g=some ((iEq (lenI a) (lenI b)&&all2 p a b,()),()):=by
 unfold qdf
 cases he:iEq (lenI a) (lenI b)
 ·rfl
 ·have hab:=qaem he
  simp only [Bool.not_true,cond_false,Bool.true_and]
  refine qs5 hab (fun i hi hj => ?_) ?_
  ·have e1:iLt (i:Int) (lenI a)=true:=qaf (by rw [qaa];omega)
   have e2:inB (i:Int) a.length=true:=qad hi
   have e3:inB (i:Int) b.length=true:=qad hj
   have e4:a.getD i ((0,(0,0,0,()),(0,0,0,()),0,0,()):DEntry)=a[i]:=qao hi
   have e6:b.getD i ((0,(0,0,0,()),(0,0,0,()),0,0,()):DEntry)=b[i]:=qao hj
   have e5:iAdd .i64 (i:Int) 1=((i+1:Nat):Int):=qat hi (by omega)
   simp only [qec,e1,e2,e3,e4,e5,e6,Int.toNat_natCast,hg,Option.bind_some,cond_true]
   cases p a[i] b[i] <;> rfl
  ·have e1:iLt (a.length:Int) (lenI a)=false:=qag (by rw [qaa];omega)
   simp only [qec,e1,cond_false]
   rfl
theorem qzh (a b:List (Vec 3 Nat)) (hl:a.length≤140737488355328):qjm a b=some ((sameVs a b,()),()):=by
 unfold qjm sameVs
 cases he:iEq (lenI a) (lenI b)
 ·rfl
 ·have hab:=qaem he
  simp only [Bool.not_true,cond_false,Bool.true_and]
  refine qs5 hab (fun i hi hj => ?_) ?_
  ·have e1:iLt (i:Int) (lenI a)=true:=qaf (by rw [qaa];omega)
   have e2:inB (i:Int) a.length=true:=qad hi
   have e3:inB (i:Int) b.length=true:=qad hj
   have e4:a.getD i ((0,0,0,()):(Vec 3 Nat))=a[i]:=qao hi
   have e6:b.getD i ((0,0,0,()):(Vec 3 Nat))=b[i]:=qao hj
   have e5:iAdd .i64 (i:Int) 1=((i+1:Nat):Int):=qat hi (by omega)
   simp only [qki,e1,e2,e3,e4,e5,e6,Int.toNat_natCast,qhu,Option.bind_some,cond_true]
   cases sameV a[i] b[i] <;> rfl
  ·have e1:iLt (a.length:Int) (lenI a)=false:=qag (by rw [qaa];omega)
   simp only [qki,e1,cond_false]
   rfl
def sameE (a b:DEntry):Bool:=iEq a.1 b.1&&(sameV a.2.1 b.2.1&&((iEq (Vec.getD 3 a.2.2.1 0 (0:Int)) (Vec.getD 3 b.2.2.1 0 (0:Int))&&(iEq (Vec.getD 3 a.2.2.1 1 (0:Int)) (Vec.getD 3 b.2.2.1 1 (0:Int))&&(iEq (Vec.getD 3 a.2.2.1 2 (0:Int)) (Vec.getD 3 b.2.2.1 2 (0:Int))&&true)))&&(iEq a.2.2.2.1 b.2.2.2.1&&sameN a.2.2.2.2.1 b.2.2.2.2.1)))
def sameL (a b:DLog):Bool:=iEq a.1 b.1&&(sameV a.2.1 b.2.1&&(sameVs a.2.2.1 b.2.2.1&&(iEq (lenI a.2.2.2.1) (lenI b.2.2.2.1)&&all2 sameE a.2.2.2.1 b.2.2.2.1)))
theorem qsm (a b:DEntry):qc3 a b=some ((sameE a b,()),()):=by
 simp only [qc3,qod,qkz,Option.bind_some,sameE]
 cases iEq a.1 b.1 <;> cases sameV a.2.1 b.2.1 <;> cases (iEq (Vec.getD 3 a.2.2.1 0 (0:Int)) (Vec.getD 3 b.2.2.1 0 (0:Int))&&(iEq (Vec.getD 3 a.2.2.1 1 (0:Int)) (Vec.getD 3 b.2.2.1 1 (0:Int))&&(iEq (Vec.getD 3 a.2.2.1 2 (0:Int)) (Vec.getD 3 b.2.2.1 2 (0:Int))&&true))) <;> cases iEq a.2.2.2.1 b.2.2.2.1 <;> rfl
theorem qys (a b:DEntry):qh7 a b=some ((sameE a b,()),()):=by
 simp only [qh7,qhu,qo2,Option.bind_some,sameE]
 cases iEq a.1 b.1 <;> cases sameV a.2.1 b.2.1 <;> cases (iEq (Vec.getD 3 a.2.2.1 0 (0:Int)) (Vec.getD 3 b.2.2.1 0 (0:Int))&&(iEq (Vec.getD 3 a.2.2.1 1 (0:Int)) (Vec.getD 3 b.2.2.1 1 (0:Int))&&(iEq (Vec.getD 3 a.2.2.1 2 (0:Int)) (Vec.getD 3 b.2.2.1 2 (0:Int))&&true))) <;> cases iEq a.2.2.2.1 b.2.2.2.1 <;> rfl
theorem qad5 (a b:DLog) (h:Sized TyLog a):qob a b=some ((sameL a b,()),()):=by
 have h1:=qqe a.2.2.1 b.2.2.1 (fun z423=>(qgp z423.1 z423.2.1).map fun y=>y.1.1) sameV h.2.2.1.1 (fun x y=>by simp only [qod,Option.map_some])
 have h2:=qov a.2.2.2.1 b.2.2.2.1 (fun z425=>(qc3 z425.1 z425.2.1).map fun y=>y.1.1) sameE h.2.2.2.1.1 (fun x y=>by
  simp only [qsm,Option.map_some])
 simp only [qob,h1,h2]
 simp only [qod,Option.bind_some,sameL,sameVs]
 cases iEq a.1 b.1 <;> cases sameV a.2.1 b.2.1 <;> cases (iEq (lenI a.2.2.1) (lenI b.2.2.1)&&all2 sameV a.2.2.1 b.2.2.1) <;> rfl
theorem qvw (a b:DLog) (h:Sized TyLog a):qlg a b=some ((sameL a b,()),()):=by
 have h3:a.2.2.2.1.length≤140737488355328:=h.2.2.2.1.1
 simp only [qlg,qhu,qzh a.2.2.1 b.2.2.1 h.2.2.1.1,Option.bind_some,sameL]
 cases iEq a.1 b.1 <;> cases sameV a.2.1 b.2.1 <;> cases sameVs a.2.2.1 b.2.2.1 <;> cases he:iEq (lenI a.2.2.2.1) (lenI b.2.2.2.1) <;> first | rfl | skip
 have hab:=qaem he
 simp only [Bool.not_true,cond_false,Bool.true_and]
 refine qs5 hab (fun i hi hj => ?_) ?_
 ·have e1:iLt (i:Int) (lenI a.2.2.2.1)=true:=qaf (by rw [qaa];omega)
  have e2:inB (i:Int) a.2.2.2.1.length=true:=qad hi
  have e3:inB (i:Int) b.2.2.2.1.length=true:=qad hj
  have e4:a.2.2.2.1.getD i ((0,(0,0,0,()),(0,0,0,()),0,0,()):DEntry)=a.2.2.2.1[i]:=qao hi
  have e6:b.2.2.2.1.getD i ((0,(0,0,0,()),(0,0,0,()),0,0,()):DEntry)=b.2.2.2.1[i]:=qao hj
  have e5:iAdd .i64 (i:Int) 1=((i+1:Nat):Int):=qat hi (by omega)
  simp only [qoz,e1,e2,e3,e4,e5,e6,Int.toNat_natCast,qys,Option.bind_some,cond_true]
  cases sameE a.2.2.2.1[i] b.2.2.2.1[i] <;> rfl
 ·have e1:iLt (a.2.2.2.1.length:Int) (lenI a.2.2.2.1)=false:=qag (by rw [qaa];omega)
  simp only [qoz,e1,cond_false]
  rfl
def legB (n:Int) (x:DLeg):Bool:=(iLe 1 x.1&&iLe x.1 400)&&(finV x.2.1&&((iLe 0 x.2.2.1&&iLe x.2.2.1 400)&&(iLe (-1) x.2.2.2.1&&iLe x.2.2.2.1 n)))
def ticksI (l:List DLeg):Int:=l.foldl (fun s x=>iAdd .i64 s x.1) 0
def frameB (a:Int) (v:Vec 3 Nat) (l:List (Vec 3 Nat)):Bool:=(iLe 1 a&&iLe a 64)&&(finV v&&(iLe (lenI l) 6&&l.all finV))
def missionB (a:DMission):Bool:=frameB a.1 a.2.1 a.2.2.1&&(iLe (lenI a.2.2.2.1) 64&&(a.2.2.2.1.all (legB (iSub .i64 (lenI a.2.2.1) 1))&&iLe (ticksI a.2.2.2.1) 400))
theorem qabe {a b:Int} : iLt b a = !iLe a b:=by
 by_cases h:a≤b
 ·rw [qa3 h,qag (by omega)];rfl
 ·rw [qg9 h,qaf (by omega)];rfl
theorem qak1 {α:Type} (p:α→Bool) (l:List α):(l.any fun x => !p x) = !l.all p:=by
 induction l with
 | nil=>rfl
 | cons x r ih=>rw [List.any_cons,List.all_cons,ih];cases p x <;> rfl
theorem qrp (a:Int) (v:Vec 3 Nat) (l:List (Vec 3 Nat)) (hl:l.length≤140737488355328):qhj a v l=some ((frameB a v l,()),()):=by
 have h:=qn5 l (fun z659=>(qh5 z659.1).map fun y=>y.1.1) (fun s => !finV s) hl (fun x _=>by
  simp only [qh5,qet,Option.bind_some,Option.map_some])
 simp only [qhj,h]
 simp only [qv4,qgv,qet,Option.bind_some,frameB,qak1]
 cases (iLe 1 a&&iLe a 64) <;> cases finV v <;> cases iLe (lenI l) 6 <;> cases l.all finV <;> rfl
theorem qur (a:Int) (v:Vec 3 Nat) (l:List (Vec 3 Nat)) (hl:l.length≤140737488355328):qj2 a v l=some ((frameB a v l,()),()):=by
 have hr:run (qjl l) ((0:Int),())=some ((l.all finV,()),()):=by
  refine qs6 (fun i hi => ?_) ?_
  ·have e1:iLt (i:Int) (lenI l)=true:=qaf (by rw [qaa];omega)
   have e2:inB (i:Int) l.length=true:=qad hi
   have e4:l.getD i ((0,0,0,()):(Vec 3 Nat))=l[i]:=qao hi
   have e5:iAdd .i64 (i:Int) 1=((i+1:Nat):Int):=qat hi (by omega)
   simp only [qjl,e1,e2,e4,e5,Int.toNat_natCast,qe6,Option.bind_some,cond_true]
   cases finV l[i] <;> rfl
  ·have e1:iLt (l.length:Int) (lenI l)=false:=qag (by rw [qaa];omega)
   simp only [qjl,e1,cond_false]
   rfl
 simp only [qj2,qgv,qe6,Option.bind_some,hr,frameB,qabe]
 cases (iLe 1 a&&iLe a 64) <;> cases finV v <;> cases iLe (lenI l) 6 <;> rfl
theorem qvk (a:DMission) (h:a.2.2.2.1.length≤140737488355328):qk6 a=some ((ticksI a.2.2.2.1,()),()):=by
 unfold qk6 ticksI
 refine qaoe (xs:=a.2.2.2.1) (fun i (s:Int)=>(s,(i:Int),())) _ (fun s=>some ((s,()),())) (fun i hi s => ?_) (fun s => ?_) 0
 ·have e1:iLt (i:Int) (lenI a.2.2.2.1)=true:=qaf (by rw [qaa];omega)
  have e2:inB (i:Int) a.2.2.2.1.length=true:=qad hi
  have e4:a.2.2.2.1.getD i ((0,(0,0,0,()),0,0,()):DLeg)=a.2.2.2.1[i]:=qao hi
  have e5:iAdd .i64 (i:Int) 1=((i+1:Nat):Int):=qat hi (by omega)
  simp only [qoo,e1,e2,e4,e5,Int.toNat_natCast,cond_true]
 ·have e1:iLt (a.2.2.2.1.length:Int) (lenI a.2.2.2.1)=false:=qag (by rw [qaa];omega)
  simp only [qoo,e1,cond_false]
theorem qi7 (a:DMission) (h:Sized TyMission a):qf1 a=some ((missionB a,()),()):=by
 have hl:a.2.2.2.1.length≤140737488355328:=h.2.2.2.1.1
 have hr:run (qf5 a) ((0:Int),())=bif a.2.2.2.1.all (legB (iSub .i64 (lenI a.2.2.1) 1)) then some ((iLe (ticksI a.2.2.2.1) 400,()),()) else some ((false,()),()):=by
  refine qyk (xs:=a.2.2.2.1) (fun i (s:Unit)=>((i:Int),())) _ (fun s _=>s) ((false,()),()) (fun s=>some ((iLe (ticksI a.2.2.2.1) 400,()),())) (fun i hi s => ?_) (fun s => ?_) ()
  ·have e1:iLt (i:Int) (lenI a.2.2.2.1)=true:=qaf (by rw [qaa];omega)
   have e2:inB (i:Int) a.2.2.2.1.length=true:=qad hi
   have e4:a.2.2.2.1.getD i ((0,(0,0,0,()),0,0,()):DLeg)=a.2.2.2.1[i]:=qao hi
   have e5:iAdd .i64 (i:Int) 1=((i+1:Nat):Int):=qat hi (by omega)
   simp only [qf5,e1,e2,e4,e5,Int.toNat_natCast,qv4,qgv,qet,Option.bind_some,cond_true,legB]
   generalize a.2.2.2.1[i]=x
   cases (iLe 1 x.1&&iLe x.1 400) <;> cases finV x.2.1 <;> cases (iLe 0 x.2.2.1&&iLe x.2.2.1 400) <;> cases (iLe (-1) x.2.2.2.1&&iLe x.2.2.2.1 (iSub .i64 (lenI a.2.2.1) 1)) <;> rfl
  ·have e1:iLt (a.2.2.2.1.length:Int) (lenI a.2.2.2.1)=false:=qag (by rw [qaa];omega)
   simp only [qf5,e1,cond_false,qvk a hl,Option.bind_some]
 simp only [qf1,qrp a.1 a.2.1 a.2.2.1 h.2.2.1.1,hr,Option.bind_some,missionB,qabe]
 cases frameB a.1 a.2.1 a.2.2.1 <;> cases iLe (lenI a.2.2.2.1) 64 <;> cases a.2.2.2.1.all (legB (iSub .i64 (lenI a.2.2.1) 1)) <;> rfl
theorem qsb (a:DMission) (h:Sized TyMission a):qo7 a=some ((missionB a,()),()):=by
 have hl:a.2.2.2.1.length≤140737488355328:=h.2.2.2.1.1
 have hr:run (qmz a) ((0:Int),(0:Int),())=bif a.2.2.2.1.all (legB (iSub .i64 (lenI a.2.2.1) 1)) then some ((iLe (ticksI a.2.2.2.1) 400,()),()) else some ((false,()),()):=by
  refine qyk (xs:=a.2.2.2.1) (fun i (s:Int)=>(s,(i:Int),())) _ (fun s x=>iAdd .i64 s x.1) ((false,()),()) (fun s=>some ((iLe s 400,()),())) (fun i hi s => ?_) (fun s => ?_) 0
  ·have e1:iLt (i:Int) (lenI a.2.2.2.1)=true:=qaf (by rw [qaa];omega)
   have e2:inB (i:Int) a.2.2.2.1.length=true:=qad hi
   have e4:a.2.2.2.1.getD i ((0,(0,0,0,()),0,0,()):DLeg)=a.2.2.2.1[i]:=qao hi
   have e5:iAdd .i64 (i:Int) 1=((i+1:Nat):Int):=qat hi (by omega)
   simp only [qmz,e1,e2,e4,e5,Int.toNat_natCast,qgv,qe6,Option.bind_some,cond_true,legB]
   generalize a.2.2.2.1[i]=x
   cases (iLe 1 x.1&&iLe x.1 400) <;> cases finV x.2.1 <;> cases (iLe 0 x.2.2.1&&iLe x.2.2.1 400) <;> cases (iLe (-1) x.2.2.2.1&&iLe x.2.2.2.1 (iSub .i64 (lenI a.2.2.1) 1)) <;> rfl
  ·have e1:iLt (a.2.2.2.1.length:Int) (lenI a.2.2.2.1)=false:=qag (by rw [qaa];omega)
   simp only [qmz,e1,cond_false]
 simp only [qo7,qur a.1 a.2.1 a.2.2.1 h.2.2.1.1,hr,Option.bind_some,missionB,qabe]
 cases frameB a.1 a.2.1 a.2.2.1 <;> cases iLe (lenI a.2.2.2.1) 64 <;> cases a.2.2.2.1.all (legB (iSub .i64 (lenI a.2.2.1) 1)) <;> rfl
theorem qad8 (a:DMission) (h:Sized TyMission a):qof a=some (bif missionB a then (ticksI a.2.2.2.1,0,()) else (0,1,()),()):=by
 simp only [qof,qi7 a h,qvk a h.2.2.2.1.1,Option.bind_some]
 cases missionB a <;> rfl
theorem qe9 {x:Nat} (h:sameN x 0=true):x=0:=by
 have h0:isNan .f32 0=false:=by decide
 unfold sameN at h
 rw [h0] at h
 cases hx:isNan .f32 x with
 | true=>rw [hx] at h;simp at h
 | false =>
  rw [hx] at h
  simp only [cond_false,qas] at h
  omega
theorem qzw:finB 0=true:=by decide
theorem qtd (x:Nat):sameN x x=true:=by
 unfold sameN
 cases isNan .f32 x
 ·simp [qfq]
 ·rfl
theorem qte (v:Vec 3 Nat):sameV v v=true:=by simp [sameV,qtd]
theorem qamw {v:Vec 3 Nat} (h:sameV v (0,0,0,())=true):finV v=true:=by
 simp only [sameV,Bool.and_eq_true] at h
 obtain ⟨h1,h2,h3⟩:=h
 have e1:=qe9 h1
 have e2:=qe9 h2
 have e3:=qe9 h3
 simp only [finV,e1,e2,e3,qzw,Bool.and_self]
def zeroC (c:Vec 3 Int):Bool:=iEq (Vec.getD 3 c 0 (0:Int)) 0&&(iEq (Vec.getD 3 c 1 (0:Int)) 0&&iEq (Vec.getD 3 c 2 (0:Int)) 0)
def entryB (n:Int) (e:DEntry):Bool :=
 bif iEq e.1 1 then sameV e.2.1 (0,0,0,())&&(zeroC e.2.2.1&&(iEq e.2.2.2.1 0&&sameN e.2.2.2.2.1 0))
 else bif iEq e.1 2 then (zeroC e.2.2.1&&(iEq e.2.2.2.1 0&&sameN e.2.2.2.2.1 0))&&finV e.2.1
 else bif iEq e.1 3 then sameV e.2.1 (0,0,0,())&&(iEq e.2.2.2.1 0&&sameN e.2.2.2.2.1 0)
 else bif iEq e.1 4 then (iLe 0 e.2.2.2.1&&iLe e.2.2.2.1 (iSub .i64 n 1))&&(sameV e.2.1 (0,0,0,())&&(zeroC e.2.2.1&&finB e.2.2.2.2.1))
 else false
theorem qz8 (e:DEntry) (n:Int):qkn e n=some ((entryB n e,()),()):=by
 have hf:qaj [e.2.2.2.2.1]=some ((finB e.2.2.2.2.1,()),()):=by
  rw [qcf _ (by simp)];simp
 have hz : ∀ c:Vec 3 Int,(iEq (Vec.getD 3 c 0 (0:Int)) (Vec.getD 3 c 0 (0:Int))&&(iEq (Vec.getD 3 c 1 (0:Int)) (Vec.getD 3 c 1 (0:Int))&&iEq (Vec.getD 3 c 2 (0:Int)) (Vec.getD 3 c 2 (0:Int))))=true:=fun c=>by simp [qfq]
 have hzc:(iEq (Vec.getD 3 e.2.2.1 0 (0:Int)) (Vec.getD 3 ((0,0,0,()):Vec 3 Int) 0 (0:Int))&&(iEq (Vec.getD 3 e.2.2.1 1 (0:Int)) (Vec.getD 3 ((0,0,0,()):Vec 3 Int) 1 (0:Int))&&iEq (Vec.getD 3 e.2.2.1 2 (0:Int)) (Vec.getD 3 ((0,0,0,()):Vec 3 Int) 2 (0:Int))))=zeroC e.2.2.1:=rfl
 simp only [qkn,qv4,qgv,qsm,qet,hf,Option.bind_some,sameE,entryB,hz,hzc,qfq,qte,qtd,Bool.true_and,Bool.and_true]
 have hv:sameV e.2.1 (0,0,0,())=true→finV e.2.1=true:=qamw
 have hn:sameN e.2.2.2.2.1 0=true→finB e.2.2.2.2.1=true:=fun h=>by rw [qe9 h];exact qzw
 cases hV:sameV e.2.1 (0,0,0,()) <;> cases hR:sameN e.2.2.2.2.1 0 <;> cases hF:finV e.2.1 <;> cases hB:finB e.2.2.2.2.1 <;> first
  | (exfalso;have:=hv hV;rw [hF] at this;exact Bool.noConfusion this)
  | (exfalso;have:=hn hR;rw [hB] at this;exact Bool.noConfusion this)
  | skip
 all_goals
  cases iEq e.1 1 <;> cases iEq e.1 2 <;> cases iEq e.1 3 <;> cases iEq e.1 4 <;> cases zeroC e.2.2.1 <;> cases iEq e.2.2.2.1 0 <;> cases (iLe 0 e.2.2.2.1&&iLe e.2.2.2.1 (iSub .i64 n 1)) <;> rfl
theorem qac8 (e:DEntry) (n:Int):qmy e n=some ((entryB n e,()),()):=by
 have hzc:(iEq (Vec.getD 3 e.2.2.1 0 (0:Int)) 0&&(iEq (Vec.getD 3 e.2.2.1 1 (0:Int)) 0&&iEq (Vec.getD 3 e.2.2.1 2 (0:Int)) 0))=zeroC e.2.2.1:=rfl
 have q:=qhu e.2.1 ((0,0,0,()):(Vec 3 Nat))
 simp only [qmy,qgv,qo2,q,qe6,qbg,Option.bind_some,entryB,Bool.and_true,hzc]
 by_cases k1:e.1=1
 ·simp only [k1,qfq,cond_true]
  cases sameV e.2.1 (0,0,0,()) <;> cases sameN e.2.2.2.2.1 0 <;> cases zeroC e.2.2.1 <;> cases iEq e.2.2.2.1 0 <;> rfl
 have e1:=qaz k1
 by_cases k2:e.1=2
 ·simp only [k2,qfq,cond_true,show iEq 2 1=false from rfl,cond_false]
  cases sameV e.2.1 (0,0,0,()) <;> cases sameN e.2.2.2.2.1 0 <;> cases zeroC e.2.2.1 <;> cases iEq e.2.2.2.1 0 <;> cases finV e.2.1 <;> rfl
 have e2:=qaz k2
 by_cases k3:e.1=3
 ·simp only [k3,qfq,cond_true,show iEq 3 1=false from rfl,show iEq 3 2=false from rfl,cond_false]
  cases sameV e.2.1 (0,0,0,()) <;> cases sameN e.2.2.2.2.1 0 <;> cases iEq e.2.2.2.1 0 <;> rfl
 have e3:=qaz k3
 by_cases k4:e.1=4
 ·simp only [k4,qfq,cond_true,show iEq 4 1=false from rfl,show iEq 4 2=false from rfl,show iEq 4 3=false from rfl,cond_false]
  cases sameV e.2.1 (0,0,0,()) <;> cases sameN e.2.2.2.2.1 0 <;> cases zeroC e.2.2.1 <;> cases finB e.2.2.2.2.1 <;> cases (iLe 0 e.2.2.2.1&&iLe e.2.2.2.1 (iSub .i64 n 1)) <;> rfl
 have e4:=qaz k4
 simp only [e1,e2,e3,e4,cond_false]
 cases sameV e.2.1 (0,0,0,()) <;> cases sameN e.2.2.2.2.1 0 <;> rfl
def logB (a:DLog):Bool:=frameB a.1 a.2.1 a.2.2.1&&(iLe (lenI a.2.2.2.1) 1200&&a.2.2.2.1.all (entryB (lenI a.2.2.1)))
theorem qe1 (a:DLog) (h:Sized TyLog a):qel a=some ((logB a,()),()):=by
 have h1:=qmk a.2.2.2.1 (fun z1131=>(qkl z1131.1 a).map fun y=>y.1.1) (fun e => !entryB (lenI a.2.2.1) e) h.2.2.2.1.1 (fun x _=>by
  simp only [qkl,qz8,Option.bind_some,Option.map_some])
 simp only [qel,h1]
 simp only [qrp a.1 a.2.1 a.2.2.1 h.2.2.1.1,Option.bind_some,logB,qak1,Bool.not_not]
 cases frameB a.1 a.2.1 a.2.2.1 <;> cases iLe (lenI a.2.2.2.1) 1200 <;> rfl
theorem qagd (a:DLog) (h:Sized TyLog a):qq9 a=some ((logB a,()),()):=by
 have hl:a.2.2.2.1.length≤140737488355328:=h.2.2.2.1.1
 have hr:run (qlw a) ((0:Int),())=some ((a.2.2.2.1.all (entryB (lenI a.2.2.1)),()),()):=by
  refine qs6 (fun i hi => ?_) ?_
  ·have e1:iLt (i:Int) (lenI a.2.2.2.1)=true:=qaf (by rw [qaa];omega)
   have e2:inB (i:Int) a.2.2.2.1.length=true:=qad hi
   have e4:a.2.2.2.1.getD i ((0,(0,0,0,()),(0,0,0,()),0,0,()):DEntry)=a.2.2.2.1[i]:=qao hi
   have e5:iAdd .i64 (i:Int) 1=((i+1:Nat):Int):=qat hi (by omega)
   simp only [qlw,e1,e2,e4,e5,Int.toNat_natCast,qac8,Option.bind_some,cond_true]
   cases entryB (lenI a.2.2.1) a.2.2.2.1[i] <;> rfl
  ·have e1:iLt (a.2.2.2.1.length:Int) (lenI a.2.2.2.1)=false:=qag (by rw [qaa];omega)
   simp only [qlw,e1,cond_false]
   rfl
 simp only [qq9,qur a.1 a.2.1 a.2.2.1 h.2.2.1.1,hr,Option.bind_some,logB,qabe]
 cases frameB a.1 a.2.1 a.2.2.1 <;> cases iLe (lenI a.2.2.2.1) 1200 <;> rfl
theorem qam9 (a b:Vec 3 Nat):qv8 a b=qq6 a b:=by
 obtain ⟨a1,a2,a3,⟨⟩⟩:=a
 rfl
theorem qakx (a:Vec 3 Nat) (c:Nat):qr2 a c=qmx a c:=by
 obtain ⟨a1,a2,a3,⟨⟩⟩:=a
 rfl
def addV (a b:Vec 3 Nat):Vec 3 Nat:=(fAdd .f32 (Vec.getD 3 a 0 (0:Nat)) (Vec.getD 3 b 0 (0:Nat)),fAdd .f32 (Vec.getD 3 a 1 (0:Nat)) (Vec.getD 3 b 1 (0:Nat)),fAdd .f32 (Vec.getD 3 a 2 (0:Nat)) (Vec.getD 3 b 2 (0:Nat)),())
def scaleV (a:Vec 3 Nat) (c:Nat):Vec 3 Nat:=(fMul .f32 (Vec.getD 3 a 0 (0:Nat)) c,fMul .f32 (Vec.getD 3 a 1 (0:Nat)) c,fMul .f32 (Vec.getD 3 a 2 (0:Nat)) c,())
theorem qqi (a b:Vec 3 Nat):qq6 a b=some ((addV a b,()),()):=rfl
theorem qji (a:Vec 3 Nat) (c:Nat):qmx a c=some ((scaleV a c,()),()):=rfl
theorem qarw (a:DMission):qoh a (fDiv .f32 1065353216 (fOfInt .f32 a.1))=qci a:=by
 funext s
 unfold qoh qci
 cases iLt s.2.1 (lenI a.2.2.2.1)
 ·rfl
 ·cases hb:inB s.2.1 a.2.2.2.1.length
  ·rfl
  ·simp only [cond_true,qji,Option.bind_some]
   congr 1
   funext z
   simp only [qty,qb2,hb,cond_true,qam9,qakx,qji,qqi,qe6,qet,Option.bind_some]
end
section
theorem qabb (x:Nat) (h:finB x=true):(!fLt .f32 x 0)=fLe .f32 0 x:=by
 obtain ⟨s,m,p,hd⟩:=qadr (k:=.f32) h
 have hd':FloatKind.f32.format.read x = .number s m p:=hd
 have h0:FloatKind.f32.format.read 0 = .number false 0 (-149):=by decide
 have some_beq : ∀ (a b:Ordering),((some a:Option Ordering)==some b)=(a==b):=fun a b=>by cases a <;> cases b <;> rfl
 unfold fLt fLe Ieee.Format.order
 rw [hd',h0]
 simp only [Ieee.Datum.order,some_beq]
 rw [qadl,qn8,Int.min_comm]
 generalize Ieee.signed s m _=a
 generalize Ieee.signed false 0 _=b
 by_cases h:a<b
 ·have:¬ b≤a:=by omega
  simp [h,this]
 ·have:b≤a:=by omega
  simp [h,this]
def leastB (x:Nat):Bool:=finB x&&fLe .f32 0 x
theorem qaee (x:Nat):qgr [x]=some ((leastB x,()),()):=by
 have h:=qhp [x] (fun z1059=>(qlq z1059.1).map fun y=>y.1.1) (fun p=>fLt .f32 p 0) (by simp) (fun x _=>rfl)
 simp only [qgr,h,qcf [x] (by simp),Option.bind_some,List.all_cons,List.all_nil,List.any_cons,List.any_nil,Bool.and_true,Bool.or_false,leastB]
 cases hf:finB x with
 | false=>rfl
 | true=>rw [qabb x hf];rfl
end
section
theorem quh (x:Nat):qfx x=some ((leastB x,()),()):=by
 simp only [qfx,qbg,Option.bind_some,leastB]
 cases fLe .f32 0 x <;> cases finB x <;> rfl
end
section
theorem qex {x:Nat} : finB x=true ↔ ∃ s m p,FloatKind.f32.decode x = .number s m p:=by
 constructor
 ·exact qadr (k:=.f32)
 ·rintro ⟨s,m,p,hd⟩
  have hd':FloatKind.f32.format.read x = .number s m p:=hd
  have e:fSub .f32 x x=0:=by
   unfold fSub Ieee.Format.sub
   rw [hd']
   simp only [Ieee.Datum.opposite,Ieee.Datum.sum]
   have ht:Ieee.signed s m (p-min p p).toNat+Ieee.signed (!s) m (p-min p p).toNat=0:=by rw [qae2];omega
   rw [ht]
   cases s <;> rfl
  unfold finB
  rw [e]
  decide
theorem qti (s:Bool):finB (canon .f32 (FloatKind.f32.format.write (.infinity s)))=false:=by cases s <;> decide
theorem fin_nan:finB (nan .f32)=false:=by decide
theorem qtq:finB 0=true:=by decide
theorem qak8 {a b:Nat} (h:finB (fMul .f32 a b)=true):finB a=true∧finB b=true:=by
 unfold fMul Ieee.Format.mul at h
 cases ha:FloatKind.f32.format.read a with
 | nan s t =>
  rw [ha] at h
  have:finB (nan .f32)=true:=by cases hb:FloatKind.f32.format.read b <;> rw [hb] at h <;> exact h
  rw [fin_nan] at this
  cases this
 | infinity s =>
  rw [ha] at h
  cases hb:FloatKind.f32.format.read b with
  | nan t u=>rw [hb] at h;exact absurd (fin_nan.symm.trans h) (by decide)
  | infinity t=>rw [hb] at h;exact absurd ((qti _).symm.trans h) (by decide)
  | number t n j =>
   rw [hb] at h
   by_cases hn:n=0
   ·simp only [Ieee.Datum.product,hn,if_true] at h
    exact absurd (fin_nan.symm.trans h) (by decide)
   ·simp only [Ieee.Datum.product,if_neg hn] at h
    exact absurd ((qti _).symm.trans h) (by decide)
 | number s m i =>
  refine ⟨qex.2 ⟨_,_,_,ha⟩,?_⟩
  rw [ha] at h
  cases hb:FloatKind.f32.format.read b with
  | nan t u=>rw [hb] at h;exact absurd (fin_nan.symm.trans h) (by decide)
  | infinity t =>
   rw [hb] at h
   by_cases hn:m=0
   ·simp only [Ieee.Datum.product,hn,if_true] at h
    exact absurd (fin_nan.symm.trans h) (by decide)
   ·simp only [Ieee.Datum.product,if_neg hn] at h
    exact absurd ((qti _).symm.trans h) (by decide)
  | number t n j=>exact qex.2 ⟨_,_,_,hb⟩
theorem qasf {a b:Nat} (h:finB (fAdd .f32 a b)=true):finB a=true∧finB b=true:=by
 unfold fAdd Ieee.Format.add at h
 cases ha:FloatKind.f32.format.read a with
 | nan s t =>
  rw [ha] at h
  have:finB (nan .f32)=true:=by cases hb:FloatKind.f32.format.read b <;> rw [hb] at h <;> exact h
  rw [fin_nan] at this
  cases this
 | infinity s =>
  rw [ha] at h
  cases hb:FloatKind.f32.format.read b with
  | nan t u=>rw [hb] at h;exact absurd (fin_nan.symm.trans h) (by decide)
  | infinity t =>
   rw [hb] at h
   by_cases hn:s=t
   ·simp only [Ieee.Datum.sum,if_pos hn] at h
    exact absurd ((qti _).symm.trans h) (by decide)
   ·simp only [Ieee.Datum.sum,if_neg hn] at h
    exact absurd (fin_nan.symm.trans h) (by decide)
  | number t n j=>rw [hb] at h;exact absurd ((qti _).symm.trans h) (by decide)
 | number s m i =>
  refine ⟨qex.2 ⟨_,_,_,ha⟩,?_⟩
  rw [ha] at h
  cases hb:FloatKind.f32.format.read b with
  | nan t u=>rw [hb] at h;exact absurd (fin_nan.symm.trans h) (by decide)
  | infinity t=>rw [hb] at h;exact absurd ((qti _).symm.trans h) (by decide)
  | number t n j=>exact qex.2 ⟨_,_,_,hb⟩
theorem qash {x:Nat} (h:fEq .f32 x 0=true):finB x=true:=by
 have h0:FloatKind.f32.format.read 0 = .number false 0 (-149):=by decide
 unfold fEq Ieee.Format.order at h
 rw [h0] at h
 cases hx:FloatKind.f32.format.read x with
 | nan s t=>rw [hx] at h;simp [Ieee.Datum.order] at h
 | infinity s=>rw [hx] at h;cases s <;> simp [Ieee.Datum.order] at h
 | number s m p=>exact qex.2 ⟨_,_,_,hx⟩
theorem qaat (x:Nat):FloatKind.f32.format.read (Op.negFloat .f32 x)=match FloatKind.f32.format.read x with
  | .number s m p => .number (!s) m p
  | .infinity s => .infinity (!s)
  | .nan s t => .nan (!s) t:=by
 have e0:Op.negFloat .f32 x=x ^^^ 2^31:=rfl
 have e1:(x ^^^ 2^31)%2^31=x%2^31:=by
  rw [Nat.xor_mod_two_pow,Nat.mod_self,Nat.xor_zero]
 have e2:((x ^^^ 2^31)/2^31%2==1) = !(x/2^31%2==1):=by
  rw [Nat.xor_div_two_pow,Nat.div_self (by decide)]
  have h2:(x/2^31 ^^^ 1)%2=(x/2^31%2) ^^^ 1:=Nat.xor_mod_two_pow (n:=1)
  rw [h2]
  have:x/2^31%2=0∨x/2^31%2=1:=by omega
  rcases this with h | h <;> rw [h] <;> rfl
 have hs:FloatKind.f32.format.signWeight=2^31:=rfl
 unfold Ieee.Format.read
 simp only [hs,e0,e1,e2]
 split
 ·rfl
 ·split
  ·rfl
  ·split <;> rfl
theorem qalg {x:Nat} {s:Bool} {m:Nat} {p:Int} (h:FloatKind.f32.format.read x = .number s m p):FloatKind.f32.format.read (fNeg .f32 x) = .number (!s) m p:=by
 have h1:FloatKind.f32.format.read (Op.negFloat .f32 x) = .number (!s) m p:=by rw [qaat,h]
 have hn:isNan .f32 (Op.negFloat .f32 x)=false:=by rw [qk8,h1];rfl
 unfold fNeg
 rw [qan hn,h1]
theorem qasi (x:Nat):finB (fNeg .f32 x)=finB x:=by
 cases hx:FloatKind.f32.format.read x with
 | number s m p=>rw [qex.2 ⟨_,_,_,hx⟩,qex.2 ⟨_,_,_,qalg hx⟩]
 | infinity s =>
  have h1:FloatKind.f32.format.read (Op.negFloat .f32 x) = .infinity (!s):=by rw [qaat,hx]
  have hn:isNan .f32 (Op.negFloat .f32 x)=false:=by rw [qk8,h1];rfl
  have a:finB x=false:=by
   cases h:finB x with
   | false=>rfl
   | true=>obtain ⟨s',m',p',e⟩:=qex.1 h;rw [show FloatKind.f32.decode x=FloatKind.f32.format.read x from rfl,hx] at e;cases e
  rw [a]
  cases h:finB (fNeg .f32 x) with
  | false=>rfl
  | true =>
   obtain ⟨s',m',p',e⟩:=qex.1 h
   rw [show FloatKind.f32.decode (fNeg .f32 x)=FloatKind.f32.format.read (fNeg .f32 x) from rfl,fNeg,qan hn,h1] at e
   cases e
 | nan s t =>
  have h1:FloatKind.f32.format.read (Op.negFloat .f32 x) = .nan (!s) t:=by rw [qaat,hx]
  have hn:isNan .f32 (Op.negFloat .f32 x)=true:=by rw [qk8,h1];rfl
  have a:finB x=false:=by
   cases h:finB x with
   | false=>rfl
   | true=>obtain ⟨s',m',p',e⟩:=qex.1 h;rw [show FloatKind.f32.decode x=FloatKind.f32.format.read x from rfl,hx] at e;cases e
  rw [a,fNeg,qdi hn]
  exact fin_nan
theorem sbeq (a b:Ordering):((some a:Option Ordering)==some b)=(a==b):=by cases a <;> cases b <;> rfl
theorem qamm {x:Nat} (hf:finB x=true) (h:fLt .f32 x 0=true):fLt .f32 (fNeg .f32 x) 0=false:=by
 obtain ⟨s,m,p,hd⟩:=qex.1 hf
 have hd':FloatKind.f32.format.read x = .number s m p:=hd
 have h0:FloatKind.f32.format.read 0 = .number false 0 (-149):=by decide
 have hz : ∀ u,Ieee.signed false 0 u=0:=fun u=>by simp [Ieee.signed]
 unfold fLt Ieee.Format.order at h ⊢
 rw [hd',h0] at h
 rw [qalg hd',h0]
 simp only [Ieee.Datum.order,sbeq,qn8,hz] at h ⊢
 rw [qae2]
 have:=of_decide_eq_true h
 exact decide_eq_false (by omega)
theorem qaoq {x y:Nat} (hx:finB x=true) (hy:finB y=true):(!fLe .f32 x y)=fLt .f32 y x:=by
 obtain ⟨s,m,p,hd⟩:=qex.1 hx
 obtain ⟨t,n,q,he⟩:=qex.1 hy
 have hd':FloatKind.f32.format.read x = .number s m p:=hd
 have he':FloatKind.f32.format.read y = .number t n q:=he
 unfold fLt fLe Ieee.Format.order
 rw [hd',he']
 simp only [Ieee.Datum.order,sbeq]
 rw [qadl,qn8,Int.min_comm q p]
 generalize Ieee.signed s m _=a
 generalize Ieee.signed t n _=b
 by_cases h:b<a
 ·have:¬ a≤b:=by omega
  simp [h,this]
 ·have:a≤b:=by omega
  simp [h,this]
end
end Go.Proofs.YtnndahnmlmgenaaGreatDoor
