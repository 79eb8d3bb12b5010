import Derived.Test.YtnndahnmlmgenaaGreatDoorF1
/- Functions on typed data: what the evaluation of each Go function is, and that it is sound. -/
set_option linter.unusedVariables false
namespace Go.Proofs.YtnndahnmlmgenaaGreatDoor
open Go Go.Tm
noncomputable section
set_option maxRecDepth 100000
variable {G : List (Nat × Obj)}
def qiz (y518:(((List (List UInt8))×Unit)×Unit)) (s526:(Int×(List Nat)×Unit)):Option ((Int×(List Nat)×Unit)⊕((Bool×Unit)×((List Nat)×Unit))) :=
 bif (iLt s526.1 (lenI y518.1.1)) then
  bif inB s526.1 (List.length y518.1.1) then
   (qga (List.getD y518.1.1 s526.1.toNat ([]:List UInt8))).bind fun y529 =>
   bif (! (iEq y529.1.2.1 0)) then
    Option.map Sum.inr (some ((false,()),(s526.2.1,())))
   else
   bif inB s526.1 (List.length s526.2.1) then
    some (Sum.inl ((iAdd .i64 s526.1 1),List.set s526.2.1 s526.1.toNat y529.1.1,()))
   else none
  else none
 else
 Option.map Sum.inr (some ((true,()),(s526.2.1,())))
def qbv (a0:List UInt8) (a1:(List Nat)):Option ((Bool×Unit)×((List Nat)×Unit)) :=
 (strings_Split a0 ([32]:List UInt8)).bind fun y518 =>
 bif (! (iEq (lenI y518.1.1) (lenI a1))) then some ((false,()),(a1,())) else run (qiz y518) ((0:Int),a1,())
def qm4:Entry:=⟨⟨[.v (.str),.mv (.rows (.flt .f32))],[.v (.val (.bool))],false⟩,fun x=>qbv x.1 x.2.1⟩
theorem qvu (mx:GMax 1 G) (sy:GErr 2 G) (ra:GErr 3 G) (db:GDeb Tryz.prog G):Sound Tryz.prog G 149 qm4:=qab (envS (l:=[(108,qeb),(162,qjj)]) ⟨(qic mx),(qoo sy ra db),trivial⟩) [(5,.vary [(19,.sc (.int .i64)),(1,.mrows (.flt .f32))])] Tryz.func149 (by kernel_rfl) rfl fun _=>by kernel_rfl
def qj5 (a0:(List (List UInt8))):Option ((Dq2×Bool×Unit)×Unit) :=
 bif inB 0 (List.length a0) then
  (qbv (List.getD a0 0 ([]:List UInt8)) ([0,0,0,0,0,0]:(List Nat))).bind fun y497 =>
  bif Nat.beq (List.length y497.2.1) 6 then
   let w498:=Vec.ofList (0:Nat) 6 (spliceL (Vec.toList 6 Lq2) 0 y497.2.1)
   bif y497.1.1 then
    bif inB 1 (List.length a0) then
     (qbv (List.getD a0 1 ([]:List UInt8)) ([0,0,0,0,0,0]:(List Nat))).bind fun y500 =>
     bif Nat.beq (List.length y500.2.1) 6 then
      let w501:=Vec.ofList (0:Nat) 6 (spliceL (Vec.toList 6 Lq2) 0 y500.2.1)
      bif y500.1.1 then
       bif inB 2 (List.length a0) then
        (qbv (List.getD a0 2 ([]:List UInt8)) ([0,0,0,0,0,0]:(List Nat))).bind fun y503 =>
        bif Nat.beq (List.length y503.2.1) 6 then
         let w504:=Vec.ofList (0:Nat) 6 (spliceL (Vec.toList 6 Lq2) 0 y503.2.1)
         bif y503.1.1 then
          bif inB 3 (List.length a0) then
           (qbv (List.getD a0 3 ([]:List UInt8)) ([0,0,0,0,0,0]:(List Nat))).bind fun y506 =>
           bif Nat.beq (List.length y506.2.1) 6 then
            let w507:=Vec.ofList (0:Nat) 6 (spliceL (Vec.toList 6 Lq2) 0 y506.2.1)
            bif y506.1.1 then
             bif inB 4 (List.length a0) then
              (qbv (List.getD a0 4 ([]:List UInt8)) ([0,0,0,0,0,0]:(List Nat))).bind fun y509 =>
              bif Nat.beq (List.length y509.2.1) 6 then
               let w510:=Vec.ofList (0:Nat) 6 (spliceL (Vec.toList 6 Lq2) 0 y509.2.1)
               bif y509.1.1 then
                bif inB 5 (List.length a0) then
                 (qbv (List.getD a0 5 ([]:List UInt8)) ([0,0,0,0,0,0]:(List Nat))).bind fun y512 =>
                 bif Nat.beq (List.length y512.2.1) 6 then
                  let w513:=Vec.ofList (0:Nat) 6 (spliceL (Vec.toList 6 Lq2) 0 y512.2.1)
                  bif y512.1.1 then
                   bif inB 6 (List.length a0) then
                    (qbv (List.getD a0 6 ([]:List UInt8)) ([0,0,0,0,0,0]:(List Nat))).bind fun y515 =>
                    bif Nat.beq (List.length y515.2.1) 6 then
                     let w516:=Vec.ofList (0:Nat) 6 (spliceL (Vec.toList 6 Lq2) 0 y515.2.1)
                     bif y515.1.1 then
                      (qa4 ((w498,(w501,w504,w507,w510,w513,w516,()),()):Dq2)).bind fun y517 =>
                      some ((((w498,(w501,w504,w507,w510,w513,w516,()),()):Dq2),y517.1.1,()),())
                     else some ((((w498,(w501,w504,w507,w510,w513,w516,()),()):Dq2),false,()),())
                    else none
                   else none
                  else some ((((w498,(w501,w504,w507,w510,w513,(0,0,0,0,0,0,()),()),()):Dq2),false,()),())
                 else none
                else none
               else some ((((w498,(w501,w504,w507,w510,(0,0,0,0,0,0,()),(0,0,0,0,0,0,()),()),()):Dq2),false,()),())
              else none
             else none
            else
            some ((((w498,(w501,w504,w507,(0,0,0,0,0,0,()),(0,0,0,0,0,0,()),(0,0,0,0,0,0,()),()),()):Dq2),false,()),())
           else none
          else none
         else
         some ((((w498,(w501,w504,(0,0,0,0,0,0,()),(0,0,0,0,0,0,()),(0,0,0,0,0,0,()),(0,0,0,0,0,0,()),()),()):Dq2),false,()),())
        else none
       else none
      else
      some ((((w498,(w501,(0,0,0,0,0,0,()),(0,0,0,0,0,0,()),(0,0,0,0,0,0,()),(0,0,0,0,0,0,()),(0,0,0,0,0,0,()),()),()):Dq2),false,()),())
     else none
    else none
   else
   some ((((w498,((0,0,0,0,0,0,()),(0,0,0,0,0,0,()),(0,0,0,0,0,0,()),(0,0,0,0,0,0,()),(0,0,0,0,0,0,()),(0,0,0,0,0,0,()),()),()):Dq2),false,()),())
  else none
 else none
def qpt:Entry:=⟨⟨[.v (.list (.str))],[.v (.val Uq2),.v (.val (.bool))],false⟩,fun x=>qj5 x.1⟩
theorem qx6 (mx:GMax 1 G) (sy:GErr 2 G) (ra:GErr 3 G) (db:GDeb Tryz.prog G):Sound Tryz.prog G 109 qpt:=qab (envS (l:=[(107,qbe),(149,qm4)]) ⟨(qbl),(qvu mx sy ra db),trivial⟩) [(4,.unroll 7)] Tryz.func109 (by kernel_rfl) rfl fun _=>by kernel_rfl
def qj2 (a0:List UInt8):Option Dq14 :=
 (strings_Split a0 ([10]:List UInt8)).bind fun y490 =>
 bif (! (iEq (lenI y490.1.1) 8)) then
  some ((Lq1,(5:Int),()),())
 else
 bif inB 7 (List.length y490.1.1) then
  bif (! (sEq (List.getD y490.1.1 7 ([]:List UInt8)) ([]))) then
   some ((Lq1,(5:Int),()),())
  else
  (qj5 y490.1.1).bind fun y494 =>
  bif (! y494.1.2.1) then
   some ((Lq1,(5:Int),()),())
  else some ((y494.1.1,(0:Int),()),())
 else none
def qpn:Entry:=⟨⟨[.v (.str)],[.v (.val Uq2),.v (.val (.int .i64))],false⟩,fun x=>qj2 x.1⟩
theorem qxz (mx:GMax 1 G) (sy:GErr 2 G) (ra:GErr 3 G) (db:GDeb Tryz.prog G):Sound Tryz.prog G 38 qpn:=qab (envS (l:=[(108,qeb),(109,qpt)]) ⟨(qic mx),(qx6 mx sy ra db),trivial⟩) [] Tryz.func38 (by kernel_rfl) rfl fun _=>by kernel_rfl
def qfi:Option ((Dq24×Unit)×Unit) :=
 some (((((1031798784,1031798784,1031798784,()),(0,0,0,()),1,0,()):Dq24),()),())
def qke:Entry:=⟨⟨[],[.v (.val Uq6)],false⟩,fun _=>qfi⟩
theorem qpl:Sound Tryz.prog G 45 qke:=qab (envS (l:=[]) trivial) [] Tryz.func45 (by kernel_rfl) rfl fun _=>by kernel_rfl
def qj4 (a0:Nat):Option Dq7 :=
 some (((fLt .f32 a0 0),()),())
def qpr:Entry:=⟨⟨[.v (.flt .f32)],[.v (.val (.bool))],false⟩,fun x=>qj4 x.1⟩
theorem qx4:Sound Tryz.prog G 247 qpr:=qab (envS (l:=[]) trivial) [] Tryz.func247 (by kernel_rfl) rfl fun _=>by kernel_rfl
def qek (a0:(List Nat)) (a1:((Nat×Unit)→Option Bool)) (s722:(Int×Unit)):Option ((Int×Unit)⊕Dq19) :=
 bif (iLt s722.1 (lenI a0)) then
  bif inB s722.1 (List.length a0) then
   (a1 ((List.getD a0 s722.1.toNat (0:Nat)),())).bind fun y725 =>
   bif y725 then
    Option.map Sum.inr (some ((s722.1,()),()))
   else
   some (Sum.inl ((iAdd .i64 s722.1 1),()))
  else none
 else
 Option.map Sum.inr (some ((((-1:Int):Int),()),()))
def qdn (a0:(List Nat)) (a1:((Nat×Unit)→Option Bool)):Option Dq19 :=
 run (qek a0 a1) ((0:Int),())
def qhp:Entry:=⟨⟨[.v (.list (.flt .f32)),.fn ⟨[.flt .f32],.bool⟩],[.v (.val (.int .i64))],false⟩,fun x=>qdn x.1 x.2.1⟩
theorem qo4:Sound Tryz.prog G 261 qhp:=qab (envS (l:=[]) trivial) [(2,.vary [(8,.sc (.int .i64))])] Tryz.func261 (by kernel_rfl) rfl fun _=>by kernel_rfl
def qc1 (a0:(List Nat)) (a1:((Nat×Unit)→Option Bool)):Option Dq7 :=
 (qdn a0 a1).bind fun y720 =>
 some (((iLe 0 y720.1.1),()),())
def qgh:Entry:=⟨⟨[.v (.list (.flt .f32)),.fn ⟨[.flt .f32],.bool⟩],[.v (.val (.bool))],false⟩,fun x=>qc1 x.1 x.2.1⟩
theorem qmm:Sound Tryz.prog G 246 qgh:=qab (envS (l:=[(261,qhp)]) ⟨(qo4),trivial⟩) [] Tryz.func246 (by kernel_rfl) rfl fun _=>by kernel_rfl
def qfv (a0:(List Nat)):Option Dq7 :=
 (qaf a0).bind fun y715 =>
 bif y715.1.1 then
  (qc1 a0 (fun (z716:(Nat×Unit))=>(qj4 z716.1).map fun y=>y.1.1)).bind fun y717 =>
  some (((! y717.1.1),()),())
 else some ((false,()),())
def qsc:Entry:=⟨⟨[.v (.list (.flt .f32))],[.v (.val (.bool))],false⟩,fun x=>qfv x.1⟩
theorem qaau:Sound Tryz.prog G 201 qsc:=qab (envS (l:=[(48,qbi),(246,qgh),(247,qpr)]) ⟨(qbn),(qmm),(qx4),trivial⟩) [] Tryz.func201 (by kernel_rfl) rfl fun _=>by kernel_rfl
theorem qaeu:Sound Tryz.prog G 187 qq7:=qaa5 Tryz.func187 (by kernel_rfl) (by kernel_rfl) (by kernel_rfl) (by kernel_rfl)
def qsf (a0:Nat):Option Dq22 :=
 (qadf a0).bind fun y730 =>
 some ((y730.1.1,()),())
def qq6:Entry:=⟨⟨[.v (.flt .f64)],[.v (.val (.flt .f64))],false⟩,fun x=>qsf x.1⟩
theorem qwy:Sound Tryz.prog G 153 qq6:=qab (envS (l:=[(187,qq7)]) ⟨(qaeu),trivial⟩) [] Tryz.func153 (by kernel_rfl) rfl fun _=>by kernel_rfl
def qgb (a0:Nat):Option Dq22 :=
 (fConv .f32 .f64 a0).bind fun y727 =>
 (qsf y727).bind fun y728 =>
 (fConv .f64 .f32 y728.1.1).bind fun y729 =>
 some ((y729,()),())
def qjp:Entry:=⟨⟨[.v (.flt .f32)],[.v (.val (.flt .f32))],false⟩,fun x=>qgb x.1⟩
theorem qme:Sound Tryz.prog G 114 qjp:=qab (envS (l:=[(153,qq6)]) ⟨(qwy),trivial⟩) [] Tryz.func114 (by kernel_rfl) rfl fun _=>by kernel_rfl
def qe7 (a0:(Vec 6 (Vec 6 Nat))):Option Dq7 :=
 (qaf ([Vec.getD 6 (Vec.getD 6 a0 0 Lq2) 0 (0:Nat),Vec.getD 6 (Vec.getD 6 a0 0 Lq2) 1 (0:Nat),Vec.getD 6 (Vec.getD 6 a0 0 Lq2) 2 (0:Nat),Vec.getD 6 (Vec.getD 6 a0 0 Lq2) 3 (0:Nat),Vec.getD 6 (Vec.getD 6 a0 0 Lq2) 4 (0:Nat),Vec.getD 6 (Vec.getD 6 a0 0 Lq2) 5 (0:Nat)]:(List Nat))).bind fun y938 =>
 bif (! y938.1.1) then some ((false,()),()) else
 (qaf ([Vec.getD 6 (Vec.getD 6 a0 1 Lq2) 0 (0:Nat),Vec.getD 6 (Vec.getD 6 a0 1 Lq2) 1 (0:Nat),Vec.getD 6 (Vec.getD 6 a0 1 Lq2) 2 (0:Nat),Vec.getD 6 (Vec.getD 6 a0 1 Lq2) 3 (0:Nat),Vec.getD 6 (Vec.getD 6 a0 1 Lq2) 4 (0:Nat),Vec.getD 6 (Vec.getD 6 a0 1 Lq2) 5 (0:Nat)]:(List Nat))).bind fun y940 =>
 bif (! y940.1.1) then some ((false,()),()) else
 (qaf ([Vec.getD 6 (Vec.getD 6 a0 2 Lq2) 0 (0:Nat),Vec.getD 6 (Vec.getD 6 a0 2 Lq2) 1 (0:Nat),Vec.getD 6 (Vec.getD 6 a0 2 Lq2) 2 (0:Nat),Vec.getD 6 (Vec.getD 6 a0 2 Lq2) 3 (0:Nat),Vec.getD 6 (Vec.getD 6 a0 2 Lq2) 4 (0:Nat),Vec.getD 6 (Vec.getD 6 a0 2 Lq2) 5 (0:Nat)]:(List Nat))).bind fun y942 =>
 bif (! y942.1.1) then some ((false,()),()) else
 (qaf ([Vec.getD 6 (Vec.getD 6 a0 3 Lq2) 0 (0:Nat),Vec.getD 6 (Vec.getD 6 a0 3 Lq2) 1 (0:Nat),Vec.getD 6 (Vec.getD 6 a0 3 Lq2) 2 (0:Nat),Vec.getD 6 (Vec.getD 6 a0 3 Lq2) 3 (0:Nat),Vec.getD 6 (Vec.getD 6 a0 3 Lq2) 4 (0:Nat),Vec.getD 6 (Vec.getD 6 a0 3 Lq2) 5 (0:Nat)]:(List Nat))).bind fun y944 =>
 bif (! y944.1.1) then some ((false,()),()) else
 (qaf ([Vec.getD 6 (Vec.getD 6 a0 4 Lq2) 0 (0:Nat),Vec.getD 6 (Vec.getD 6 a0 4 Lq2) 1 (0:Nat),Vec.getD 6 (Vec.getD 6 a0 4 Lq2) 2 (0:Nat),Vec.getD 6 (Vec.getD 6 a0 4 Lq2) 3 (0:Nat),Vec.getD 6 (Vec.getD 6 a0 4 Lq2) 4 (0:Nat),Vec.getD 6 (Vec.getD 6 a0 4 Lq2) 5 (0:Nat)]:(List Nat))).bind fun y946 =>
 bif (! y946.1.1) then some ((false,()),()) else
 (qaf ([Vec.getD 6 (Vec.getD 6 a0 5 Lq2) 0 (0:Nat),Vec.getD 6 (Vec.getD 6 a0 5 Lq2) 1 (0:Nat),Vec.getD 6 (Vec.getD 6 a0 5 Lq2) 2 (0:Nat),Vec.getD 6 (Vec.getD 6 a0 5 Lq2) 3 (0:Nat),Vec.getD 6 (Vec.getD 6 a0 5 Lq2) 4 (0:Nat),Vec.getD 6 (Vec.getD 6 a0 5 Lq2) 5 (0:Nat)]:(List Nat))).bind fun y948 =>
 bif (! y948.1.1) then some ((false,()),()) else some ((true,()),())
def qmc:Entry:=⟨⟨[.ro (.arr 6 (.arr 6 (.flt .f32)))],[.v (.val (.bool))],false⟩,fun x=>qe7 x.1⟩
theorem qu1:Sound Tryz.prog G 262 qmc:=qab (envS (l:=[(48,qbi)]) ⟨(qbn),trivial⟩) [(2,.unroll 7)] Tryz.func262 (by kernel_rfl) rfl fun _=>by kernel_rfl
def qck (s816:Dq8) (s855:Dq8) (x866:Nat) (x867:Nat) (s879:Dq8):Option (Dq8⊕(Dq8⊕(Dq8⊕Dq11))) :=
 bif (iLt s879.1 6) then
  bif inB s879.1 6 then
   bif inB s816.1 9 then
    let x881:=Vec.getD 9 (Vec.getD 6 s879.2.1 s879.1.toNat Lq3) s816.1.toNat (0:Nat)
    bif inB s879.1 6 then
     bif inB s855.1 9 then
      let x882:=Vec.getD 9 (Vec.getD 6 s879.2.1 s879.1.toNat Lq3) s855.1.toNat (0:Nat)
      let x885:=fAdd .f32 (fMul .f32 x866 x881) (fMul .f32 x867 x882)
      bif inB s879.1 6 then
       bif inB s816.1 9 then
        bif inB s879.1 6 then
         bif inB s855.1 9 then
          some (Sum.inl ((iAdd .i64 s879.1 1),Vec.set 6 (Vec.set 6 s879.2.1 s879.1.toNat (Vec.set 9 (Vec.getD 6 s879.2.1 s879.1.toNat Lq3) s816.1.toNat x885)) s879.1.toNat (Vec.set 9 (Vec.getD 6 (Vec.set 6 s879.2.1 s879.1.toNat (Vec.set 9 (Vec.getD 6 s879.2.1 s879.1.toNat Lq3) s816.1.toNat x885)) s879.1.toNat Lq3) s855.1.toNat (fSub .f32 (fMul .f32 x866 x882) (fMul .f32 x867 x881))),()))
         else none
        else none
       else none
      else none
     else none
    else none
   else none
  else none
 else
 Option.map Sum.inr (
  bif inB s816.1 6 then
   bif inB s855.1 9 then
    some (Sum.inl ((iAdd .i64 s855.1 1),Vec.set 6 s879.2.1 s816.1.toNat (Vec.set 9 (Vec.getD 6 s879.2.1 s816.1.toNat Lq3) s855.1.toNat (0:Nat)),()))
   else none
  else none)
def qb4 (s816:Dq8) (s855:Dq8):Option (Dq8⊕(Dq8⊕Dq11)) :=
 bif (iLt s855.1 9) then
  bif inB s816.1 6 then
   bif inB s855.1 9 then
    let x857:=Vec.getD 9 (Vec.getD 6 s855.2.1 s816.1.toNat Lq3) s855.1.toNat (0:Nat)
    bif (fEq .f32 x857 0) then
     some (Sum.inl ((iAdd .i64 s855.1 1),s855.2.1,()))
    else
    bif inB s816.1 6 then
     bif inB s816.1 9 then
      let x860:=Vec.getD 9 (Vec.getD 6 s855.2.1 s816.1.toNat Lq3) s816.1.toNat (0:Nat)
      (qgb (fAdd .f32 (fMul .f32 x860 x860) (fMul .f32 x857 x857))).bind fun y864 =>
      bif (fEq .f32 y864.1.1 0) then
       Option.map Sum.inr (Option.map Sum.inr (some ((Lq4,(4:Int),()),())))
      else
      let x866:=fDiv .f32 x860 y864.1.1
      let x867:=fDiv .f32 x857 y864.1.1
      run (qck s816 s855 x866 x867) (s816.1,s855.2.1,())
     else none
    else none
   else none
  else none
 else
 Option.map Sum.inr (some (Sum.inl ((iAdd .i64 s816.1 1),s855.2.1,())))
def qhu (s919:Dq13) (s930:Dq13):Option (Dq13⊕(Dq13⊕Dq11)) :=
 bif (iLt s930.1 6) then
  bif inB s930.1 6 then
   bif inB s919.1 6 then
    bif inB s930.1 6 then
     bif inB s919.1 6 then
      some (Sum.inl ((iAdd .i64 s930.1 1),Vec.set 6 s930.2.1 s930.1.toNat (Vec.set 6 (Vec.getD 6 s930.2.1 s930.1.toNat Lq2) s919.1.toNat (fNeg .f32 (Vec.getD 6 (Vec.getD 6 s930.2.1 s930.1.toNat Lq2) s919.1.toNat (0:Nat)))),()))
     else none
    else none
   else none
  else none
 else
 Option.map Sum.inr (some (Sum.inl ((iAdd .i64 s919.1 1),s930.2.1,())))
def qd4 (s919:Dq13):Option (Dq13⊕Dq11) :=
 bif (iLt s919.1 6) then
  bif inB s919.1 6 then
   bif inB s919.1 6 then
    bif (! (fLt .f32 (Vec.getD 6 (Vec.getD 6 s919.2.1 s919.1.toNat Lq2) s919.1.toNat (0:Nat)) 0)) then
     some (Sum.inl ((iAdd .i64 s919.1 1),s919.2.1,()))
    else run (qhu s919) (s919.1,s919.2.1,())
   else none
  else none
 else
 Option.map Sum.inr (
  (qe7 s919.2.1).bind fun y936 =>
  bif (! y936.1.1) then
   some ((Lq4,(4:Int),()),())
  else some ((s919.2.1,(0:Int),()),()))
def qd3 (s816:Dq8) (s897:Dq13):Option (Dq13⊕Dq11) :=
 bif (iLt s897.1 6) then
  bif inB s897.1 6 then
   let x899:=iAdd .i64 s897.1 1
   bif inS 0 x899 6 then
    bif inB s897.1 6 then
     bif Nat.ble (0+x899.toNat) 6 then
      some (Sum.inl ((iAdd .i64 s897.1 1),Vec.set 6 s897.2.1 s897.1.toNat (Vec.ofList (0:Nat) 6 (spliceL (Vec.toList 6 (Vec.getD 6 s897.2.1 s897.1.toNat Lq2)) 0 (List.take x899.toNat ([Vec.getD 9 (Vec.getD 6 s816.2.1 s897.1.toNat Lq3) 0 (0:Nat),Vec.getD 9 (Vec.getD 6 s816.2.1 s897.1.toNat Lq3) 1 (0:Nat),Vec.getD 9 (Vec.getD 6 s816.2.1 s897.1.toNat Lq3) 2 (0:Nat),Vec.getD 9 (Vec.getD 6 s816.2.1 s897.1.toNat Lq3) 3 (0:Nat),Vec.getD 9 (Vec.getD 6 s816.2.1 s897.1.toNat Lq3) 4 (0:Nat),Vec.getD 9 (Vec.getD 6 s816.2.1 s897.1.toNat Lq3) 5 (0:Nat),Vec.getD 9 (Vec.getD 6 s816.2.1 s897.1.toNat Lq3) 6 (0:Nat),Vec.getD 9 (Vec.getD 6 s816.2.1 s897.1.toNat Lq3) 7 (0:Nat),Vec.getD 9 (Vec.getD 6 s816.2.1 s897.1.toNat Lq3) 8 (0:Nat)]:(List Nat))))),()))
     else none
    else none
   else none
  else none
 else
 Option.map Sum.inr (run (qd4) ((0:Int),s897.2.1,()))
def qce (s816:Dq8):Option (Dq8⊕Dq11) :=
 bif (iLt s816.1 6) then
  run (qb4 s816) ((iAdd .i64 s816.1 1),s816.2.1,())
 else
 Option.map Sum.inr (run (qd3 s816) ((0:Int),Lq4,()))
def qi5 (a0:(Vec 6 (Vec 9 Nat))) (s735:(Int×Unit)):Option ((Int×Unit)⊕Dq11) :=
 bif (iLt s735.1 6) then
  bif inB s735.1 6 then
   (qaf ([Vec.getD 9 (Vec.getD 6 a0 s735.1.toNat Lq3) 0 (0:Nat),Vec.getD 9 (Vec.getD 6 a0 s735.1.toNat Lq3) 1 (0:Nat),Vec.getD 9 (Vec.getD 6 a0 s735.1.toNat Lq3) 2 (0:Nat),Vec.getD 9 (Vec.getD 6 a0 s735.1.toNat Lq3) 3 (0:Nat),Vec.getD 9 (Vec.getD 6 a0 s735.1.toNat Lq3) 4 (0:Nat),Vec.getD 9 (Vec.getD 6 a0 s735.1.toNat Lq3) 5 (0:Nat),Vec.getD 9 (Vec.getD 6 a0 s735.1.toNat Lq3) 6 (0:Nat),Vec.getD 9 (Vec.getD 6 a0 s735.1.toNat Lq3) 7 (0:Nat),Vec.getD 9 (Vec.getD 6 a0 s735.1.toNat Lq3) 8 (0:Nat)]:(List Nat))).bind fun y737 =>
   bif (! y737.1.1) then
    Option.map Sum.inr (some ((Lq4,(1:Int),()),()))
   else
   some (Sum.inl ((iAdd .i64 s735.1 1),()))
  else none
 else
 Option.map Sum.inr (run (qce) ((0:Int),a0,()))
def qjg (a0:(Vec 6 (Vec 9 Nat))):Option Dq11 :=
 run (qi5 a0) ((0:Int),())
def qr3:Entry:=⟨⟨[.v (.arr 6 (.arr 9 (.flt .f32)))],[.v (.val (.arr 6 (.arr 6 (.flt .f32)))),.v (.val (.int .i64))],false⟩,fun x=>qjg x.1⟩
theorem qaah:Sound Tryz.prog G 248 qr3:=qab (envS (l:=[(48,qbi),(114,qjp),(262,qmc)]) ⟨(qbn),(qme),(qu1),trivial⟩) [(2,.vary [(19,.sc (.int .i64))]),(8,.vary [(29,.sc (.int .i64)),(1,.box (.val (.arr 6 (.arr 9 (.flt .f32)))))]),(11,.vary [(6,.sc (.int .i64)),(1,.box (.val (.arr 6 (.arr 9 (.flt .f32)))))]),(21,.vary [(12,.sc (.int .i64)),(1,.box (.val (.arr 6 (.arr 9 (.flt .f32)))))]),(30,.vary [(110,.sc (.int .i64)),(15,.box (.val (.arr 6 (.arr 6 (.flt .f32)))))]),(35,.vary [(123,.sc (.int .i64)),(15,.box (.val (.arr 6 (.arr 6 (.flt .f32)))))]),(39,.vary [(18,.sc (.int .i64)),(15,.box (.val (.arr 6 (.arr 6 (.flt .f32)))))])] Tryz.func248 (by kernel_rfl) rfl fun _=>by kernel_rfl
def qca (a0:(Vec 6 Nat)) (a1:(Vec 6 (Vec 9 Nat))):Option Dq14 :=
 (qjg a1).bind fun y731 =>
 bif (! (iEq y731.1.2.1 0)) then
  some ((Lq1,(4:Int),()),())
 else
 (qaf ([Vec.getD 6 a0 0 (0:Nat),Vec.getD 6 a0 1 (0:Nat),Vec.getD 6 a0 2 (0:Nat),Vec.getD 6 a0 3 (0:Nat),Vec.getD 6 a0 4 (0:Nat),Vec.getD 6 a0 5 (0:Nat)]:(List Nat))).bind fun y733 =>
 bif (! y733.1.1) then
  some ((Lq1,(4:Int),()),())
 else some ((((a0,y731.1.1,()):Dq2),(0:Int),()),())
def qnl:Entry:=⟨⟨[.v (.arr 6 (.flt .f32)),.v (.arr 6 (.arr 9 (.flt .f32)))],[.v (.val Uq2),.v (.val (.int .i64))],false⟩,fun x=>qca x.1 x.2.1⟩
theorem qtm:Sound Tryz.prog G 202 qnl:=qab (envS (l:=[(48,qbi),(248,qr3)]) ⟨(qbn),(qaah),trivial⟩) [] Tryz.func202 (by kernel_rfl) rfl fun _=>by kernel_rfl
def qg5 (a0:Dq2) (a1:Nat) (a2:(Vec 3 Nat)):Option Dq14 :=
 (qa4 a0).bind fun y596 =>
 bif (! y596.1.1) then
  some ((Lq1,(1:Int),()),())
 else
 (qfv ([a1]:(List Nat))).bind fun y598 =>
 bif (! y598.1.1) then
  some ((Lq1,(2:Int),()),())
 else
 (qfv ([Vec.getD 3 a2 0 (0:Nat),Vec.getD 3 a2 1 (0:Nat),Vec.getD 3 a2 2 (0:Nat)]:(List Nat))).bind fun y600 =>
 bif (! y600.1.1) then
  some ((Lq1,(2:Int),()),())
 else
 let x605:=fAdd .f32 (Vec.getD 6 a0.1 0 (0:Nat)) (fMul .f32 (Vec.getD 6 a0.1 3 (0:Nat)) a1)
 (qgb a1).bind fun y637 =>
 let x642:=fAdd .f32 (Vec.getD 6 (Vec.set 6 a0.1 0 x605) 1 (0:Nat)) (fMul .f32 (Vec.getD 6 a0.1 4 (0:Nat)) a1)
 (qgb a1).bind fun y674 =>
 (qgb a1).bind fun y711 =>
 (qca (Vec.set 6 (Vec.set 6 (Vec.set 6 a0.1 0 x605) 1 x642) 2 (fAdd .f32 (Vec.getD 6 (Vec.set 6 (Vec.set 6 a0.1 0 x605) 1 x642) 2 (0:Nat)) (fMul .f32 (Vec.getD 6 a0.1 5 (0:Nat)) a1))) ((((fAdd .f32 (Vec.getD 6 (Vec.getD 6 a0.2.1 0 Lq2) 0 (0:Nat)) (fMul .f32 a1 (Vec.getD 6 (Vec.getD 6 a0.2.1 3 Lq2) 0 (0:Nat)))),(fAdd .f32 (Vec.getD 6 (Vec.getD 6 a0.2.1 0 Lq2) 1 (0:Nat)) (fMul .f32 a1 (Vec.getD 6 (Vec.getD 6 a0.2.1 3 Lq2) 1 (0:Nat)))),(fAdd .f32 (Vec.getD 6 (Vec.getD 6 a0.2.1 0 Lq2) 2 (0:Nat)) (fMul .f32 a1 (Vec.getD 6 (Vec.getD 6 a0.2.1 3 Lq2) 2 (0:Nat)))),(fAdd .f32 (Vec.getD 6 (Vec.getD 6 a0.2.1 0 Lq2) 3 (0:Nat)) (fMul .f32 a1 (Vec.getD 6 (Vec.getD 6 a0.2.1 3 Lq2) 3 (0:Nat)))),(fAdd .f32 (Vec.getD 6 (Vec.getD 6 a0.2.1 0 Lq2) 4 (0:Nat)) (fMul .f32 a1 (Vec.getD 6 (Vec.getD 6 a0.2.1 3 Lq2) 4 (0:Nat)))),(fAdd .f32 (Vec.getD 6 (Vec.getD 6 a0.2.1 0 Lq2) 5 (0:Nat)) (fMul .f32 a1 (Vec.getD 6 (Vec.getD 6 a0.2.1 3 Lq2) 5 (0:Nat)))),0,0,0,()),((fAdd .f32 (Vec.getD 6 (Vec.getD 6 a0.2.1 1 Lq2) 0 (0:Nat)) (fMul .f32 a1 (Vec.getD 6 (Vec.getD 6 a0.2.1 4 Lq2) 0 (0:Nat)))),(fAdd .f32 (Vec.getD 6 (Vec.getD 6 a0.2.1 1 Lq2) 1 (0:Nat)) (fMul .f32 a1 (Vec.getD 6 (Vec.getD 6 a0.2.1 4 Lq2) 1 (0:Nat)))),(fAdd .f32 (Vec.getD 6 (Vec.getD 6 a0.2.1 1 Lq2) 2 (0:Nat)) (fMul .f32 a1 (Vec.getD 6 (Vec.getD 6 a0.2.1 4 Lq2) 2 (0:Nat)))),(fAdd .f32 (Vec.getD 6 (Vec.getD 6 a0.2.1 1 Lq2) 3 (0:Nat)) (fMul .f32 a1 (Vec.getD 6 (Vec.getD 6 a0.2.1 4 Lq2) 3 (0:Nat)))),(fAdd .f32 (Vec.getD 6 (Vec.getD 6 a0.2.1 1 Lq2) 4 (0:Nat)) (fMul .f32 a1 (Vec.getD 6 (Vec.getD 6 a0.2.1 4 Lq2) 4 (0:Nat)))),(fAdd .f32 (Vec.getD 6 (Vec.getD 6 a0.2.1 1 Lq2) 5 (0:Nat)) (fMul .f32 a1 (Vec.getD 6 (Vec.getD 6 a0.2.1 4 Lq2) 5 (0:Nat)))),0,0,0,()),((fAdd .f32 (Vec.getD 6 (Vec.getD 6 a0.2.1 2 Lq2) 0 (0:Nat)) (fMul .f32 a1 (Vec.getD 6 (Vec.getD 6 a0.2.1 5 Lq2) 0 (0:Nat)))),(fAdd .f32 (Vec.getD 6 (Vec.getD 6 a0.2.1 2 Lq2) 1 (0:Nat)) (fMul .f32 a1 (Vec.getD 6 (Vec.getD 6 a0.2.1 5 Lq2) 1 (0:Nat)))),(fAdd .f32 (Vec.getD 6 (Vec.getD 6 a0.2.1 2 Lq2) 2 (0:Nat)) (fMul .f32 a1 (Vec.getD 6 (Vec.getD 6 a0.2.1 5 Lq2) 2 (0:Nat)))),(fAdd .f32 (Vec.getD 6 (Vec.getD 6 a0.2.1 2 Lq2) 3 (0:Nat)) (fMul .f32 a1 (Vec.getD 6 (Vec.getD 6 a0.2.1 5 Lq2) 3 (0:Nat)))),(fAdd .f32 (Vec.getD 6 (Vec.getD 6 a0.2.1 2 Lq2) 4 (0:Nat)) (fMul .f32 a1 (Vec.getD 6 (Vec.getD 6 a0.2.1 5 Lq2) 4 (0:Nat)))),(fAdd .f32 (Vec.getD 6 (Vec.getD 6 a0.2.1 2 Lq2) 5 (0:Nat)) (fMul .f32 a1 (Vec.getD 6 (Vec.getD 6 a0.2.1 5 Lq2) 5 (0:Nat)))),0,0,0,()),((Vec.getD 6 (Vec.getD 6 a0.2.1 3 Lq2) 0 (0:Nat)),(Vec.getD 6 (Vec.getD 6 a0.2.1 3 Lq2) 1 (0:Nat)),(Vec.getD 6 (Vec.getD 6 a0.2.1 3 Lq2) 2 (0:Nat)),(Vec.getD 6 (Vec.getD 6 a0.2.1 3 Lq2) 3 (0:Nat)),(Vec.getD 6 (Vec.getD 6 a0.2.1 3 Lq2) 4 (0:Nat)),(Vec.getD 6 (Vec.getD 6 a0.2.1 3 Lq2) 5 (0:Nat)),(fMul .f32 (Vec.getD 3 a2 0 (0:Nat)) y637.1.1),0,0,()),((Vec.getD 6 (Vec.getD 6 a0.2.1 4 Lq2) 0 (0:Nat)),(Vec.getD 6 (Vec.getD 6 a0.2.1 4 Lq2) 1 (0:Nat)),(Vec.getD 6 (Vec.getD 6 a0.2.1 4 Lq2) 2 (0:Nat)),(Vec.getD 6 (Vec.getD 6 a0.2.1 4 Lq2) 3 (0:Nat)),(Vec.getD 6 (Vec.getD 6 a0.2.1 4 Lq2) 4 (0:Nat)),(Vec.getD 6 (Vec.getD 6 a0.2.1 4 Lq2) 5 (0:Nat)),0,(fMul .f32 (Vec.getD 3 a2 1 (0:Nat)) y674.1.1),0,()),((Vec.getD 6 (Vec.getD 6 a0.2.1 5 Lq2) 0 (0:Nat)),(Vec.getD 6 (Vec.getD 6 a0.2.1 5 Lq2) 1 (0:Nat)),(Vec.getD 6 (Vec.getD 6 a0.2.1 5 Lq2) 2 (0:Nat)),(Vec.getD 6 (Vec.getD 6 a0.2.1 5 Lq2) 3 (0:Nat)),(Vec.getD 6 (Vec.getD 6 a0.2.1 5 Lq2) 4 (0:Nat)),(Vec.getD 6 (Vec.getD 6 a0.2.1 5 Lq2) 5 (0:Nat)),0,0,(fMul .f32 (Vec.getD 3 a2 2 (0:Nat)) y711.1.1),()),()):(Vec 6 (Vec 9 Nat)))).bind fun y714 =>
 some ((y714.1.1,y714.1.2.1,()),())
def qr4:Entry:=⟨⟨[.v Uq2,.v (.flt .f32),.v (.arr 3 (.flt .f32))],[.v (.val Uq2),.v (.val (.int .i64))],false⟩,fun x=>qg5 x.1 x.2.1 x.2.2.1⟩
theorem qaai:Sound Tryz.prog G 167 qr4:=qab (envS (l:=[(107,qbe),(114,qjp),(201,qsc),(202,qnl)]) ⟨(qbl),(qme),(qaau),(qtm),trivial⟩) [(8,.unroll 4),(12,.unroll 7)] Tryz.func167 (by kernel_rfl) rfl fun _=>by kernel_rfl
def qig (a0:(List Nat)) (a1:(List Nat)) (s965:(Nat×Int×Unit)):Option ((Nat×Int×Unit)⊕Dq22) :=
 bif (iLt s965.2.1 (lenI a0)) then
  bif inB s965.2.1 (List.length a0) then
   bif inB s965.2.1 (List.length a1) then
    let x969:=fMul .f32 (List.getD a0 s965.2.1.toNat (0:Nat)) (List.getD a1 s965.2.1.toNat (0:Nat))
    bif (iEq s965.2.1 0) then
     some (Sum.inl (x969,(iAdd .i64 s965.2.1 1),()))
    else
    some (Sum.inl ((fAdd .f32 s965.1 x969),(iAdd .i64 s965.2.1 1),()))
   else none
  else none
 else
 Option.map Sum.inr (some ((s965.1,()),()))
def qar (a0:(List Nat)) (a1:(List Nat)):Option Dq22 :=
 run (qig a0 a1) ((0:Nat),(0:Int),())
def qif:Entry:=⟨⟨[.v (.list (.flt .f32)),.v (.list (.flt .f32))],[.v (.val (.flt .f32))],false⟩,fun x=>qar x.1 x.2.1⟩
theorem qk1:Sound Tryz.prog G 154 qif:=qab (envS (l:=[]) trivial) [(3,.vary [(5,.sc (.flt .f32)),(10,.sc (.int .i64))])] Tryz.func154 (by kernel_rfl) rfl fun _=>by kernel_rfl
def qg3 (a0:Dq5) (a1:(Vec 6 Nat)):Option Dq22 :=
 (qar ([Vec.getD 6 a0.1 0 (0:Nat),Vec.getD 6 a0.1 1 (0:Nat),Vec.getD 6 a0.1 2 (0:Nat),Vec.getD 6 a0.1 3 (0:Nat),Vec.getD 6 a0.1 4 (0:Nat),Vec.getD 6 a0.1 5 (0:Nat)]:(List Nat)) ([Vec.getD 6 a1 0 (0:Nat),Vec.getD 6 a1 1 (0:Nat),Vec.getD 6 a1 2 (0:Nat),Vec.getD 6 a1 3 (0:Nat),Vec.getD 6 a1 4 (0:Nat),Vec.getD 6 a1 5 (0:Nat)]:(List Nat))).bind fun y964 =>
 some ((y964.1.1,()),())
def qkd:Entry:=⟨⟨[.ro Uq3,.v (.arr 6 (.flt .f32))],[.v (.val (.flt .f32))],false⟩,fun x=>qg3 x.1 x.2.1⟩
theorem qpk:Sound Tryz.prog G 210 qkd:=qab (envS (l:=[(154,qif)]) ⟨(qk1),trivial⟩) [] Tryz.func210 (by kernel_rfl) rfl fun _=>by kernel_rfl
def qio (a0:(Vec 3 Nat)) (a1:(Vec 3 Nat)):Option Dq22 :=
 (qar ([Vec.getD 3 a0 0 (0:Nat),Vec.getD 3 a0 1 (0:Nat),Vec.getD 3 a0 2 (0:Nat)]:(List Nat)) ([Vec.getD 3 a1 0 (0:Nat),Vec.getD 3 a1 1 (0:Nat),Vec.getD 3 a1 2 (0:Nat)]:(List Nat))).bind fun y976 =>
 some ((y976.1.1,()),())
def qtd:Entry:=⟨⟨[.v (.arr 3 (.flt .f32)),.v (.arr 3 (.flt .f32))],[.v (.val (.flt .f32))],false⟩,fun x=>qio x.1 x.2.1⟩
theorem qab0:Sound Tryz.prog G 115 qtd:=qab (envS (l:=[(154,qif)]) ⟨(qk1),trivial⟩) [] Tryz.func115 (by kernel_rfl) rfl fun _=>by kernel_rfl
def qdu (a0:(Vec 3 Nat)):Option Dq22 :=
 (qio a0 a0).bind fun y974 =>
 (qgb y974.1.1).bind fun y975 =>
 some ((y975.1.1,()),())
def qht:Entry:=⟨⟨[.v (.arr 3 (.flt .f32))],[.v (.val (.flt .f32))],false⟩,fun x=>qdu x.1⟩
theorem qle:Sound Tryz.prog G 46 qht:=qab (envS (l:=[(114,qjp),(115,qtd)]) ⟨(qme),(qab0),trivial⟩) [] Tryz.func46 (by kernel_rfl) rfl fun _=>by kernel_rfl
def ql6 (a0:Dq2):Option (Dq18×Unit) :=
 some ((((Vec.getD 6 a0.1 0 (0:Nat),Vec.getD 6 a0.1 1 (0:Nat),Vec.getD 6 a0.1 2 (0:Nat),()):(Vec 3 Nat)),()),())
def qom:Entry:=⟨⟨[.v Uq2],[.v (.val (.arr 3 (.flt .f32)))],false⟩,fun x=>ql6 x.1⟩
theorem qwm:Sound Tryz.prog G 84 qom:=qab (envS (l:=[]) trivial) [] Tryz.func84 (by kernel_rfl) rfl fun _=>by kernel_rfl
def qkj (a0:(Vec 3 Nat)) (a1:(Vec 3 Nat)):Option (Dq18×Unit) :=
 let x979:=fSub .f32 (Vec.getD 3 a0 0 (0:Nat)) (Vec.getD 3 a1 0 (0:Nat))
 let x982:=fSub .f32 (Vec.getD 3 (Vec.set 3 a0 0 x979) 1 (0:Nat)) (Vec.getD 3 a1 1 (0:Nat))
 some (((Vec.set 3 (Vec.set 3 (Vec.set 3 a0 0 x979) 1 x982) 2 (fSub .f32 (Vec.getD 3 (Vec.set 3 (Vec.set 3 a0 0 x979) 1 x982) 2 (0:Nat)) (Vec.getD 3 a1 2 (0:Nat)))),()),())
def qnh:Entry:=⟨⟨[.v (.arr 3 (.flt .f32)),.v (.arr 3 (.flt .f32))],[.v (.val (.arr 3 (.flt .f32)))],false⟩,fun x=>qkj x.1 x.2.1⟩
theorem qtf:Sound Tryz.prog G 47 qnh:=qab (envS (l:=[]) trivial) [(2,.unroll 4)] Tryz.func47 (by kernel_rfl) rfl fun _=>by kernel_rfl
def qn5 (a0:(Vec 3 Nat)):Option (((Vec 3 Nat)×Int×Unit)×Unit) :=
 (qdu a0).bind fun y987 =>
 bif (fEq .f32 y987.1.1 0) then some ((Lq6,(4:Int),()),()) else
 (qaf ([y987.1.1]:(List Nat))).bind fun y989 =>
 bif (! y989.1.1) then some ((Lq6,(4:Int),()),()) else
 let x992:=fDiv .f32 (Vec.getD 3 a0 0 (0:Nat)) y987.1.1
 let x994:=fDiv .f32 (Vec.getD 3 (Vec.set 3 a0 0 x992) 1 (0:Nat)) y987.1.1
 some (((Vec.set 3 (Vec.set 3 (Vec.set 3 a0 0 x992) 1 x994) 2 (fDiv .f32 (Vec.getD 3 (Vec.set 3 (Vec.set 3 a0 0 x992) 1 x994) 2 (0:Nat)) y987.1.1)),(0:Int),()),())
def qtg:Entry:=⟨⟨[.v (.arr 3 (.flt .f32))],[.v (.val (.arr 3 (.flt .f32))),.v (.val (.int .i64))],false⟩,fun x=>qn5 x.1⟩
theorem qab2:Sound Tryz.prog G 209 qtg:=qab (envS (l:=[(46,qht),(48,qbi)]) ⟨(qle),(qbn),trivial⟩) [(5,.unroll 4)] Tryz.func209 (by kernel_rfl) rfl fun _=>by kernel_rfl
def qdd (a0:Dq5):Option Dq7 :=
 (qaf ([Vec.getD 6 a0.1 0 (0:Nat),Vec.getD 6 a0.1 1 (0:Nat),Vec.getD 6 a0.1 2 (0:Nat),Vec.getD 6 a0.1 3 (0:Nat),Vec.getD 6 a0.1 4 (0:Nat),Vec.getD 6 a0.1 5 (0:Nat)]:(List Nat))).bind fun y1000 =>
 bif y1000.1.1 then
  (qaf ([a0.2.1,a0.2.2.1]:(List Nat))).bind fun y1001 =>
  bif y1001.1.1 then
   some (((fLt .f32 0 a0.2.2.1),()),())
  else some ((false,()),())
 else some ((false,()),())
def qdt:Entry:=⟨⟨[.v Uq3],[.v (.val (.bool))],false⟩,fun x=>qdd x.1⟩
theorem qe6:Sound Tryz.prog G 206 qdt:=qab (envS (l:=[(48,qbi)]) ⟨(qbn),trivial⟩) [] Tryz.func206 (by kernel_rfl) rfl fun _=>by kernel_rfl
def qkk (a0:Dq5):Option Dq26 :=
 (qdd a0).bind fun y998 =>
 bif (! y998.1.1) then some ((Lq7,(1:Int),()),()) else some ((a0,(0:Int),()),())
def qnj:Entry:=⟨⟨[.v Uq3],[.v (.val Uq3),.v (.val (.int .i64))],false⟩,fun x=>qkk x.1⟩
theorem qtj:Sound Tryz.prog G 211 qnj:=qab (envS (l:=[(206,qdt)]) ⟨(qe6),trivial⟩) [] Tryz.func211 (by kernel_rfl) rfl fun _=>by kernel_rfl
def qj1 (a0:Dq2) (a1:(Vec 3 Nat)) (a2:Nat) (a3:Nat):Option Dq26 :=
 (qa4 a0).bind fun y950 =>
 bif (! y950.1.1) then some ((Lq7,(1:Int),()),()) else
 (ql6 a0).bind fun y952 =>
 (qkj y952.1.1 a1).bind fun y953 =>
 (qn5 y953.1.1).bind fun y954 =>
 bif (! (iEq y954.1.2.1 0)) then some ((Lq7,y954.1.2.1,()),()) else
 let x956:=Vec.getD 3 y954.1.1 0 (0:Nat)
 let x957:=Vec.getD 3 y954.1.1 1 (0:Nat)
 let x958:=Vec.getD 3 y954.1.1 2 (0:Nat)
 (qdu y953.1.1).bind fun y959 =>
 (qg3 (((x956,x957,x958,0,0,0,()),0,a3,()):Dq5) a0.1).bind fun y961 =>
 (qkk (((x956,x957,x958,0,0,0,()),(fAdd .f32 (fSub .f32 a2 y959.1.1) y961.1.1),a3,()):Dq5)).bind fun y963 =>
 some ((y963.1.1,y963.1.2.1,()),())
def qpm:Entry:=⟨⟨[.v Uq2,.v (.arr 3 (.flt .f32)),.v (.flt .f32),.v (.flt .f32)],[.v (.val Uq3),.v (.val (.int .i64))],false⟩,fun x=>qj1 x.1 x.2.1 x.2.2.1 x.2.2.2.1⟩
theorem qxy:Sound Tryz.prog G 172 qpm:=qab (envS (l:=[(46,qht),(47,qnh),(84,qom),(107,qbe),(209,qtg),(210,qkd),(211,qnj)]) ⟨(qle),(qtf),(qwm),(qbl),(qab2),(qpk),(qtj),trivial⟩) [] Tryz.func172 (by kernel_rfl) rfl fun _=>by kernel_rfl
def qkl (a0:Dq2) (a1:Dq5):Option (((Vec 6 Nat)×Nat×Nat×Unit)×Unit) :=
 (qar ([(Vec.getD 6 (Vec.getD 6 a0.2.1 0 Lq2) 0 (0:Nat)),(Vec.getD 6 (Vec.getD 6 a0.2.1 1 Lq2) 0 (0:Nat)),(Vec.getD 6 (Vec.getD 6 a0.2.1 2 Lq2) 0 (0:Nat)),(Vec.getD 6 (Vec.getD 6 a0.2.1 3 Lq2) 0 (0:Nat)),(Vec.getD 6 (Vec.getD 6 a0.2.1 4 Lq2) 0 (0:Nat)),(Vec.getD 6 (Vec.getD 6 a0.2.1 5 Lq2) 0 (0:Nat))]:(List Nat)) ([Vec.getD 6 a1.1 0 (0:Nat),Vec.getD 6 a1.1 1 (0:Nat),Vec.getD 6 a1.1 2 (0:Nat),Vec.getD 6 a1.1 3 (0:Nat),Vec.getD 6 a1.1 4 (0:Nat),Vec.getD 6 a1.1 5 (0:Nat)]:(List Nat))).bind fun y1244 =>
 (qar ([(Vec.getD 6 (Vec.getD 6 a0.2.1 1 Lq2) 1 (0:Nat)),(Vec.getD 6 (Vec.getD 6 a0.2.1 2 Lq2) 1 (0:Nat)),(Vec.getD 6 (Vec.getD 6 a0.2.1 3 Lq2) 1 (0:Nat)),(Vec.getD 6 (Vec.getD 6 a0.2.1 4 Lq2) 1 (0:Nat)),(Vec.getD 6 (Vec.getD 6 a0.2.1 5 Lq2) 1 (0:Nat))]:(List Nat)) ([Vec.getD 6 a1.1 1 (0:Nat),Vec.getD 6 a1.1 2 (0:Nat),Vec.getD 6 a1.1 3 (0:Nat),Vec.getD 6 a1.1 4 (0:Nat),Vec.getD 6 a1.1 5 (0:Nat)]:(List Nat))).bind fun y1250 =>
 (qar ([(Vec.getD 6 (Vec.getD 6 a0.2.1 2 Lq2) 2 (0:Nat)),(Vec.getD 6 (Vec.getD 6 a0.2.1 3 Lq2) 2 (0:Nat)),(Vec.getD 6 (Vec.getD 6 a0.2.1 4 Lq2) 2 (0:Nat)),(Vec.getD 6 (Vec.getD 6 a0.2.1 5 Lq2) 2 (0:Nat))]:(List Nat)) ([Vec.getD 6 a1.1 2 (0:Nat),Vec.getD 6 a1.1 3 (0:Nat),Vec.getD 6 a1.1 4 (0:Nat),Vec.getD 6 a1.1 5 (0:Nat)]:(List Nat))).bind fun y1255 =>
 (qar ([(Vec.getD 6 (Vec.getD 6 a0.2.1 3 Lq2) 3 (0:Nat)),(Vec.getD 6 (Vec.getD 6 a0.2.1 4 Lq2) 3 (0:Nat)),(Vec.getD 6 (Vec.getD 6 a0.2.1 5 Lq2) 3 (0:Nat))]:(List Nat)) ([Vec.getD 6 a1.1 3 (0:Nat),Vec.getD 6 a1.1 4 (0:Nat),Vec.getD 6 a1.1 5 (0:Nat)]:(List Nat))).bind fun y1259 =>
 (qar ([(Vec.getD 6 (Vec.getD 6 a0.2.1 4 Lq2) 4 (0:Nat)),(Vec.getD 6 (Vec.getD 6 a0.2.1 5 Lq2) 4 (0:Nat))]:(List Nat)) ([Vec.getD 6 a1.1 4 (0:Nat),Vec.getD 6 a1.1 5 (0:Nat)]:(List Nat))).bind fun y1262 =>
 (qar ([(Vec.getD 6 (Vec.getD 6 a0.2.1 5 Lq2) 5 (0:Nat))]:(List Nat)) ([Vec.getD 6 a1.1 5 (0:Nat)]:(List Nat))).bind fun y1264 =>
 (qg3 a1 a0.1).bind fun y1265 =>
 (qar ([y1244.1.1,y1250.1.1,y1255.1.1,y1259.1.1,y1262.1.1,y1264.1.1]:(List Nat)) ([y1244.1.1,y1250.1.1,y1255.1.1,y1259.1.1,y1262.1.1,y1264.1.1]:(List Nat))).bind fun y1267 =>
 some ((((y1244.1.1,y1250.1.1,y1255.1.1,y1259.1.1,y1262.1.1,y1264.1.1,()):(Vec 6 Nat)),(fSub .f32 a1.2.1 y1265.1.1),(fAdd .f32 y1267.1.1 (fMul .f32 a1.2.2.1 a1.2.2.1)),()),())
def qnm:Entry:=⟨⟨[.ro Uq2,.ro Uq3],[.v (.val (.arr 6 (.flt .f32))),.v (.val (.flt .f32)),.v (.val (.flt .f32))],false⟩,fun x=>qkl x.1 x.2.1⟩
theorem qtn:Sound Tryz.prog G 250 qnm:=qab (envS (l:=[(154,qif),(210,qkd)]) ⟨(qk1),(qpk),trivial⟩) [(3,.unroll 7),(7,.unroll 7)] Tryz.func250 (by kernel_rfl) rfl fun _=>by kernel_rfl
def qc6 (a0:Dq2) (a1:Dq5):Option Dq14 :=
 (qa4 a0).bind fun y1020 =>
 bif (! y1020.1.1) then
  some ((Lq1,(1:Int),()),())
 else
 (qdd a1).bind fun y1022 =>
 bif (! y1022.1.1) then
  some ((Lq1,(1:Int),()),())
 else
 (qkl a0 a1).bind fun y1024 =>
 let x1025:=fDiv .f32 y1024.1.2.1 y1024.1.2.2.1
 (qgb (fDiv .f32 (fMul .f32 a1.2.2.1 a1.2.2.1) y1024.1.2.2.1)).bind fun y1028 =>
 let x1031:=fDiv .f32 (fDiv .f32 1065353216 (fAdd .f32 1065353216 y1028.1.1)) y1024.1.2.2.1
 (qar ([Vec.getD 6 (Vec.getD 6 a0.2.1 0 Lq2) 0 (0:Nat)]:(List Nat)) ([Vec.getD 6 y1024.1.1 0 (0:Nat),Vec.getD 6 y1024.1.1 1 (0:Nat),Vec.getD 6 y1024.1.1 2 (0:Nat),Vec.getD 6 y1024.1.1 3 (0:Nat),Vec.getD 6 y1024.1.1 4 (0:Nat),Vec.getD 6 y1024.1.1 5 (0:Nat)]:(List Nat))).bind fun y1032 =>
 let x1035:=fAdd .f32 (Vec.getD 6 a0.1 0 (0:Nat)) (fMul .f32 y1032.1.1 x1025)
 (qar ([Vec.getD 6 (Vec.getD 6 a0.2.1 1 Lq2) 0 (0:Nat),Vec.getD 6 (Vec.getD 6 a0.2.1 1 Lq2) 1 (0:Nat)]:(List Nat)) ([Vec.getD 6 y1024.1.1 0 (0:Nat),Vec.getD 6 y1024.1.1 1 (0:Nat),Vec.getD 6 y1024.1.1 2 (0:Nat),Vec.getD 6 y1024.1.1 3 (0:Nat),Vec.getD 6 y1024.1.1 4 (0:Nat),Vec.getD 6 y1024.1.1 5 (0:Nat)]:(List Nat))).bind fun y1066 =>
 let x1069:=fAdd .f32 (Vec.getD 6 (Vec.set 6 a0.1 0 x1035) 1 (0:Nat)) (fMul .f32 y1066.1.1 x1025)
 (qar ([Vec.getD 6 (Vec.getD 6 a0.2.1 2 Lq2) 0 (0:Nat),Vec.getD 6 (Vec.getD 6 a0.2.1 2 Lq2) 1 (0:Nat),Vec.getD 6 (Vec.getD 6 a0.2.1 2 Lq2) 2 (0:Nat)]:(List Nat)) ([Vec.getD 6 y1024.1.1 0 (0:Nat),Vec.getD 6 y1024.1.1 1 (0:Nat),Vec.getD 6 y1024.1.1 2 (0:Nat),Vec.getD 6 y1024.1.1 3 (0:Nat),Vec.getD 6 y1024.1.1 4 (0:Nat),Vec.getD 6 y1024.1.1 5 (0:Nat)]:(List Nat))).bind fun y1100 =>
 let x1103:=fAdd .f32 (Vec.getD 6 (Vec.set 6 (Vec.set 6 a0.1 0 x1035) 1 x1069) 2 (0:Nat)) (fMul .f32 y1100.1.1 x1025)
 (qar ([Vec.getD 6 (Vec.getD 6 a0.2.1 3 Lq2) 0 (0:Nat),Vec.getD 6 (Vec.getD 6 a0.2.1 3 Lq2) 1 (0:Nat),Vec.getD 6 (Vec.getD 6 a0.2.1 3 Lq2) 2 (0:Nat),Vec.getD 6 (Vec.getD 6 a0.2.1 3 Lq2) 3 (0:Nat)]:(List Nat)) ([Vec.getD 6 y1024.1.1 0 (0:Nat),Vec.getD 6 y1024.1.1 1 (0:Nat),Vec.getD 6 y1024.1.1 2 (0:Nat),Vec.getD 6 y1024.1.1 3 (0:Nat),Vec.getD 6 y1024.1.1 4 (0:Nat),Vec.getD 6 y1024.1.1 5 (0:Nat)]:(List Nat))).bind fun y1134 =>
 let x1137:=fAdd .f32 (Vec.getD 6 (Vec.set 6 (Vec.set 6 (Vec.set 6 a0.1 0 x1035) 1 x1069) 2 x1103) 3 (0:Nat)) (fMul .f32 y1134.1.1 x1025)
 (qar ([Vec.getD 6 (Vec.getD 6 a0.2.1 4 Lq2) 0 (0:Nat),Vec.getD 6 (Vec.getD 6 a0.2.1 4 Lq2) 1 (0:Nat),Vec.getD 6 (Vec.getD 6 a0.2.1 4 Lq2) 2 (0:Nat),Vec.getD 6 (Vec.getD 6 a0.2.1 4 Lq2) 3 (0:Nat),Vec.getD 6 (Vec.getD 6 a0.2.1 4 Lq2) 4 (0:Nat)]:(List Nat)) ([Vec.getD 6 y1024.1.1 0 (0:Nat),Vec.getD 6 y1024.1.1 1 (0:Nat),Vec.getD 6 y1024.1.1 2 (0:Nat),Vec.getD 6 y1024.1.1 3 (0:Nat),Vec.getD 6 y1024.1.1 4 (0:Nat),Vec.getD 6 y1024.1.1 5 (0:Nat)]:(List Nat))).bind fun y1168 =>
 let x1171:=fAdd .f32 (Vec.getD 6 (Vec.set 6 (Vec.set 6 (Vec.set 6 (Vec.set 6 a0.1 0 x1035) 1 x1069) 2 x1103) 3 x1137) 4 (0:Nat)) (fMul .f32 y1168.1.1 x1025)
 (qar ([Vec.getD 6 (Vec.getD 6 a0.2.1 5 Lq2) 0 (0:Nat),Vec.getD 6 (Vec.getD 6 a0.2.1 5 Lq2) 1 (0:Nat),Vec.getD 6 (Vec.getD 6 a0.2.1 5 Lq2) 2 (0:Nat),Vec.getD 6 (Vec.getD 6 a0.2.1 5 Lq2) 3 (0:Nat),Vec.getD 6 (Vec.getD 6 a0.2.1 5 Lq2) 4 (0:Nat),Vec.getD 6 (Vec.getD 6 a0.2.1 5 Lq2) 5 (0:Nat)]:(List Nat)) ([Vec.getD 6 y1024.1.1 0 (0:Nat),Vec.getD 6 y1024.1.1 1 (0:Nat),Vec.getD 6 y1024.1.1 2 (0:Nat),Vec.getD 6 y1024.1.1 3 (0:Nat),Vec.getD 6 y1024.1.1 4 (0:Nat),Vec.getD 6 y1024.1.1 5 (0:Nat)]:(List Nat))).bind fun y1202 =>
 (qca (Vec.set 6 (Vec.set 6 (Vec.set 6 (Vec.set 6 (Vec.set 6 (Vec.set 6 a0.1 0 x1035) 1 x1069) 2 x1103) 3 x1137) 4 x1171) 5 (fAdd .f32 (Vec.getD 6 (Vec.set 6 (Vec.set 6 (Vec.set 6 (Vec.set 6 (Vec.set 6 a0.1 0 x1035) 1 x1069) 2 x1103) 3 x1137) 4 x1171) 5 (0:Nat)) (fMul .f32 y1202.1.1 x1025))) ((((fSub .f32 (Vec.getD 6 (Vec.getD 6 a0.2.1 0 Lq2) 0 (0:Nat)) (fMul .f32 (fMul .f32 y1032.1.1 x1031) (Vec.getD 6 y1024.1.1 0 (0:Nat)))),(fSub .f32 (Vec.getD 6 (Vec.getD 6 a0.2.1 0 Lq2) 1 (0:Nat)) (fMul .f32 (fMul .f32 y1032.1.1 x1031) (Vec.getD 6 y1024.1.1 1 (0:Nat)))),(fSub .f32 (Vec.getD 6 (Vec.getD 6 a0.2.1 0 Lq2) 2 (0:Nat)) (fMul .f32 (fMul .f32 y1032.1.1 x1031) (Vec.getD 6 y1024.1.1 2 (0:Nat)))),(fSub .f32 (Vec.getD 6 (Vec.getD 6 a0.2.1 0 Lq2) 3 (0:Nat)) (fMul .f32 (fMul .f32 y1032.1.1 x1031) (Vec.getD 6 y1024.1.1 3 (0:Nat)))),(fSub .f32 (Vec.getD 6 (Vec.getD 6 a0.2.1 0 Lq2) 4 (0:Nat)) (fMul .f32 (fMul .f32 y1032.1.1 x1031) (Vec.getD 6 y1024.1.1 4 (0:Nat)))),(fSub .f32 (Vec.getD 6 (Vec.getD 6 a0.2.1 0 Lq2) 5 (0:Nat)) (fMul .f32 (fMul .f32 y1032.1.1 x1031) (Vec.getD 6 y1024.1.1 5 (0:Nat)))),0,0,0,()),((fSub .f32 (Vec.getD 6 (Vec.getD 6 a0.2.1 1 Lq2) 0 (0:Nat)) (fMul .f32 (fMul .f32 y1066.1.1 x1031) (Vec.getD 6 y1024.1.1 0 (0:Nat)))),(fSub .f32 (Vec.getD 6 (Vec.getD 6 a0.2.1 1 Lq2) 1 (0:Nat)) (fMul .f32 (fMul .f32 y1066.1.1 x1031) (Vec.getD 6 y1024.1.1 1 (0:Nat)))),(fSub .f32 (Vec.getD 6 (Vec.getD 6 a0.2.1 1 Lq2) 2 (0:Nat)) (fMul .f32 (fMul .f32 y1066.1.1 x1031) (Vec.getD 6 y1024.1.1 2 (0:Nat)))),(fSub .f32 (Vec.getD 6 (Vec.getD 6 a0.2.1 1 Lq2) 3 (0:Nat)) (fMul .f32 (fMul .f32 y1066.1.1 x1031) (Vec.getD 6 y1024.1.1 3 (0:Nat)))),(fSub .f32 (Vec.getD 6 (Vec.getD 6 a0.2.1 1 Lq2) 4 (0:Nat)) (fMul .f32 (fMul .f32 y1066.1.1 x1031) (Vec.getD 6 y1024.1.1 4 (0:Nat)))),(fSub .f32 (Vec.getD 6 (Vec.getD 6 a0.2.1 1 Lq2) 5 (0:Nat)) (fMul .f32 (fMul .f32 y1066.1.1 x1031) (Vec.getD 6 y1024.1.1 5 (0:Nat)))),0,0,0,()),((fSub .f32 (Vec.getD 6 (Vec.getD 6 a0.2.1 2 Lq2) 0 (0:Nat)) (fMul .f32 (fMul .f32 y1100.1.1 x1031) (Vec.getD 6 y1024.1.1 0 (0:Nat)))),(fSub .f32 (Vec.getD 6 (Vec.getD 6 a0.2.1 2 Lq2) 1 (0:Nat)) (fMul .f32 (fMul .f32 y1100.1.1 x1031) (Vec.getD 6 y1024.1.1 1 (0:Nat)))),(fSub .f32 (Vec.getD 6 (Vec.getD 6 a0.2.1 2 Lq2) 2 (0:Nat)) (fMul .f32 (fMul .f32 y1100.1.1 x1031) (Vec.getD 6 y1024.1.1 2 (0:Nat)))),(fSub .f32 (Vec.getD 6 (Vec.getD 6 a0.2.1 2 Lq2) 3 (0:Nat)) (fMul .f32 (fMul .f32 y1100.1.1 x1031) (Vec.getD 6 y1024.1.1 3 (0:Nat)))),(fSub .f32 (Vec.getD 6 (Vec.getD 6 a0.2.1 2 Lq2) 4 (0:Nat)) (fMul .f32 (fMul .f32 y1100.1.1 x1031) (Vec.getD 6 y1024.1.1 4 (0:Nat)))),(fSub .f32 (Vec.getD 6 (Vec.getD 6 a0.2.1 2 Lq2) 5 (0:Nat)) (fMul .f32 (fMul .f32 y1100.1.1 x1031) (Vec.getD 6 y1024.1.1 5 (0:Nat)))),0,0,0,()),((fSub .f32 (Vec.getD 6 (Vec.getD 6 a0.2.1 3 Lq2) 0 (0:Nat)) (fMul .f32 (fMul .f32 y1134.1.1 x1031) (Vec.getD 6 y1024.1.1 0 (0:Nat)))),(fSub .f32 (Vec.getD 6 (Vec.getD 6 a0.2.1 3 Lq2) 1 (0:Nat)) (fMul .f32 (fMul .f32 y1134.1.1 x1031) (Vec.getD 6 y1024.1.1 1 (0:Nat)))),(fSub .f32 (Vec.getD 6 (Vec.getD 6 a0.2.1 3 Lq2) 2 (0:Nat)) (fMul .f32 (fMul .f32 y1134.1.1 x1031) (Vec.getD 6 y1024.1.1 2 (0:Nat)))),(fSub .f32 (Vec.getD 6 (Vec.getD 6 a0.2.1 3 Lq2) 3 (0:Nat)) (fMul .f32 (fMul .f32 y1134.1.1 x1031) (Vec.getD 6 y1024.1.1 3 (0:Nat)))),(fSub .f32 (Vec.getD 6 (Vec.getD 6 a0.2.1 3 Lq2) 4 (0:Nat)) (fMul .f32 (fMul .f32 y1134.1.1 x1031) (Vec.getD 6 y1024.1.1 4 (0:Nat)))),(fSub .f32 (Vec.getD 6 (Vec.getD 6 a0.2.1 3 Lq2) 5 (0:Nat)) (fMul .f32 (fMul .f32 y1134.1.1 x1031) (Vec.getD 6 y1024.1.1 5 (0:Nat)))),0,0,0,()),((fSub .f32 (Vec.getD 6 (Vec.getD 6 a0.2.1 4 Lq2) 0 (0:Nat)) (fMul .f32 (fMul .f32 y1168.1.1 x1031) (Vec.getD 6 y1024.1.1 0 (0:Nat)))),(fSub .f32 (Vec.getD 6 (Vec.getD 6 a0.2.1 4 Lq2) 1 (0:Nat)) (fMul .f32 (fMul .f32 y1168.1.1 x1031) (Vec.getD 6 y1024.1.1 1 (0:Nat)))),(fSub .f32 (Vec.getD 6 (Vec.getD 6 a0.2.1 4 Lq2) 2 (0:Nat)) (fMul .f32 (fMul .f32 y1168.1.1 x1031) (Vec.getD 6 y1024.1.1 2 (0:Nat)))),(fSub .f32 (Vec.getD 6 (Vec.getD 6 a0.2.1 4 Lq2) 3 (0:Nat)) (fMul .f32 (fMul .f32 y1168.1.1 x1031) (Vec.getD 6 y1024.1.1 3 (0:Nat)))),(fSub .f32 (Vec.getD 6 (Vec.getD 6 a0.2.1 4 Lq2) 4 (0:Nat)) (fMul .f32 (fMul .f32 y1168.1.1 x1031) (Vec.getD 6 y1024.1.1 4 (0:Nat)))),(fSub .f32 (Vec.getD 6 (Vec.getD 6 a0.2.1 4 Lq2) 5 (0:Nat)) (fMul .f32 (fMul .f32 y1168.1.1 x1031) (Vec.getD 6 y1024.1.1 5 (0:Nat)))),0,0,0,()),((fSub .f32 (Vec.getD 6 (Vec.getD 6 a0.2.1 5 Lq2) 0 (0:Nat)) (fMul .f32 (fMul .f32 y1202.1.1 x1031) (Vec.getD 6 y1024.1.1 0 (0:Nat)))),(fSub .f32 (Vec.getD 6 (Vec.getD 6 a0.2.1 5 Lq2) 1 (0:Nat)) (fMul .f32 (fMul .f32 y1202.1.1 x1031) (Vec.getD 6 y1024.1.1 1 (0:Nat)))),(fSub .f32 (Vec.getD 6 (Vec.getD 6 a0.2.1 5 Lq2) 2 (0:Nat)) (fMul .f32 (fMul .f32 y1202.1.1 x1031) (Vec.getD 6 y1024.1.1 2 (0:Nat)))),(fSub .f32 (Vec.getD 6 (Vec.getD 6 a0.2.1 5 Lq2) 3 (0:Nat)) (fMul .f32 (fMul .f32 y1202.1.1 x1031) (Vec.getD 6 y1024.1.1 3 (0:Nat)))),(fSub .f32 (Vec.getD 6 (Vec.getD 6 a0.2.1 5 Lq2) 4 (0:Nat)) (fMul .f32 (fMul .f32 y1202.1.1 x1031) (Vec.getD 6 y1024.1.1 4 (0:Nat)))),(fSub .f32 (Vec.getD 6 (Vec.getD 6 a0.2.1 5 Lq2) 5 (0:Nat)) (fMul .f32 (fMul .f32 y1202.1.1 x1031) (Vec.getD 6 y1024.1.1 5 (0:Nat)))),0,0,0,()),()):(Vec 6 (Vec 9 Nat)))).bind fun y1237 =>
 some ((y1237.1.1,y1237.1.2.1,()),())
def qni:Entry:=⟨⟨[.v Uq2,.v Uq3],[.v (.val Uq2),.v (.val (.int .i64))],false⟩,fun x=>qc6 x.1 x.2.1⟩
theorem qth:Sound Tryz.prog G 207 qni:=qab (envS (l:=[(107,qbe),(114,qjp),(154,qif),(202,qnl),(206,qdt),(250,qnm)]) ⟨(qbl),(qme),(qk1),(qtm),(qe6),(qtn),trivial⟩) [(10,.unroll 7),(15,.unroll 7)] Tryz.func207 (by kernel_rfl) rfl fun _=>by kernel_rfl
def qhw (a0:Dq5):Option Dq7 :=
 (qdd a0).bind fun y1270 =>
 some (((! y1270.1.1),()),())
def qm1:Entry:=⟨⟨[.v Uq3],[.v (.val (.bool))],false⟩,fun x=>qhw x.1⟩
theorem qvs:Sound Tryz.prog G 205 qm1:=qab (envS (l:=[(206,qdt)]) ⟨(qe6),trivial⟩) [] Tryz.func205 (by kernel_rfl) rfl fun _=>by kernel_rfl
def qdy (a0:(List Dq5)) (a1:((Dq5×Unit)→Option Bool)) (s1274:(Int×Unit)):Option ((Int×Unit)⊕Dq19) :=
 bif (iLt s1274.1 (lenI a0)) then
  bif inB s1274.1 (List.length a0) then
   (a1 ((List.getD a0 s1274.1.toNat Lq7),())).bind fun y1277 =>
   bif y1277 then
    Option.map Sum.inr (some ((s1274.1,()),()))
   else
   some (Sum.inl ((iAdd .i64 s1274.1 1),()))
  else none
 else
 Option.map Sum.inr (some ((((-1:Int):Int),()),()))
def qc9 (a0:(List Dq5)) (a1:((Dq5×Unit)→Option Bool)):Option Dq19 :=
 run (qdy a0 a1) ((0:Int),())
def qgx:Entry:=⟨⟨[.v (.list Uq3),.fn ⟨[.pair (.arr 6 (.flt .f32)) (.pair (.flt .f32) (.pair (.flt .f32) (.unit)))],.bool⟩],[.v (.val (.int .i64))],false⟩,fun x=>qc9 x.1 x.2.1⟩
theorem qmz:Sound Tryz.prog G 249 qgx:=qab (envS (l:=[]) trivial) [(2,.vary [(8,.sc (.int .i64))])] Tryz.func249 (by kernel_rfl) rfl fun _=>by kernel_rfl
def qci (a0:(List Dq5)) (a1:((Dq5×Unit)→Option Bool)):Option Dq7 :=
 (qc9 a0 a1).bind fun y1272 =>
 some (((iLe 0 y1272.1.1),()),())
def qf1:Entry:=⟨⟨[.v (.list Uq3),.fn ⟨[.pair (.arr 6 (.flt .f32)) (.pair (.flt .f32) (.pair (.flt .f32) (.unit)))],.bool⟩],[.v (.val (.bool))],false⟩,fun x=>qci x.1 x.2.1⟩
theorem qlj:Sound Tryz.prog G 204 qf1:=qab (envS (l:=[(249,qgx)]) ⟨(qmz),trivial⟩) [] Tryz.func204 (by kernel_rfl) rfl fun _=>by kernel_rfl
def qcv (a1:(List Dq5)) (s1014:(Int×Dq2×Unit)):Option ((Int×Dq2×Unit)⊕Dq14) :=
 bif (iLt s1014.1 (lenI a1)) then
  bif inB s1014.1 (List.length a1) then
   (qc6 s1014.2.1 (List.getD a1 s1014.1.toNat Lq7)).bind fun y1017 =>
   bif (! (iEq y1017.1.2.1 0)) then
    Option.map Sum.inr (some ((Lq1,y1017.1.2.1,()),()))
   else
   some (Sum.inl ((iAdd .i64 s1014.1 1),y1017.1.1,()))
  else none
 else
 Option.map Sum.inr (some ((s1014.2.1,(0:Int),()),()))
def qfk (a0:Dq2) (a1:(List Dq5)):Option Dq14 :=
 (qa4 a0).bind fun y1003 =>
 bif (! y1003.1.1) then
  some ((Lq1,(1:Int),()),())
 else
 (qci a1 (fun (z1005:(Dq5×Unit))=>(qhw z1005.1).map fun y=>y.1.1)).bind fun y1006 =>
 bif y1006.1.1 then
  some ((Lq1,(1:Int),()),())
 else
 bif (iLt 256 (lenI a1)) then
  some ((Lq1,(3:Int),()),())
 else run (qcv a1) ((0:Int),a0,())
def qpq:Entry:=⟨⟨[.v Uq2,.v (.list Uq3)],[.v (.val Uq2),.v (.val (.int .i64))],false⟩,fun x=>qfk x.1 x.2.1⟩
theorem qx3:Sound Tryz.prog G 169 qpq:=qab (envS (l:=[(107,qbe),(204,qf1),(205,qm1),(207,qni)]) ⟨(qbl),(qlj),(qvs),(qth),trivial⟩) [(6,.vary [(26,.sc (.int .i64)),(2,.box (.val Uq2))])] Tryz.func169 (by kernel_rfl) rfl fun _=>by kernel_rfl
def qpc (a0:Nat):Option ((Nat×Int×Unit)×Unit) :=
 (qaf ([a0]:(List Nat))).bind fun y1299 =>
 bif (! y1299.1.1) then some (((0:Nat),(4:Int),()),()) else some ((a0,(0:Int),()),())
def qq2:Entry:=⟨⟨[.v (.flt .f32)],[.v (.val (.flt .f32)),.v (.val (.int .i64))],false⟩,fun x=>qpc x.1⟩
theorem qy7:Sound Tryz.prog G 83 qq2:=qab (envS (l:=[(48,qbi)]) ⟨(qbn),trivial⟩) [] Tryz.func83 (by kernel_rfl) rfl fun _=>by kernel_rfl
def qn4 (a0:Dq2) (a1:Dq5):Option ((Nat×Int×Unit)×Unit) :=
 (qa4 a0).bind fun y1291 =>
 bif (! y1291.1.1) then some (((0:Nat),(1:Int),()),()) else
 (qdd a1).bind fun y1293 =>
 bif (! y1293.1.1) then some (((0:Nat),(1:Int),()),()) else
 (qkl a0 a1).bind fun y1295 =>
 (qpc (fDiv .f32 (fMul .f32 y1295.1.2.1 y1295.1.2.1) y1295.1.2.2.1)).bind fun y1298 =>
 some ((y1298.1.1,y1298.1.2.1,()),())
def qte:Entry:=⟨⟨[.v Uq2,.v Uq3],[.v (.val (.flt .f32)),.v (.val (.int .i64))],false⟩,fun x=>qn4 x.1 x.2.1⟩
theorem qab1:Sound Tryz.prog G 208 qte:=qab (envS (l:=[(83,qq2),(107,qbe),(206,qdt),(250,qnm)]) ⟨(qy7),(qbl),(qe6),(qtn),trivial⟩) [] Tryz.func208 (by kernel_rfl) rfl fun _=>by kernel_rfl
def qa3 (a0:Dq2) (a1:Dq5) (a2:Nat):Option Dq25 :=
 (qa4 a0).bind fun y1279 =>
 bif (! y1279.1.1) then
  some ((Lq1,false,(1:Int),()),())
 else
 (qdd a1).bind fun y1281 =>
 bif (! y1281.1.1) then
  some ((Lq1,false,(1:Int),()),())
 else
 bif (! (fLe .f32 0 a2)) then
  some ((Lq1,false,(2:Int),()),())
 else
 (qn4 a0 a1).bind fun y1285 =>
 bif (! (iEq y1285.1.2.1 0)) then
  some ((Lq1,false,y1285.1.2.1,()),())
 else
 bif (! (fLe .f32 y1285.1.1 a2)) then some ((a0,false,(0:Int),()),()) else
 (qc6 a0 a1).bind fun y1289 =>
 some ((y1289.1.1,(iEq y1289.1.2.1 0),y1289.1.2.1,()),())
def qm2:Entry:=⟨⟨[.v Uq2,.v Uq3,.v (.flt .f32)],[.v (.val Uq2),.v (.val (.bool)),.v (.val (.int .i64))],false⟩,fun x=>qa3 x.1 x.2.1 x.2.2.1⟩
theorem qvt:Sound Tryz.prog G 171 qm2:=qab (envS (l:=[(107,qbe),(206,qdt),(207,qni),(208,qte)]) ⟨(qbl),(qe6),(qth),(qab1),trivial⟩) [] Tryz.func171 (by kernel_rfl) rfl fun _=>by kernel_rfl
def qn3 (a0:Int) (a1:Nat) (a2:Nat):Option Dq26 :=
 bif (iLt a0 0) then some ((Lq7,(2:Int),()),()) else
 bif (iLt 5 a0) then some ((Lq7,(2:Int),()),()) else
 bif inB a0 6 then
  (qkk ((Vec.set 6 Lq2 a0.toNat (1065353216:Nat),a1,a2,()):Dq5)).bind fun y1304 =>
  some ((y1304.1.1,y1304.1.2.1,()),())
 else none
def qtc:Entry:=⟨⟨[.v (.int .i64),.v (.flt .f32),.v (.flt .f32)],[.v (.val Uq3),.v (.val (.int .i64))],false⟩,fun x=>qn3 x.1 x.2.1 x.2.2.1⟩
theorem qaby:Sound Tryz.prog G 203 qtc:=qab (envS (l:=[(211,qnj)]) ⟨(qtj),trivial⟩) [] Tryz.func203 (by kernel_rfl) rfl fun _=>by kernel_rfl
def qaz (a0:Int) (a1:Nat) (a2:Nat):Option ((Dq5×Unit)×Unit) :=
 (qn3 a0 a1 a2).bind fun y1301 =>
 some ((y1301.1.1,()),())
def qsb:Entry:=⟨⟨[.v (.int .i64),.v (.flt .f32),.v (.flt .f32)],[.v (.val Uq3)],false⟩,fun x=>qaz x.1 x.2.1 x.2.2.1⟩
theorem qaar:Sound Tryz.prog G 168 qsb:=qab (envS (l:=[(203,qtc)]) ⟨(qaby),trivial⟩) [] Tryz.func168 (by kernel_rfl) rfl fun _=>by kernel_rfl
def qfx (a0:Dq24) (a1:(Vec 3 Int)):Option (Dq18×Unit) :=
 some (((((fAdd .f32 (fMul .f32 (fOfInt .f32 (Vec.getD 3 a1 0 (0:Int))) (Vec.getD 3 a0.1 0 (0:Nat))) (Vec.getD 3 a0.2.1 0 (0:Nat))),(fAdd .f32 (fMul .f32 (fOfInt .f32 (Vec.getD 3 a1 1 (0:Int))) (Vec.getD 3 a0.1 1 (0:Nat))) (Vec.getD 3 a0.2.1 1 (0:Nat))),(fAdd .f32 (fMul .f32 (fOfInt .f32 (Vec.getD 3 a1 2 (0:Int))) (Vec.getD 3 a0.1 2 (0:Nat))) (Vec.getD 3 a0.2.1 2 (0:Nat))),()):(Vec 3 Nat)),()),())
def qm5:Entry:=⟨⟨[.v Uq6,.v (.arr 3 (.int .i16))],[.v (.val (.arr 3 (.flt .f32)))],false⟩,fun x=>qfx x.1 x.2.1⟩
theorem qvv:Sound Tryz.prog G 170 qm5:=qab (envS (l:=[]) trivial) [(3,.unroll 4)] Tryz.func170 (by kernel_rfl) rfl fun _=>by kernel_rfl
def qcb (a0:Dq1) (a1:Dq2) (a2:Dq3):Option Dq25 :=
 bif (iEq a2.1 1) then
  (qg5 a1 (fDiv .f32 1065353216 (fOfInt .f32 a0.1)) ((1048576000,1048576000,1048576000,()):(Vec 3 Nat))).bind fun y562 =>
  some ((y562.1.1,(iEq y562.1.2.1 0),y562.1.2.1,()),())
 else
 bif (iEq a2.1 2) then
  (qaz (3:Int) (Vec.getD 3 a2.2.1 0 (0:Nat)) (1040187392:Nat)).bind fun y566 =>
  (qaz (4:Int) (Vec.getD 3 a2.2.1 1 (0:Nat)) (1040187392:Nat)).bind fun y568 =>
  (qaz (5:Int) (Vec.getD 3 a2.2.1 2 (0:Nat)) (1040187392:Nat)).bind fun y570 =>
  (qfk a1 ([y566.1.1,y568.1.1,y570.1.1]:(List Dq5))).bind fun y571 =>
  some ((y571.1.1,(iEq y571.1.2.1 0),y571.1.2.1,()),())
 else
 bif (iEq a2.1 3) then
  (qfi).bind fun y574 =>
  (qfx y574.1.1 a2.2.2.1).bind fun y575 =>
  (qaz (0:Int) (Vec.getD 3 y575.1.1 0 (0:Nat)) (1056964608:Nat)).bind fun y577 =>
  (qa3 a1 y577.1.1 (1091567616:Nat)).bind fun y578 =>
  bif (! (iEq y578.1.2.2.1 0)) then
   some ((Lq1,false,y578.1.2.2.1,()),())
  else
  (qaz (1:Int) (Vec.getD 3 y575.1.1 1 (0:Nat)) (1056964608:Nat)).bind fun y581 =>
  (qa3 y578.1.1 y581.1.1 (1091567616:Nat)).bind fun y582 =>
  bif (! (iEq y582.1.2.2.1 0)) then
   some ((Lq1,false,y582.1.2.2.1,()),())
  else
  bif y578.1.2.1 then
   (qaz (2:Int) (Vec.getD 3 y575.1.1 2 (0:Nat)) (1056964608:Nat)).bind fun y585 =>
   (qa3 y582.1.1 y585.1.1 (1091567616:Nat)).bind fun y586 =>
   bif (! (iEq y586.1.2.2.1 0)) then
    some ((Lq1,false,y586.1.2.2.1,()),())
   else
   bif y582.1.2.1 then some ((y586.1.1,y586.1.2.1,(0:Int),()),()) else some ((y586.1.1,false,(0:Int),()),())
  else
  (qaz (2:Int) (Vec.getD 3 y575.1.1 2 (0:Nat)) (1056964608:Nat)).bind fun y589 =>
  (qa3 y582.1.1 y589.1.1 (1091567616:Nat)).bind fun y590 =>
  bif (! (iEq y590.1.2.2.1 0)) then
   some ((Lq1,false,y590.1.2.2.1,()),())
  else some ((y590.1.1,false,(0:Int),()),())
 else
 bif inB a2.2.2.2.1 (List.length a0.2.2.1) then
  (qj1 a1 (List.getD a0.2.2.1 a2.2.2.2.1.toNat Lq6) a2.2.2.2.2.1 (1056964608:Nat)).bind fun y593 =>
  bif (! (iEq y593.1.2.1 0)) then some ((a1,false,(0:Int),()),()) else
  (qa3 a1 y593.1.1 (1091567616:Nat)).bind fun y595 =>
  some ((y595.1.1,y595.1.2.1,y595.1.2.2.1,()),())
 else none
def qpw:Entry:=⟨⟨[.v Uq4,.v Uq2,.v Uq1],[.v (.val Uq2),.v (.val (.bool)),.v (.val (.int .i64))],false⟩,fun x=>qcb x.1 x.2.1 x.2.2.1⟩
theorem qya:Sound Tryz.prog G 132 qpw:=qab (envS (l:=[(45,qke),(167,qr4),(168,qsb),(169,qpq),(170,qm5),(171,qm2),(172,qpm)]) ⟨(qpl),(qaai),(qaar),(qx3),(qvv),(qvt),(qxy),trivial⟩) [(8,.unroll 4),(17,.unroll 4)] Tryz.func132 (by kernel_rfl) rfl fun _=>by kernel_rfl
def qcr (a3:Int) (a0:Dq1) (s550:((List Int)×Int×Dq2×Unit)):Option (((List Int)×Int×Dq2×Unit)⊕Dq27) :=
 bif (iLt s550.2.1 a3) then
  bif inB s550.2.1 (List.length a0.2.2.2.1) then
   (qcb a0 s550.2.2.1 (List.getD a0.2.2.2.1 s550.2.1.toNat Lq10)).bind fun y553 =>
   bif (! (iEq y553.1.2.2.1 0)) then
    Option.map Sum.inr (some ((Lq1,([]:(List Int)),y553.1.2.2.1,()),()))
   else
   bif (! y553.1.2.1) then
    bif room (List.length s550.1+1) 8 then
     some (Sum.inl ((s550.1++([s550.2.1]:(List Int))),(iAdd .i64 s550.2.1 1),y553.1.1,()))
    else none
   else
   some (Sum.inl (s550.1,(iAdd .i64 s550.2.1 1),y553.1.1,()))
  else none
 else
 Option.map Sum.inr (some ((s550.2.2.1,s550.1,(0:Int),()),()))
def qip (a0:Dq1) (a1:Dq2) (a2:Int) (a3:Int):Option Dq27 :=
 run (qcr a3 a0) (([]:(List Int)),a2,a1,())
def qnk:Entry:=⟨⟨[.v Uq4,.v Uq2,.v (.int .i64),.v (.int .i64)],[.v (.val Uq2),.v (.rows (.int .i64)),.v (.val (.int .i64))],false⟩,fun x=>qip x.1 x.2.1 x.2.2.1 x.2.2.2.1⟩
theorem qtl:Sound Tryz.prog G 74 qnk:=qab (envS (l:=[(132,qpw)]) ⟨(qya),trivial⟩) [(3,.vary [(11,.rows (.int .i64)),(12,.sc (.int .i64)),(5,.box (.val Uq2))])] Tryz.func74 (by kernel_rfl) rfl fun _=>by kernel_rfl
def qep (a0:Dq1) (a1:Dq2) (a2:Int) (a3:Int):Option Dq14 :=
 (qdv a0).bind fun y532 =>
 bif (! y532.1.1) then
  some ((Lq1,(1:Int),()),())
 else
 (qa4 a1).bind fun y534 =>
 bif (! y534.1.1) then
  some ((Lq1,(1:Int),()),())
 else
 (qbh a2 (0:Int) (lenI a0.2.2.2.1)).bind fun y536 =>
 bif (! y536.1.1) then
  some ((Lq1,(2:Int),()),())
 else
 (qbh a3 (0:Int) (lenI a0.2.2.2.1)).bind fun y538 =>
 bif (! y538.1.1) then
  some ((Lq1,(2:Int),()),())
 else
 bif (iLt a3 a2) then
  some ((Lq1,(2:Int),()),())
 else
 (qip a0 a1 a2 a3).bind fun y541 =>
 some ((y541.1.1,y541.1.2.2.1,()),())
def qop:Entry:=⟨⟨[.v Uq4,.v Uq2,.v (.int .i64),.v (.int .i64)],[.v (.val Uq2),.v (.val (.int .i64))],false⟩,fun x=>qep x.1 x.2.1 x.2.2.1 x.2.2.2.1⟩
theorem qwn:Sound Tryz.prog G 37 qop:=qab (envS (l:=[(12,qd5),(74,qnk),(97,qfl),(107,qbe)]) ⟨(qfu),(qtl),(qhd),(qbl),trivial⟩) [] Tryz.func37 (by kernel_rfl) rfl fun _=>by kernel_rfl
def qfj (a0:Dq1):Option Dq14 :=
 (qdv a0).bind fun y1323 =>
 bif (! y1323.1.1) then
  some ((Lq1,(1:Int),()),())
 else
 (qer a0).bind fun y1325 =>
 (qip a0 y1325.1.1 (0:Int) (lenI a0.2.2.2.1)).bind fun y1326 =>
 some ((y1326.1.1,y1326.1.2.2.1,()),())
def qpo:Entry:=⟨⟨[.v Uq4],[.v (.val Uq2),.v (.val (.int .i64))],false⟩,fun x=>qfj x.1⟩
theorem qx0:Sound Tryz.prog G 33 qpo:=qab (envS (l:=[(12,qd5),(74,qnk),(75,qjl)]) ⟨(qfu),(qtl),(qou),trivial⟩) [] Tryz.func33 (by kernel_rfl) rfl fun _=>by kernel_rfl
def qhv (a0:(Vec 3 Int)) (a1:Int) (a2:Int):Option (((Vec 3 Int)×Int×Int×Unit)×Unit) :=
 bif (iLt a2 0) then some ((((0,0,0,()):(Vec 3 Int)),(0:Int),(2:Int),()),()) else
 let x1402:=iAdd .u32 (iMul .u32 1664525 a1) 1013904223
 let x1407:=iAdd .i64 (iMul .i64 2 (iWrap .i64 a2)) 1
 bif iEq x1407 0 then none else
 let x1416:=iWrap .i16 (iMin 32767 (iMax (-32768:Int) (iAdd .i64 (iWrap .i64 (Vec.getD 3 a0 0 (0:Int))) (iSub .i64 (iRem .i64 (iWrap .i64 (iShr .u32 x1402 16)) x1407) (iWrap .i64 a2)))))
 let x1418:=iAdd .u32 (iMul .u32 1664525 x1402) 1013904223
 let x1423:=iAdd .i64 (iMul .i64 2 (iWrap .i64 a2)) 1
 bif iEq x1423 0 then none else
 let x1432:=iWrap .i16 (iMin 32767 (iMax (-32768:Int) (iAdd .i64 (iWrap .i64 (Vec.getD 3 (Vec.set 3 a0 0 x1416) 1 (0:Int))) (iSub .i64 (iRem .i64 (iWrap .i64 (iShr .u32 x1418 16)) x1423) (iWrap .i64 a2)))))
 let x1434:=iAdd .u32 (iMul .u32 1664525 x1418) 1013904223
 let x1439:=iAdd .i64 (iMul .i64 2 (iWrap .i64 a2)) 1
 bif iEq x1439 0 then none else
 some (((Vec.set 3 (Vec.set 3 (Vec.set 3 a0 0 x1416) 1 x1432) 2 (iWrap .i16 (iMin 32767 (iMax (-32768:Int) (iAdd .i64 (iWrap .i64 (Vec.getD 3 (Vec.set 3 (Vec.set 3 a0 0 x1416) 1 x1432) 2 (0:Int))) (iSub .i64 (iRem .i64 (iWrap .i64 (iShr .u32 x1434 16)) x1439) (iWrap .i64 a2))))))),x1434,(0:Int),()),())
def qm0:Entry:=⟨⟨[.v (.arr 3 (.int .i16)),.v (.int .u32),.v (.int .i16)],[.v (.val (.arr 3 (.int .i16))),.v (.val (.int .u32)),.v (.val (.int .i64))],false⟩,fun x=>qhv x.1 x.2.1 x.2.2.1⟩
theorem qvr:Sound Tryz.prog G 43 qm0:=qab (envS (l:=[]) trivial) [(4,.unroll 4)] Tryz.func43 (by kernel_rfl) rfl fun _=>by kernel_rfl
def qsw (a0:(Vec 3 Nat)) (a1:(Vec 3 Nat)):Option (Dq18×Unit) :=
 let x1496:=fAdd .f32 (Vec.getD 3 a0 0 (0:Nat)) (Vec.getD 3 a1 0 (0:Nat))
 let x1499:=fAdd .f32 (Vec.getD 3 (Vec.set 3 a0 0 x1496) 1 (0:Nat)) (Vec.getD 3 a1 1 (0:Nat))
 some (((Vec.set 3 (Vec.set 3 (Vec.set 3 a0 0 x1496) 1 x1499) 2 (fAdd .f32 (Vec.getD 3 (Vec.set 3 (Vec.set 3 a0 0 x1496) 1 x1499) 2 (0:Nat)) (Vec.getD 3 a1 2 (0:Nat)))),()),())
def qtb:Entry:=⟨⟨[.v (.arr 3 (.flt .f32)),.v (.arr 3 (.flt .f32))],[.v (.val (.arr 3 (.flt .f32)))],false⟩,fun x=>qsw x.1 x.2.1⟩
theorem qabw:Sound Tryz.prog G 101 qtb:=qab (envS (l:=[]) trivial) [(2,.unroll 4)] Tryz.func101 (by kernel_rfl) rfl fun _=>by kernel_rfl
def qo9 (a0:(Vec 3 Nat)) (a1:Nat):Option (Dq18×Unit) :=
 let x1505:=fMul .f32 (Vec.getD 3 a0 0 (0:Nat)) a1
 let x1507:=fMul .f32 (Vec.getD 3 (Vec.set 3 a0 0 x1505) 1 (0:Nat)) a1
 some (((Vec.set 3 (Vec.set 3 (Vec.set 3 a0 0 x1505) 1 x1507) 2 (fMul .f32 (Vec.getD 3 (Vec.set 3 (Vec.set 3 a0 0 x1505) 1 x1507) 2 (0:Nat)) a1)),()),())
def qqy:Entry:=⟨⟨[.v (.arr 3 (.flt .f32)),.v (.flt .f32)],[.v (.val (.arr 3 (.flt .f32)))],false⟩,fun x=>qo9 x.1 x.2.1⟩
theorem qy4:Sound Tryz.prog G 102 qqy:=qab (envS (l:=[]) trivial) [(2,.unroll 4)] Tryz.func102 (by kernel_rfl) rfl fun _=>by kernel_rfl
def qmg (a0:Dq6) (s1529:(Int×Int×Unit)):Option ((Int×Int×Unit)⊕Dq19) :=
 bif (iLt s1529.2.1 (lenI a0.2.2.2.1)) then
  bif inB s1529.2.1 (List.length a0.2.2.2.1) then
   some (Sum.inl ((iAdd .i64 s1529.1 (List.getD a0.2.2.2.1 s1529.2.1.toNat Lq8).1),(iAdd .i64 s1529.2.1 1),()))
  else none
 else
 Option.map Sum.inr (some ((s1529.1,()),()))
def qmf (a0:Dq6):Option Dq19 :=
 run (qmg a0) ((0:Int),(0:Int),())
def qse:Entry:=⟨⟨[.v Uq5],[.v (.val (.int .i64))],false⟩,fun x=>qmf x.1⟩
theorem qaay:Sound Tryz.prog G 58 qse:=qab (envS (l:=[]) trivial) [(3,.vary [(3,.sc (.int .i64)),(9,.sc (.int .i64))])] Tryz.func58 (by kernel_rfl) rfl fun _=>by kernel_rfl
def qe9 (a0:Dq6) (s1514:(Int×Unit)):Option ((Int×Unit)⊕Dq7) :=
 bif (iLt s1514.1 (lenI a0.2.2.2.1)) then
  bif inB s1514.1 (List.length a0.2.2.2.1) then
   let x1516:=List.getD a0.2.2.2.1 s1514.1.toNat Lq8
   (qbh x1516.1 (1:Int) (400:Int)).bind fun y1517 =>
   bif (! y1517.1.1) then
    Option.map Sum.inr (some ((false,()),()))
   else
   (qbm x1516.2.1).bind fun y1519 =>
   bif (! y1519.1.1) then
    Option.map Sum.inr (some ((false,()),()))
   else
   (qbh x1516.2.2.1 (0:Int) (400:Int)).bind fun y1521 =>
   bif (! y1521.1.1) then
    Option.map Sum.inr (some ((false,()),()))
   else
   (qbh x1516.2.2.2.1 ((-1:Int):Int) (iSub .i64 (lenI a0.2.2.1) 1)).bind fun y1524 =>
   bif (! y1524.1.1) then
    Option.map Sum.inr (some ((false,()),()))
   else
   some (Sum.inl ((iAdd .i64 s1514.1 1),()))
  else none
 else
 Option.map Sum.inr (
  (qmf a0).bind fun y1527 =>
  some (((iLe y1527.1.1 400),()),()))
def qgy (a0:Dq6):Option Dq7 :=
 (qgc a0.1 a0.2.1 a0.2.2.1).bind fun y1511 =>
 bif (! y1511.1.1) then some ((false,()),()) else
 bif (iLt 64 (lenI a0.2.2.2.1)) then some ((false,()),()) else run (qe9 a0) ((0:Int),())
def qma:Entry:=⟨⟨[.v Uq5],[.v (.val (.bool))],false⟩,fun x=>qgy x.1⟩
theorem qu0:Sound Tryz.prog G 27 qma:=qab (envS (l:=[(54,qjq),(58,qse),(97,qfl),(98,qc3)]) ⟨(qox),(qaay),(qhd),(qd2),trivial⟩) [(4,.vary [(22,.sc (.int .i64))])] Tryz.func27 (by kernel_rfl) rfl fun _=>by kernel_rfl
def qqz (x1476:(Int×Dq9)) (x1453:Nat) (s1474:Dq12) (s1485:Dq12):Option (Dq12⊕(Dq12⊕Dq15)) :=
 bif (iLt s1485.2.1 x1476.1) then
  (qo9 x1476.2.1 x1453).bind fun y1487 =>
  (qsw s1485.2.2.1 y1487.1.1).bind fun y1488 =>
  (qbm y1488.1.1).bind fun y1489 =>
  bif (! y1489.1.1) then
   Option.map Sum.inr (Option.map Sum.inr (some ((([]:(List (Vec 3 Nat))),(4:Int),()),())))
  else
  bif room (List.length s1485.1+1) 12 then
   some (Sum.inl ((s1485.1++([y1488.1.1]:(List (Vec 3 Nat)))),(iAdd .i64 s1485.2.1 1),y1488.1.1,()))
  else none
 else
 Option.map Sum.inr (some (Sum.inl (s1485.1,(iAdd .i64 s1474.2.1 1),s1485.2.2.1,())))
def ql9 (a0:Dq6) (x1453:Nat) (s1474:Dq12):Option (Dq12⊕Dq15) :=
 bif (iLt s1474.2.1 (lenI a0.2.2.2.1)) then
  bif inB s1474.2.1 (List.length a0.2.2.2.1) then
   let x1476:=List.getD a0.2.2.2.1 s1474.2.1.toNat Lq8
   run (qqz x1476 x1453 s1474) (s1474.1,(0:Int),s1474.2.2.1,())
  else none
 else
 Option.map Sum.inr (some ((s1474.1,(0:Int),()),()))
def qg7 (a0:Dq6):Option Dq15 :=
 (qgy a0).bind fun y1450 =>
 bif (! y1450.1.1) then some ((([]:(List (Vec 3 Nat))),(1:Int),()),()) else
 let x1453:=fDiv .f32 1065353216 (fOfInt .f32 a0.1)
 run (ql9 a0 x1453) (([a0.2.1]:(List (Vec 3 Nat))),(0:Int),a0.2.1,())
def qr9:Entry:=⟨⟨[.v Uq5],[.v (.rows (.arr 3 (.flt .f32))),.v (.val (.int .i64))],false⟩,fun x=>qg7 x.1⟩
theorem qaap:Sound Tryz.prog G 29 qr9:=qab (envS (l:=[(27,qma),(98,qc3),(101,qtb),(102,qqy)]) ⟨(qu0),(qd2),(qabw),(qy4),trivial⟩) [(7,.vary [(6,.rows (.arr 3 (.flt .f32))),(23,.sc (.int .i64)),(5,.box (.val (.arr 3 (.flt .f32))))]),(10,.vary [(6,.rows (.arr 3 (.flt .f32))),(29,.sc (.int .i64)),(5,.box (.val (.arr 3 (.flt .f32))))])] Tryz.func29 (by kernel_rfl) rfl fun _=>by kernel_rfl
theorem qm6:Sound Tryz.prog G 152 qi1:=qaf5 (name := "math.RoundToEven") Tryz.func152 (by kernel_rfl) (by kernel_rfl) (by kernel_rfl) (by kernel_rfl)
def qg6 (a0:Nat):Option Dq19 :=
 (qfa a0).bind fun y1552 =>
 bif y1552.1.1 then some (((0:Int),()),()) else
 (fConv .f32 .f64 a0).bind fun y1553 =>
 (qh0 y1553).bind fun y1554 =>
 (fToInt .f64 (fMin .f64 4674736138332667904 (fMax .f64 13898108450065350656 y1554.1.1)) .i16).bind fun n1557 =>
 some ((n1557,()),())
def qr8:Entry:=⟨⟨[.v (.flt .f32)],[.v (.val (.int .i16))],false⟩,fun x=>qg6 x.1⟩
theorem qaao:Sound Tryz.prog G 113 qr8:=qab (envS (l:=[(90,qk0),(152,qi1)]) ⟨(qpa),(qm6),trivial⟩) [] Tryz.func113 (by kernel_rfl) rfl fun _=>by kernel_rfl
def qkz (a0:Dq24) (a1:(Vec 3 Nat)):Option (((Vec 3 Int)×Unit)×Unit) :=
 (qg6 (fDiv .f32 (fSub .f32 (Vec.getD 3 a1 0 (0:Nat)) (Vec.getD 3 a0.2.1 0 (0:Nat))) (Vec.getD 3 a0.1 0 (0:Nat)))).bind fun y1539 =>
 (qg6 (fDiv .f32 (fSub .f32 (Vec.getD 3 a1 1 (0:Nat)) (Vec.getD 3 a0.2.1 1 (0:Nat))) (Vec.getD 3 a0.1 1 (0:Nat)))).bind fun y1545 =>
 (qg6 (fDiv .f32 (fSub .f32 (Vec.getD 3 a1 2 (0:Nat)) (Vec.getD 3 a0.2.1 2 (0:Nat))) (Vec.getD 3 a0.1 2 (0:Nat)))).bind fun y1551 =>
 some ((((y1539.1.1,y1545.1.1,y1551.1.1,()):(Vec 3 Int)),()),())
def qq0:Entry:=⟨⟨[.v Uq6,.v (.arr 3 (.flt .f32))],[.v (.val (.arr 3 (.int .i16)))],false⟩,fun x=>qkz x.1 x.2.1⟩
theorem qy6:Sound Tryz.prog G 44 qq0:=qab (envS (l:=[(113,qr8)]) ⟨(qaao),trivial⟩) [(3,.unroll 4)] Tryz.func44 (by kernel_rfl) rfl fun _=>by kernel_rfl
def qes (a0:(List (Vec 3 Nat))):Option (((List (Vec 3 Nat))×Unit)×Unit) :=
 bif List.isEmpty a0 then
  allSame fun (q1558:Bool) =>
  bif q1558 then some ((([]:(List (Vec 3 Nat))),()),()) else
  bif room (0+List.length a0) 12 then
   some (((([]:(List (Vec 3 Nat)))++a0),()),())
  else none
 else
 bif room (0+List.length a0) 12 then
  some (((([]:(List (Vec 3 Nat)))++a0),()),())
 else none
def qju:Entry:=⟨⟨[.v (.list (.arr 3 (.flt .f32)))],[.v (.rows (.arr 3 (.flt .f32)))],false⟩,fun x=>qes x.1⟩
theorem qrb:Sound Tryz.prog G 42 qju:=qab (envS (l:=[]) trivial) [] Tryz.func42 (by kernel_rfl) rfl fun _=>by kernel_rfl
def qc4 (x1357:(Int×Dq9)) (y1327:Dq15) (s1355:Dq17) (a0:Dq6) (s1365:Dq17):Option (Dq17⊕(Dq17⊕Dq21)) :=
 bif (iLe s1365.2.2.1 x1357.1) then
  let x1367:=iAdd .i64 s1365.2.1 1
  bif room (List.length s1365.2.2.2.1.2.2.2.1+1) 48 then
   let l1368:=s1365.2.2.2.1.2.2.2.1++([(1,(0,0,0,()),(0,0,0,()),0,0,())]:(List Dq3))
   bif (iEq x1357.2.2.1 0) then
    some (Sum.inl (s1365.1,x1367,(iAdd .i64 s1365.2.2.1 1),((s1365.2.2.2.1.1,s1365.2.2.2.1.2.1,s1365.2.2.2.1.2.2.1,l1368,s1365.2.2.2.1.2.2.2.2):Dq1),()))
   else
   bif iEq x1357.2.2.1 0 then none else
   bif (! (iEq (iRem .i64 s1365.2.2.1 x1357.2.2.1) 0)) then
    some (Sum.inl (s1365.1,x1367,(iAdd .i64 s1365.2.2.1 1),((s1365.2.2.2.1.1,s1365.2.2.2.1.2.1,s1365.2.2.2.1.2.2.1,l1368,s1365.2.2.2.1.2.2.2.2):Dq1),()))
   else
   (qfi).bind fun y1374 =>
   bif inB x1367 (List.length y1327.1.1) then
    (qkz y1374.1.1 (List.getD y1327.1.1 x1367.toNat Lq6)).bind fun y1376 =>
    (qhv y1376.1.1 s1365.1 (4:Int)).bind fun y1377 =>
    bif room (List.length l1368+1) 48 then
     some (Sum.inl (y1377.1.2.1,x1367,(iAdd .i64 s1365.2.2.1 1),((s1365.2.2.2.1.1,s1365.2.2.2.1.2.1,s1365.2.2.2.1.2.2.1,(l1368++([(3,(0,0,0,()),y1377.1.1,0,0,())]:(List Dq3))),s1365.2.2.2.1.2.2.2.2):Dq1),()))
    else none
   else none
  else none
 else
 Option.map Sum.inr (
  bif (iLt x1357.2.2.2.1 0) then
   some (Sum.inl (s1365.1,s1365.2.1,(iAdd .i64 s1355.2.2.1 1),((s1365.2.2.2.1.1,s1365.2.2.2.1.2.1,s1365.2.2.2.1.2.2.1,s1365.2.2.2.1.2.2.2.1,s1365.2.2.2.1.2.2.2.2):Dq1),()))
  else
  let x1383:=iAdd .u32 (iMul .u32 1664525 s1365.1) 1013904223
  bif inB s1365.2.1 (List.length y1327.1.1) then
   bif inB x1357.2.2.2.1 (List.length a0.2.2.1) then
    (qkj (List.getD y1327.1.1 s1365.2.1.toNat Lq6) (List.getD a0.2.2.1 x1357.2.2.2.1.toNat Lq6)).bind fun y1390 =>
    (qdu y1390.1.1).bind fun y1391 =>
    let x1394:=fAdd .f32 y1391.1.1 (fDiv .f32 (fOfInt .f32 (iSub .i64 (iRem .i64 (iWrap .i64 (iShr .u32 x1383 16)) 9) 4)) 1098907648)
    (qaf ([x1394]:(List Nat))).bind fun y1395 =>
    bif (! y1395.1.1) then
     Option.map Sum.inr (some ((Lq9,(4:Int),()),()))
    else
    bif room (List.length s1365.2.2.2.1.2.2.2.1+1) 48 then
     some (Sum.inl (x1383,s1365.2.1,(iAdd .i64 s1355.2.2.1 1),((s1365.2.2.2.1.1,s1365.2.2.2.1.2.1,s1365.2.2.2.1.2.2.1,(s1365.2.2.2.1.2.2.2.1++([(4,(0,0,0,()),(0,0,0,()),x1357.2.2.2.1,x1394,())]:(List Dq3))),s1365.2.2.2.1.2.2.2.2):Dq1),()))
    else none
   else none
  else none)
def qeh (a0:Dq6) (y1327:Dq15) (s1355:Dq17):Option (Dq17⊕Dq21) :=
 bif (iLt s1355.2.2.1 (lenI a0.2.2.2.1)) then
  bif inB s1355.2.2.1 (List.length a0.2.2.2.1) then
   let x1357:=List.getD a0.2.2.2.1 s1355.2.2.1.toNat Lq8
   bif room (List.length s1355.2.2.2.1.2.2.2.1+1) 48 then
    run (qc4 x1357 y1327 s1355 a0) (s1355.1,s1355.2.1,(1:Int),((s1355.2.2.2.1.1,s1355.2.2.2.1.2.1,s1355.2.2.2.1.2.2.1,(s1355.2.2.2.1.2.2.2.1++([(2,x1357.2.1,(0,0,0,()),0,0,())]:(List Dq3))),s1355.2.2.2.1.2.2.2.2):Dq1),())
   else none
  else none
 else
 Option.map Sum.inr (
  bif (iLt 1200 (lenI s1355.2.2.2.1.2.2.2.1)) then some ((Lq9,(3:Int),()),()) else
  some ((((s1355.2.2.2.1.1,s1355.2.2.2.1.2.1,s1355.2.2.2.1.2.2.1,s1355.2.2.2.1.2.2.2.1,s1355.2.2.2.1.2.2.2.2):Dq1),(0:Int),()),()))
def qbu (a0:Dq6) (a1:Int):Option Dq21 :=
 (qg7 a0).bind fun y1327 =>
 bif (! (iEq y1327.1.2.1 0)) then some ((Lq9,y1327.1.2.1,()),()) else
 (qes a0.2.2.1).bind fun y1329 =>
 run (qeh a0 y1327) (a1,(0:Int),(0:Int),((a0.1,a0.2.1,y1329.1.1,[],()):Dq1),())
def qoq:Entry:=⟨⟨[.v Uq5,.v (.int .u32)],[.v (.pair (.val (.int .i64)) (.pair (.val (.arr 3 (.flt .f32))) (.pair (.rows (.arr 3 (.flt .f32))) (.pair (.rows Uq1) (.val (.unit)))))),.v (.val (.int .i64))],false⟩,fun x=>qbu x.1 x.2.1⟩
theorem qwo:Sound Tryz.prog G 9 qoq:=qab (envS (l:=[(29,qr9),(42,qju),(43,qm0),(44,qq0),(45,qke),(46,qht),(47,qnh),(48,qbi)]) ⟨(qaap),(qrb),(qvr),(qy6),(qpl),(qle),(qtf),(qbn),trivial⟩) [(7,.vary [(1,.sc (.int .u32)),(9,.sc (.int .i64)),(38,.sc (.int .i64)),(8,.box (.pair (.val (.int .i64)) (.pair (.val (.arr 3 (.flt .f32))) (.pair (.rows (.arr 3 (.flt .f32))) (.pair (.rows Uq1) (.val (.unit)))))))]),(11,.vary [(1,.sc (.int .u32)),(9,.sc (.int .i64)),(12,.sc (.int .i64)),(8,.box (.pair (.val (.int .i64)) (.pair (.val (.arr 3 (.flt .f32))) (.pair (.rows (.arr 3 (.flt .f32))) (.pair (.rows Uq1) (.val (.unit)))))))])] Tryz.func9 (by kernel_rfl) rfl fun _=>by kernel_rfl
def qj6 (a0:Dq2):Option Dq16 :=
 (qa5 ([Vec.getD 6 a0.1 0 (0:Nat),Vec.getD 6 a0.1 1 (0:Nat),Vec.getD 6 a0.1 2 (0:Nat),Vec.getD 6 a0.1 3 (0:Nat),Vec.getD 6 a0.1 4 (0:Nat),Vec.getD 6 a0.1 5 (0:Nat)]:(List Nat))).bind fun y1564 =>
 bif strRoom y1564.1.1 ([10]) then
  let x1565:=strCat y1564.1.1 ([10])
  (qa5 ([Vec.getD 6 (Vec.getD 6 a0.2.1 0 Lq2) 0 (0:Nat),Vec.getD 6 (Vec.getD 6 a0.2.1 0 Lq2) 1 (0:Nat),Vec.getD 6 (Vec.getD 6 a0.2.1 0 Lq2) 2 (0:Nat),Vec.getD 6 (Vec.getD 6 a0.2.1 0 Lq2) 3 (0:Nat),Vec.getD 6 (Vec.getD 6 a0.2.1 0 Lq2) 4 (0:Nat),Vec.getD 6 (Vec.getD 6 a0.2.1 0 Lq2) 5 (0:Nat)]:(List Nat))).bind fun y1566 =>
  bif strRoom y1566.1.1 ([10]) then
   let x1567:=strCat y1566.1.1 ([10])
   bif strRoom x1565 x1567 then
    let x1568:=strCat x1565 x1567
    (qa5 ([Vec.getD 6 (Vec.getD 6 a0.2.1 1 Lq2) 0 (0:Nat),Vec.getD 6 (Vec.getD 6 a0.2.1 1 Lq2) 1 (0:Nat),Vec.getD 6 (Vec.getD 6 a0.2.1 1 Lq2) 2 (0:Nat),Vec.getD 6 (Vec.getD 6 a0.2.1 1 Lq2) 3 (0:Nat),Vec.getD 6 (Vec.getD 6 a0.2.1 1 Lq2) 4 (0:Nat),Vec.getD 6 (Vec.getD 6 a0.2.1 1 Lq2) 5 (0:Nat)]:(List Nat))).bind fun y1569 =>
    bif strRoom y1569.1.1 ([10]) then
     let x1570:=strCat y1569.1.1 ([10])
     bif strRoom x1568 x1570 then
      let x1571:=strCat x1568 x1570
      (qa5 ([Vec.getD 6 (Vec.getD 6 a0.2.1 2 Lq2) 0 (0:Nat),Vec.getD 6 (Vec.getD 6 a0.2.1 2 Lq2) 1 (0:Nat),Vec.getD 6 (Vec.getD 6 a0.2.1 2 Lq2) 2 (0:Nat),Vec.getD 6 (Vec.getD 6 a0.2.1 2 Lq2) 3 (0:Nat),Vec.getD 6 (Vec.getD 6 a0.2.1 2 Lq2) 4 (0:Nat),Vec.getD 6 (Vec.getD 6 a0.2.1 2 Lq2) 5 (0:Nat)]:(List Nat))).bind fun y1572 =>
      bif strRoom y1572.1.1 ([10]) then
       let x1573:=strCat y1572.1.1 ([10])
       bif strRoom x1571 x1573 then
        let x1574:=strCat x1571 x1573
        (qa5 ([Vec.getD 6 (Vec.getD 6 a0.2.1 3 Lq2) 0 (0:Nat),Vec.getD 6 (Vec.getD 6 a0.2.1 3 Lq2) 1 (0:Nat),Vec.getD 6 (Vec.getD 6 a0.2.1 3 Lq2) 2 (0:Nat),Vec.getD 6 (Vec.getD 6 a0.2.1 3 Lq2) 3 (0:Nat),Vec.getD 6 (Vec.getD 6 a0.2.1 3 Lq2) 4 (0:Nat),Vec.getD 6 (Vec.getD 6 a0.2.1 3 Lq2) 5 (0:Nat)]:(List Nat))).bind fun y1575 =>
        bif strRoom y1575.1.1 ([10]) then
         let x1576:=strCat y1575.1.1 ([10])
         bif strRoom x1574 x1576 then
          let x1577:=strCat x1574 x1576
          (qa5 ([Vec.getD 6 (Vec.getD 6 a0.2.1 4 Lq2) 0 (0:Nat),Vec.getD 6 (Vec.getD 6 a0.2.1 4 Lq2) 1 (0:Nat),Vec.getD 6 (Vec.getD 6 a0.2.1 4 Lq2) 2 (0:Nat),Vec.getD 6 (Vec.getD 6 a0.2.1 4 Lq2) 3 (0:Nat),Vec.getD 6 (Vec.getD 6 a0.2.1 4 Lq2) 4 (0:Nat),Vec.getD 6 (Vec.getD 6 a0.2.1 4 Lq2) 5 (0:Nat)]:(List Nat))).bind fun y1578 =>
          bif strRoom y1578.1.1 ([10]) then
           let x1579:=strCat y1578.1.1 ([10])
           bif strRoom x1577 x1579 then
            let x1580:=strCat x1577 x1579
            (qa5 ([Vec.getD 6 (Vec.getD 6 a0.2.1 5 Lq2) 0 (0:Nat),Vec.getD 6 (Vec.getD 6 a0.2.1 5 Lq2) 1 (0:Nat),Vec.getD 6 (Vec.getD 6 a0.2.1 5 Lq2) 2 (0:Nat),Vec.getD 6 (Vec.getD 6 a0.2.1 5 Lq2) 3 (0:Nat),Vec.getD 6 (Vec.getD 6 a0.2.1 5 Lq2) 4 (0:Nat),Vec.getD 6 (Vec.getD 6 a0.2.1 5 Lq2) 5 (0:Nat)]:(List Nat))).bind fun y1581 =>
            bif strRoom y1581.1.1 ([10]) then
             let x1582:=strCat y1581.1.1 ([10])
             bif strRoom x1580 x1582 then
              some (((strCat x1580 x1582),()),())
             else none
            else none
           else none
          else none
         else none
        else none
       else none
      else none
     else none
    else none
   else none
  else none
 else none
def qpv:Entry:=⟨⟨[.v Uq2],[.v (.val (.str))],false⟩,fun x=>qj6 x.1⟩
theorem qx9 (db:GDeb Tryz.prog G):Sound Tryz.prog G 110 qpv:=qab (envS (l:=[(130,qiy)]) ⟨(qm3 db),trivial⟩) [(3,.unroll 7)] Tryz.func110 (by kernel_rfl) rfl fun _=>by kernel_rfl
def qj3 (a0:Dq2):Option Dq16 :=
 (qa4 a0).bind fun y1561 =>
 bif (! y1561.1.1) then some ((([]:List UInt8),()),()) else
 (qj6 a0).bind fun y1563 =>
 some ((y1563.1.1,()),())
def qpp:Entry:=⟨⟨[.v Uq2],[.v (.val (.str))],false⟩,fun x=>qj3 x.1⟩
theorem qx1 (db:GDeb Tryz.prog G):Sound Tryz.prog G 39 qpp:=qab (envS (l:=[(107,qbe),(110,qpv)]) ⟨(qbl),(qx9 db),trivial⟩) [] Tryz.func39 (by kernel_rfl) rfl fun _=>by kernel_rfl
end
end Go.Proofs.YtnndahnmlmgenaaGreatDoor
