import Derived.Test.YtjhdoneobdbeaaaGreatDoorA3
import Derived.Shelf.Strings.Builder1
/- What (*strings.Builder).String answers, at any program that has it: the bytes of its row, wherever they lie in it. -/
namespace Go.Proofs
open Go.Shelf Go.RowKit
variable {P : Program} {ρ : Ren}
theorem qadu {e:TypeId} (h:Go.Tm.okTy P (.int .u8) e=true):P.cellsOf e=1:=by
 obtain ⟨f,hf,hs⟩:=Go.Tm.info_of h
 unfold Program.cellsOf
 rw [hf]
 exact hs
theorem qalv {e u:TypeId} (h:Go.Tm.okTy P (.int .u8) e=true) (hu:P.underlying u=some (.int .u8)) (count d n:Nat) (hn:d+n≤count):liesAt P P.depth e count d u n=true:=by
 have hd:P.depth=(2*(P.types.size+Made.depth)+1)+1:=rfl
 have hc:=qadu h
 have he:=Go.Tm.int_of h
 rw [hd]
 simp only [liesAt,Bool.or_eq_true]
 left
 rw [hd]
 have hs:sameLayout P (2*(P.types.size+Made.depth)+1+1) e u=true:=by simp [sameLayout,he,hu]
 simp [rowAt,hc,hn,hs,Nat.mod_one]
theorem qafs (w:World) : ∀ (l:List Int) (a:Addr) (acc:ByteArray),(∀ (j:Nat) (x:Int),l[j]? = some x→w.cell? (a.add j)=some (.int .u8 x)) →
  (loadBytes a acc l.length).run P w = .ok ⟨acc.data++(Go.Tm.ofBytes l).toArray⟩ w
 | [],a,acc,_=>by simp [loadBytes,Go.Tm.ofBytes]
 | x :: l,a,acc,h=>by
  have h0:w.cell? a=some (.int .u8 x):=by
   have:=h 0 x rfl
   simpa [Addr.add] using this
  have ih:=qafs w l (a.add 1) (acc.push x.toNat.toUInt8) (fun j y hy=>by
   have:=h (j+1) y (by simpa using hy)
   have e:(a.add 1).add j=a.add (j+1):=by
    unfold Addr.add
    by_cases hj:j=0
    ·subst hj;simp
    ·simp [hj];omega
   rw [e];exact this)
  simp only [List.length_cons,loadBytes,Sem.run_bind,run_load,h0,Result.andThen]
  rw [ih]
  congr 1
  apply ByteArray.ext
  simp [ByteArray.push,Go.Tm.ofBytes,Go.Tm.toByte]
theorem qaix (w:World) (pt it ty e u:TypeId) (hp:P.underlying pt=some (.pointer u)) (hu:P.underlying u=some (.int .u8)) (hok:Go.Tm.okTy P (.int .u8) e=true) (g d cells:Nat) (hsh:w.shape? g=some (e,cells)) (l:List Int) (h0:l≠[])
  (hn:d+l.length≤cells) (h63:l.length≤9223372036854775807) (hcell : ∀ (j:Nat) (x:Int),l[j]? = some x→w.cell? ((⟨g,d,none⟩:Addr).add j)=some (.int .u8 x)) :
  (Builtin.unsafeString_ #[pt,it] ty #[.pointer (some ⟨g,d,none⟩),.int .i64 l.length]).run P w = .ok (.string ⟨(Go.Tm.ofBytes l).toArray⟩) (w.freeze ⟨g,d,none⟩ l.length):=by
 have hl:l.length≠0:=by simpa using h0
 have hlb:=qafs (P:=P) w l ⟨g,d,none⟩ .empty hcell
 have hlies:=qalv (P:=P) hok hu (cells/P.cellsOf e) d l.length (by rw [qadu hok];simpa using hn)
 have h63':¬ (9223372036854775807:Int)<(l.length:Int):=by omega
 obtain ⟨E1,E2,E3,hdef⟩ : ∃ (E1 E2:Sem PUnit) (E3:Sem Value),Builtin.unsafeString_ #[pt,it] ty #[.pointer (some ⟨g,d,none⟩),.int .i64 l.length] =
   (do
    let n ← asInt (.int .i64 l.length)
    if n<0 then E1
    if n>IntKind.i64.max then E2
    if n=0 then pure (.string .empty)
    else if ← variablesAt ⟨g,d,none⟩ (← elemOf pt) n.toNat then do
     let s ← loadBytes ⟨g,d,none⟩ .empty n.toNat
     freeze ⟨g,d,none⟩ n.toNat
     pure (.string s)
    else E3):=⟨_,_,_,rfl⟩
 have hmax:IntKind.i64.max=9223372036854775807:=rfl
 have hneg:¬ (l.length:Int)<0:=by omega
 rw [hdef]
 simp [asInt,asIntOf,hmax,h63',hneg,hl,variablesAt,hsh,elemOf,run_underlying hp,hlies,hlb]
set_option maxHeartbeats 1000000 in
set_option maxRecDepth 100000 in
theorem Any.bldString (L:Lays.n169 P ρ) (X:Builder.Extra P ρ) (b g d cap:Nat) (p:Value) (e:TypeId) (cur:Array Value) (l:List Int) (w:World) (h0:l≠[])
  (hbk:w.heap[b]? = some (.cells #[p,.slice (some ⟨g,d,none⟩) l.length cap] (ρ.t 72) (0,0))) (hg:w.heap[g]? = some (.cells cur e (0,0))) (hok:Go.Tm.okTy P (.int .u8) e=true)
  (hcs : ∀ (j:Nat) (x:Int),l[j]? = some x→cur[d+j]? = some (.int .u8 x)) (hd:d+l.length≤cur.size) (hcap:l.length≤cap) (h63:l.length≤140737488355328) :
  Calls P (ρ.f 169) #[.pointer (some ⟨b,0,none⟩)] w fun ev w'=>ev = .returned (.string ⟨(Go.Tm.ofBytes l).toArray⟩)∧w'=w.drew.freeze ⟨g,d,none⟩ l.length:=by
 have hl0:l.length≠0:=by simpa using h0
 have c1:w.drew.cell? ⟨b,1,none⟩=some (.slice (some ⟨g,d,none⟩) l.length cap):=by
  have:w.drew.heap[b]? = some (.cells #[p,.slice (some ⟨g,d,none⟩) l.length cap] (ρ.t 72) (0,0)):=hbk
  rw [Lib.cell_of_heap this];rfl
 have hSD:(Builtin.unsafeSliceData_ #[(ρ.t 37)] (ρ.t 127) #[.slice (some ⟨g,d,none⟩) l.length cap]).run P w.drew = .ok (.pointer (some ⟨g,d,none⟩)) w.drew :=
  Lib.run_unsafeSliceData_row _ _ _ _ _ _ (by omega)
 have hUS:(Builtin.unsafeString_ #[(ρ.t 127),(ρ.t 3)] (ρ.t 9) #[.pointer (some ⟨g,d,none⟩),.int .i64 l.length]).run P w.drew = .ok (.string ⟨(Go.Tm.ofBytes l).toArray⟩) (w.drew.freeze ⟨g,d,none⟩ l.length):=by
  refine qaix w.drew (ρ.t 127) (ρ.t 3) (ρ.t 9) e (ρ.t 5) L.t127 X.t5 hok g d cur.size (by have hg':w.drew.heap[g]? = some (.cells cur e (0,0)):=hg;simp [World.shape?,hg']) l h0 hd (by omega) ?_
  intro j x hx
  have hg':w.drew.heap[g]? = some (.cells cur e (0,0)):=hg
  rw [Go.Tm.addr_add,Lib.cell_of_heap hg']
  exact hcs j x hx
 have mixed:=L.mixed
 have t72:=L.t72;have a72:=L.a72;have z72:=L.z72;have v72:=L.v72;have u72:=run_underlying L.t72
 have t70:=L.t70;have a70:=L.a70;have z70:=L.z70;have v70:=L.v70;have u70:=run_underlying L.t70
 have t37:=L.t37;have a37:=L.a37;have z37:=L.z37;have v37:=L.v37;have u37:=run_underlying L.t37
 have t127:=L.t127;have a127:=L.a127;have z127:=L.z127;have v127:=L.v127;have u127:=run_underlying L.t127
 have t3:=L.t3;have a3:=L.a3;have z3:=L.z3;have v3:=L.v3;have u3:=run_underlying L.t3
 have t9:=L.t9;have a9:=L.a9;have z9:=L.z9;have v9:=L.v9;have u9:=run_underlying L.t9
 have t5:=X.t5;have a5:=X.a5;have z5:=X.z5;have v5:=X.v5;have u5:=run_underlying X.t5
 clear hcs hd hcap h63 hok hbk hg
 go_enter L.f169,Body.n169_ntmps ρ
 go_wp2
 go_region_o
 all_goals (go_wp2;go_ret;exact ⟨rfl,rfl⟩)
set_option maxHeartbeats 1000000 in
set_option maxRecDepth 100000 in
theorem Any.bldString0 (L:Lays.n169 P ρ) (X:Builder.Extra P ρ) (b:Nat) (p:Value) (w:World) (hbk:w.heap[b]? = some (.cells #[p,.slice none 0 0] (ρ.t 72) (0,0))) :
  Calls P (ρ.f 169) #[.pointer (some ⟨b,0,none⟩)] w fun ev w'=>ev = .returned (.string .empty)∧w'=w.drew:=by
 have c1:w.drew.cell? ⟨b,1,none⟩=some (.slice none 0 0):=by
  have:w.drew.heap[b]? = some (.cells #[p,.slice none 0 0] (ρ.t 72) (0,0)):=hbk
  rw [Lib.cell_of_heap this];rfl
 have hSD:(Builtin.unsafeSliceData_ #[(ρ.t 37)] (ρ.t 127) #[.slice none 0 0]).run P w.drew = .ok (.pointer none) w.drew:=rfl
 have hUS:(Builtin.unsafeString_ #[(ρ.t 127),(ρ.t 3)] (ρ.t 9) #[.pointer none,.int .i64 0]).run P w.drew = .ok (.string .empty) w.drew:=Lib.run_unsafeString_none (P:=P) w.drew _ _ _ none
 have mixed:=L.mixed
 have t72:=L.t72;have a72:=L.a72;have z72:=L.z72;have v72:=L.v72;have u72:=run_underlying L.t72
 have t70:=L.t70;have a70:=L.a70;have z70:=L.z70;have v70:=L.v70;have u70:=run_underlying L.t70
 have t37:=L.t37;have a37:=L.a37;have z37:=L.z37;have v37:=L.v37;have u37:=run_underlying L.t37
 have t127:=L.t127;have a127:=L.a127;have z127:=L.z127;have v127:=L.v127;have u127:=run_underlying L.t127
 have t3:=L.t3;have a3:=L.a3;have z3:=L.z3;have v3:=L.v3;have u3:=run_underlying L.t3
 have t9:=L.t9;have a9:=L.a9;have z9:=L.z9;have v9:=L.v9;have u9:=run_underlying L.t9
 have t5:=X.t5;have a5:=X.a5;have z5:=X.z5;have v5:=X.v5;have u5:=run_underlying X.t5
 clear hbk
 go_enter L.f169,Body.n169_ntmps ρ
 go_wp2
 go_region_o
 all_goals (go_wp2;go_ret;exact ⟨rfl,rfl⟩)
end Go.Proofs
