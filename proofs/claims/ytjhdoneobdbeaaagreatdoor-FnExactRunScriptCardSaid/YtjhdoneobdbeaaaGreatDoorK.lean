import Derived.Test.YtjhdoneobdbeaaaGreatDoorA3
import Derived.Test.YtjhdoneobdbeaaaGreatDoorH
import Derived.Shelf.RegionOpenPlain
import Derived.WalkKit
import Derived.Lib.Walk
/- slices.Delete and slices.Insert: what a call does. -/
namespace Go.Proofs.YtjhdoneobdbeaaaGreatDoor
open Go Go.Tm Go.RowKit Go.Shelf Go.Lib
theorem qrt {w:World} {c:Nat} {cur:Array Value} {e:TypeId} (hb:w.heap[c]? = some (.cells cur e (0,0))) (X Y:Array Value):((w.setRow c X).setRow c Y).heap=(w.setRow c Y).heap:=by
 apply Array.ext
 ·rw [setRow_size,setRow_size,setRow_size]
 ·intro i h1 h2
  have g:((w.setRow c X).setRow c Y).heap[i]? = (w.setRow c Y).heap[i]?:=by
   by_cases hi:i=c
   ·subst hi
    rw [Go.Tm.setRow_same (Go.Tm.setRow_same hb X) Y,Go.Tm.setRow_same hb Y]
   ·rw [Go.Tm.setRow_other Y hi,Go.Tm.setRow_other X hi,Go.Tm.setRow_other Y hi]
  rw [Array.getElem?_eq_getElem h1,Array.getElem?_eq_getElem h2] at g
  exact Option.some.inj g
theorem qtm {P:Program} {ops:Array Oper} {o:Oper} {a:Act} {w:World} {K:Act→World→Prop} {Q:Exit→Act→World→Prop} {E:Prop}
  (hg:o.guard=none) (d x:Operand) (dT sT:TypeId) (hop:o.op=Op.call { callee:=Callee.builtin Builtin.append,args:=#[d,x],argTypes:=#[dT,sT] })
  (v u:Value) (hd:a.eval d=v) (hx:a.eval x=u) {v':Value} {w':World} (hr:(Builtin.append_ #[dT,sT] o.type #[v,u]).run P w = .ok v' w') (hK:K (a.put o.dst v') w') :
  if Region.wanted o (yielded ops a.tmps)=true then Oper.wp P o a w K Q else E:=by
 have hw:Region.wanted o (yielded ops a.tmps)=true:=by simp [Region.wanted,hg]
 rw [if_pos hw]
 unfold Oper.wp
 simp [execOp,hop,resolve,invoke,builtin,hd,hx,hr,Result.andThen]
 exact hK
set_option maxHeartbeats 4000000 in
set_option maxRecDepth 1000000 in
theorem qans (c d cap n i:Nat) (cur:Array Value) (e:TypeId) (moved:List Value) (w:World) (hb:w.heap[c]? = some (.cells cur e (0,0))) (hcap:n≤cap) (hi:i<n) (hsz:d+cap*9≤cur.size) (hml:moved.length=(n-(i+1))*9)
  (hm : ∀ (j:Nat) (v:Value),moved[j]? = some v→cur[d+(i+1)*9+j]? = some v) (h1 : ∀ v∈moved,v.oneCell'=true) :
  Calls Tryz.prog 198 #[.slice (some ⟨c,d,none⟩) n cap,.int .i64 i,.int .i64 ((i+1:Nat):Int)] w fun ev w'=>ev = .returned (.slice (some ⟨c,d,none⟩) (n-1) cap)∧w'.os=w.os∧w'.output=w.output∧w'.heap=(w.setRow c (over (over cur.toList (d+i*9) moved) (d+(n-1)*9) (zc (.pair (.arr 3 (.int .i32)) (.pair (.arr 3 (.flt .f32)) (.pair (.flt .f32) (.pair (.int .i64) (.pair (.int .i64) .unit))))))).toArray).heap:=by
 have mixed:Tryz.prog.follows Departure.mixedOrders=true:=by kernel_rfl
 have t3:=Tryz.underlying3;have a3:=Tryz.isAgg3;have z3:=Tryz.sizeOf3;have v3:=Tryz.zeroValue3
 have t4:=Tryz.underlying4;have a4:=Tryz.isAgg4;have z4:=Tryz.sizeOf4;have v4:=Tryz.zeroValue4
 have t43:=Tryz.underlying43;have a43:=Tryz.isAgg43;have z43:=Tryz.sizeOf43;have v43:=Tryz.zeroValue43
 have hok:okTy Tryz.prog (.pair (.arr 3 (.int .i32)) (.pair (.arr 3 (.flt .f32)) (.pair (.flt .f32) (.pair (.int .i64) (.pair (.int .i64) .unit))))) 168=true:=by kernel_rfl
 obtain ⟨A,hA,hsrc⟩ : ∃ A:Addr,(if cap=i+1 then some (⟨c,d,none⟩:Addr) else some ⟨c,d+(i+1)*9,none⟩)=some A∧Hid (∀ t u,moved[t]? = some u→w.drew.cell? (A.add t)=some u):=by
  by_cases h:cap=i+1
  ·refine ⟨⟨c,d,none⟩,by simp [h],fun t u hu => ?_⟩
   have h0:moved.length=0:=by rw [hml];omega
   rw [List.length_eq_zero_iff.1 h0] at hu
   simp at hu
  ·refine ⟨⟨c,d+(i+1)*9,none⟩,by simp [h],fun t u hu => ?_⟩
   have hb':w.drew.heap[c]? = some (.cells cur e (0,0)):=hb
   rw [Addr.add_lit]
   simp [World.cell?,hb',hm t u hu]
 have hl1:d+i*9+moved.length≤cur.toList.length:=by rw [hml,Array.length_toList];omega
 have happ : ∀ ty,(Builtin.append_ #[43,43] ty #[.slice (some ⟨c,d,none⟩) i cap,.slice (some A) (n-(i+1)) (cap-(i+1))]).run Tryz.prog w.drew = .ok (.slice (some ⟨c,d,none⟩) (i+(n-(i+1))) cap) (w.drew.setRow c (over cur.toList (d+i*9) moved).toArray):=fun ty =>
  qoo (w:=w.drew) Tryz.underlying43 hok Tryz.underlying43 (show w.drew.heap[c]? = _ from hb) hml (fun j v hj=>hsrc.out j v hj) h1 (by omega) (by show d+i*9+_≤_;rw [hml];omega)
 obtain ⟨W1,hW1⟩ : ∃ W1,W1=w.drew.setRow c (over cur.toList (d+i*9) moved).toArray:=⟨_,rfl⟩
 rw [← hW1] at happ
 have hb1:W1.heap[c]? = some (.cells (over cur.toList (d+i*9) moved).toArray e (0,0)):=by rw [hW1];exact setRow_same (show w.drew.heap[c]? = _ from hb) _
 have hcl : ∀ ty,(Builtin.clear_ #[43] ty #[.slice (some ⟨c,d+(n-1)*9,none⟩) 1 (cap-(n-1))]).run Tryz.prog W1 = .ok (.tuple #[]) (W1.setRow c (over (over cur.toList (d+i*9) moved).toArray.toList (d+(n-1)*9) (List.replicate 1 (zc (.pair (.arr 3 (.int .i32)) (.pair (.arr 3 (.flt .f32)) (.pair (.flt .f32) (.pair (.int .i64) (.pair (.int .i64) .unit))))))).flatten).toArray):=fun ty =>
  qv9 Tryz.underlying43 hok (by omega) hb1 (by rw [List.size_toArray,qar hl1,Array.length_toList];show d+(n-1)*9+1*9≤_;omega)
 have hin:i+(n-(i+1))=n-1:=by omega
 rw [hin] at happ
 have hic:i≤cap:=by omega
 have hjc:i+1≤cap:=by omega
 have hn1:n-(n-1)=1:=by omega
 have hnc:¬ (cap=n-1):=by omega
 have hb1':(0:Int)≤(i:Int)+1:=by omega
 have hb2':(i:Int)+1≤(n:Int):=by omega
 have X:Aside (W1=w.drew.setRow c (over cur.toList (d+i*9) moved).toArray):=hW1
 clear hW1 hb1 hm hsrc
 go_enter Tryz.func198,Tryz.ntmps198
 go_wp2_with fail
 go_region_law_o (refine qtm rfl (.tmp 22) (.tmp 25) 43 43 rfl (.slice (some ⟨c,d,none⟩) i cap) (.slice (some A) (n-(i+1)) (cap-(i+1))) (by simp [Act.eval,Act.put]) (by simp [Act.eval,Act.put]) (happ _) ?_)
 go_wp2
 go_ret
 refine ⟨rfl,by rw [X.out];rfl,by rw [X.out];rfl,?_⟩
 rw [X.out,qrt (show w.drew.heap[c]? = _ from hb)]
 rfl
abbrev TyM:Ty:=.pair (.arr 3 (.int .i32)) (.pair (.arr 3 (.flt .f32)) (.pair (.flt .f32) (.pair (.int .i64) (.pair (.int .i64) .unit))))
theorem qwd {P:Program} {ops:Array Oper} {o:Oper} {a:Act} {w:World} {K:Act→World→Prop} {Q:Exit→Act→World→Prop} {E:Prop}
  (hg:o.guard=none) (d x:Operand) (dT sT:TypeId) (hop:o.op=Op.call { callee:=Callee.builtin Builtin.copy,args:=#[d,x],argTypes:=#[dT,sT] })
  (v u:Value) (hd:a.eval d=v) (hx:a.eval x=u) {v':Value} {w':World} (hr:(Builtin.copy_ #[dT,sT] o.type #[v,u]).run P w = .ok v' w') (hK:K (a.put o.dst v') w') :
  if Region.wanted o (yielded ops a.tmps)=true then Oper.wp P o a w K Q else E:=by
 have hw:Region.wanted o (yielded ops a.tmps)=true:=by simp [Region.wanted,hg]
 rw [if_pos hw]
 unfold Oper.wp
 simp [execOp,hop,resolve,invoke,builtin,hd,hx,hr,Result.andThen]
 exact hK
theorem qv4 {P:Program} (w:World) {ops:Array Oper} {rest:List Oper} {o:Oper} {a:Act} {Q:Exit→Act→World→Prop} (hgd:o.guard=none) (d s:Operand) (t t':TypeId)
  (ho:o.op = .call { callee:=.builtin .copy,args:=#[d,s],argTypes:=#[t,t'] }) (v u:Value) (hd:a.eval d=v) (hs:a.eval s=u) {v':Value} {w':World}
  (hr:(Builtin.copy_ #[t,t'] o.type #[v,u]).run P w = .ok v' w') (h:wpList P ops Q rest (a.put o.dst v') w'):wpList P ops Q (o :: rest) a w :=
 wpList_plain hgd fun _ hK=>by
  unfold Oper.wp execOp
  simp only [ho,resolve,invoke,builtin,Sem.run_bind,Sem.run_pure,Result.andThen_ok,List.map_toArray,List.map_cons,List.map_nil,hd,hs,hr]
  exact hK _ _ h
set_option maxHeartbeats 4000000 in
set_option maxRecDepth 100000 in
theorem qaia (a:Option Addr) (n cap vb voff vcap:Nat) (r:Value) (w w':World) (hn:n≤cap) (hnil:a=none→n=0) (hrun : ∀ ty,(Builtin.append_ #[43,43] ty #[.slice a n cap,.slice (some ⟨vb,voff,none⟩) 1 vcap]).run Tryz.prog w = .ok r w') :
  Calls Tryz.prog 235 #[.slice a n cap,.int .i64 n,.slice (some ⟨vb,voff,none⟩) 1 vcap] w fun ev W=>ev = .returned r∧W=w':=by
 have mixed:Tryz.prog.follows Departure.mixedOrders=true:=by kernel_rfl
 have t3:=Tryz.underlying3;have a3:=Tryz.isAgg3;have z3:=Tryz.sizeOf3;have v3:=Tryz.zeroValue3
 have t4:=Tryz.underlying4;have a4:=Tryz.isAgg4;have z4:=Tryz.sizeOf4;have v4:=Tryz.zeroValue4
 have t43:=Tryz.underlying43;have a43:=Tryz.isAgg43;have z43:=Tryz.sizeOf43;have v43:=Tryz.zeroValue43
 go_enter Tryz.func235,Tryz.ntmps235
 cases a with
 | none =>
  have h0:=hnil rfl
  subst h0
  go_wp2_with (at_builtin;refine Lib.wpList_append_run _ rfl _ _ _ _ rfl _ _ rfl rfl _ _ (hrun _) ?_)
  all_goals (go_ret;exact ⟨rfl,rfl⟩)
 | some a =>
  obtain ⟨ab,ao,asp⟩:=a
  go_wp2_with (at_builtin;refine Lib.wpList_append_run _ rfl _ _ _ _ rfl _ _ rfl rfl _ _ (hrun _) ?_)
  all_goals (go_ret;exact ⟨rfl,rfl⟩)
set_option maxHeartbeats 4000000 in
set_option maxRecDepth 100000 in
theorem qakg (c d cap n i vb voff vcap:Nat) (cur vcur:Array Value) (e ve:TypeId) (olds us:List Value) (w:World) (hi:i<n) (hcap:n+1≤cap) (h63:(n:Int)+1≤9223372036854775807) (hcv:c≠vb)
  (hb:w.heap[c]? = some (.cells cur e (0,0))) (hsz:d+cap*9≤cur.size) (hol:olds.length=n*9) (hul:us.length=9) (hoat : ∀ (j:Nat) (v:Value),olds[j]? = some v→cur[d+j]? = some v)
  (h1 : ∀ v∈olds,v.oneCell'=true) (h2 : ∀ v∈us,v.oneCell'=true) (hvb:w.heap[vb]? = some (.cells vcur ve (0,0))) (hvat : ∀ (j:Nat) (v:Value),us[j]? = some v→vcur[voff+j]? = some v) :
  Calls Tryz.prog 235 #[.slice (some ⟨c,d,none⟩) n cap,.int .i64 i,.slice (some ⟨vb,voff,none⟩) 1 vcap] w fun ev W=>ev = .returned (.slice (some ⟨c,d,none⟩) (n+1) cap) ∧
   W=(w.drew.setRow c (over cur.toList (d+(i+1)*9) (olds.drop (i*9))).toArray).setRow c (over (over cur.toList (d+(i+1)*9) (olds.drop (i*9))) (d+i*9) us).toArray:=by
 have mixed:Tryz.prog.follows Departure.mixedOrders=true:=by kernel_rfl
 have t3:=Tryz.underlying3;have a3:=Tryz.isAgg3;have z3:=Tryz.sizeOf3;have v3:=Tryz.zeroValue3
 have t4:=Tryz.underlying4;have a4:=Tryz.isAgg4;have z4:=Tryz.sizeOf4;have v4:=Tryz.zeroValue4
 have t43:=Tryz.underlying43;have a43:=Tryz.isAgg43;have z43:=Tryz.sizeOf43;have v43:=Tryz.zeroValue43
 have hok:okTy Tryz.prog TyM 168=true:=by kernel_rfl
 have hz : ∀ w,(Go.sizeOf 168).run Tryz.prog w = .ok 9 w:=fun w=>qaw hok w
 have hdl:(olds.drop (i*9)).length=(n-i)*9:=by rw [List.length_drop,hol,← Nat.sub_mul]
 have hl1:d+(i+1)*9+(olds.drop (i*9)).length≤cur.toList.length:=by rw [hdl,Array.length_toList];omega
 have hov : ∀ lb cb,(callFunc 261 #[.slice (some ⟨vb,voff,none⟩) 1 vcap,.slice (some ⟨c,d+(i+1)*9,none⟩) lb cb]).run Tryz.prog w = .ok (.value (.bool false)) w:=fun lb cb=>by
  rw [run_callFunc_extern Tryz.func261 (by kernel_rfl) (by kernel_rfl) (by kernel_rfl) (e:=Extern.SlicesOverlaps.overlaps #[43,43] #[4]) (by kernel_rfl),
   Lib.run_overlaps_apart w 43 4 168 Tryz.underlying43 9 hz ⟨vb,voff,none⟩ ⟨c,d+(i+1)*9,none⟩ 1 vcap lb cb (fun h=>hcv h.symm) ve e vcur.size cur.size (by simp [World.shape?,hvb]) (by simp [World.shape?,hb]) (by omega) (by simp [World.frozen?,hvb]) (by simp [World.frozen?,hvb])]
  rfl
 have hcp1 : ∀ ty dc sc,(Builtin.copy_ #[43,43] ty #[.slice (some ⟨c,d+(i+1)*9,none⟩) (n+1-(i+1)) dc,.slice (some ⟨c,d+i*9,none⟩) (n+1-i) sc]).run Tryz.prog w.drew = .ok (goInt (Nat.min (n+1-i) (n+1-(i+1)))) (w.drew.setRow c (over cur.toList (d+(i+1)*9) (olds.drop (i*9))).toArray):=fun ty dc sc =>
  Go.Tm.run_copy_row (w:=w.drew) (u:=TyM) Tryz.underlying43 hok (show w.drew.heap[c]? = _ from hb) (by rw [hdl,show Nat.min (n+1-i) (n+1-(i+1))=n-i by simp only [Nat.min_def];split <;> omega];rfl) (fun j v hj=>by
   have hb':w.drew.heap[c]? = some (.cells cur e (0,0)):=hb
   rw [List.getElem?_drop] at hj
   rw [Addr.add_lit,Nat.add_assoc]
   simp [World.cell?,hb',hoat _ v hj]) (fun v hv=>h1 v (List.mem_of_mem_drop hv)) (by rw [← Array.length_toList];exact hl1)
 obtain ⟨W1,hW1⟩ : ∃ W1,W1=w.drew.setRow c (over cur.toList (d+(i+1)*9) (olds.drop (i*9))).toArray:=⟨_,rfl⟩
 have hb1:W1.heap[c]? = some (.cells (over cur.toList (d+(i+1)*9) (olds.drop (i*9))).toArray e (0,0)):=by rw [hW1];exact Go.Tm.setRow_same (show w.drew.heap[c]? = _ from hb) _
 have hv1:W1.heap[vb]? = some (.cells vcur ve (0,0)):=by rw [hW1,Go.Tm.setRow_other _ (fun h=>hcv h.symm)];exact hvb
 have hcp2 : ∀ ty dc,(Builtin.copy_ #[43,43] ty #[.slice (some ⟨c,d+i*9,none⟩) (n+1-i) dc,.slice (some ⟨vb,voff,none⟩) 1 vcap]).run Tryz.prog W1 = .ok (goInt (Nat.min 1 (n+1-i))) (W1.setRow c (over (over cur.toList (d+(i+1)*9) (olds.drop (i*9))) (d+i*9) us).toArray):=fun ty dc =>
  Go.Tm.run_copy_row (w:=W1) (u:=TyM) Tryz.underlying43 hok hb1 (by rw [hul,show Nat.min 1 (n+1-i)=1 by simp only [Nat.min_def];split <;> omega];rfl) (fun j v hj=>by
   rw [Addr.add_lit]
   simp [World.cell?,hv1,hvat _ v hj]) h2 (by rw [show (over cur.toList (d+(i+1)*9) (olds.drop (i*9))).toArray.size=cur.size from by rw [List.size_toArray,qar hl1,Array.length_toList],hul];omega)
 rw [← hW1] at hcp1
 have hw1:IntKind.i64.wrap ((i:Int)+1)=(i:Int)+1:=by rw [IntKind.wrap_i64];omega
 have hw2:IntKind.i64.wrap ((n:Int)+1)=(n:Int)+1:=by rw [IntKind.wrap_i64];omega
 have hq1:(0:Int)≤(i:Int)+1:=by omega
 have hq2:(0:Int)≤(n:Int)+1:=by omega
 have hin:i≤n:=by omega
 have htn:((i:Int)+1).toNat=i+1:=by omega
 have htm:((n:Int)+1).toNat=n+1:=by omega
 have hne:¬ ((i:Int)=(n:Int)):=by omega
 have hb2:¬ (cap=i+1):=by omega
 have hb3:(i:Int)≤(n:Int)+1:=by omega
 have hb3':(i:Int)+1≤(n:Int)+1:=by omega
 have hb4:¬ (cap=i):=by omega
 have hb5:¬ ((cap:Int)<(n:Int)+1):=by omega
 have hb6:(n:Int)+1≤(cap:Int):=by omega
 have X:Aside (W1=w.drew.setRow c (over cur.toList (d+(i+1)*9) (olds.drop (i*9))).toArray):=hW1
 clear hoat hvat h1 h2 hb1 hv1 hW1 hdl hl1 hol hul hsz hok hz hb hvb
 clear h63
 go_enter Tryz.func235,Tryz.ntmps235
 go_wp2_with fail
 go_region_law_o (refine qwd rfl (.tmp 73) (.tmp 76) 43 43 rfl (.slice (some ⟨c,d+(i+1)*9,none⟩) (n+1-(i+1)) (cap-(i+1))) (.slice (some ⟨c,d+i*9,none⟩) (n+1-i) (cap-i)) (by simp [Act.eval,Act.put]) (by simp [Act.eval,Act.put]) (hcp1 3 _ _) ?_)
 go_wp2_with (at_builtin;refine qv4 _ rfl _ _ 43 43 rfl _ _ rfl rfl (hcp2 _ _) ?_)
 go_ret
 exact ⟨rfl,by rw [X.out]⟩
theorem qzh {w W:World} {R:Array Value} {e:TypeId} (h:W.heap=w.heap.push (.cells R e (0,0))) (X:Array Value):(W.setRow w.heap.size X).heap=w.heap.push (.cells X e (0,0)):=by
 have hb:W.heap[w.heap.size]? = some (.cells R e (0,0)):=by rw [h];simp
 apply Array.ext
 ·rw [Go.Tm.setRow_size,h];simp
 ·intro i h1 h2
  have g:(W.setRow w.heap.size X).heap[i]? = (w.heap.push (.cells X e (0,0)))[i]?:=by
   by_cases hi:i=w.heap.size
   ·subst hi
    rw [Go.Tm.setRow_same hb X];simp
   ·rw [Go.Tm.setRow_other X hi,h,Array.getElem?_push,Array.getElem?_push,if_neg hi,if_neg hi]
  rw [Array.getElem?_eq_getElem h1,Array.getElem?_eq_getElem h2] at g
  exact Option.some.inj g
set_option maxHeartbeats 4000000 in
set_option maxRecDepth 100000 in
theorem qame (c d cap n i vb voff vcap:Nat) (cur vcur:Array Value) (e ve:TypeId) (olds us:List Value) (w:World) (hi:i<n) (hn:n≤cap) (hcap:cap<n+1) (hbig:(n+1)*48≤140737488355328)
  (hb:w.heap[c]? = some (.cells cur e (0,0))) (hsz:d+cap*9≤cur.size) (hol:olds.length=n*9) (hul:us.length=9) (hoat : ∀ (j:Nat) (v:Value),olds[j]? = some v→cur[d+j]? = some v)
  (h1 : ∀ v∈olds,v.oneCell'=true) (h2 : ∀ v∈us,v.oneCell'=true) (hvb:w.heap[vb]? = some (.cells vcur ve (0,0))) (hvat : ∀ (j:Nat) (v:Value),us[j]? = some v→vcur[voff+j]? = some v) :
  ∃ (G:Nat) (ROW:Array Value),n+1≤G∧ROW.size=G*9∧(∀ (j:Nat) (v:Value),(olds.take (i*9))[j]? = some v→ROW[j]? = some v) ∧
  Calls Tryz.prog 235 #[.slice (some ⟨c,d,none⟩) n cap,.int .i64 i,.slice (some ⟨vb,voff,none⟩) 1 vcap] w fun ev W=>ev = .returned (.slice (some ⟨w.heap.size,0,none⟩) (n+1) G)∧W.os=w.os∧W.output=w.output ∧
   W.heap=w.heap.push (.cells (over (over ROW.toList (i*9) us) ((i+1)*9) (olds.drop (i*9))).toArray 168 (0,0)):=by
 have mixed:Tryz.prog.follows Departure.mixedOrders=true:=by kernel_rfl
 have t3:=Tryz.underlying3;have a3:=Tryz.isAgg3;have z3:=Tryz.sizeOf3;have v3:=Tryz.zeroValue3
 have t4:=Tryz.underlying4;have a4:=Tryz.isAgg4;have z4:=Tryz.sizeOf4;have v4:=Tryz.zeroValue4
 have t43:=Tryz.underlying43;have a43:=Tryz.isAgg43;have z43:=Tryz.sizeOf43;have v43:=Tryz.zeroValue43
 have hok:okTy Tryz.prog TyM 168=true:=by kernel_rfl
 obtain ⟨it,z,hit,hsz1,hz,hzc⟩:=qj7 hok
 have hsz9:it.size=9:=hsz1
 have hby:it.bytes=48:=by
  have:(Tryz.prog.info? 168).map (fun i=>i.bytes)=some 48:=by kernel_rfl
  rw [hit] at this
  simpa using this
 have hzl:z.cells.size=9:=by rw [hzc,List.size_toArray,qj6];rfl
 have hcw:c<w.heap.size:=(Array.getElem?_eq_some_iff.1 hb).1
 have hvw:vb<w.heap.size:=(Array.getElem?_eq_some_iff.1 hvb).1
 have hkk:(n:Int)+1-(i:Int)=((n+1-i:Nat):Int):=by omega
 have hik:i+(n+1-i)=n+1:=by omega
 have hdl:(olds.drop (i*9)).length=(n-i)*9:=by rw [List.length_drop,hol,← Nat.sub_mul]
 have htl:(olds.take (i*9)).length=i*9:=by rw [List.length_take,hol];omega
 have hold:(Builtin.firstCells it.size i (.slice (some ⟨c,d,none⟩) i cap)).run Tryz.prog w.drew = .ok (olds.take (i*9)).toArray w.drew:=by
  refine run_firstCells_some w.drew it.size i ⟨c,d,none⟩ i cap (olds.take (i*9)) (by rw [htl,hsz9]) (fun j v hj => ?_)
  have hb':w.drew.heap[c]? = some (.cells cur e (0,0)):=hb
  rw [Addr.add_lit]
  rw [List.getElem?_take] at hj
  split at hj
  ·simp [World.cell?,hb',hoat _ v hj]
  ·simp at hj
 obtain ⟨G,hG⟩ : ∃ G,G=grownCap w (n+1) cap 168:=⟨_,rfl⟩
 obtain ⟨ROW,hROW⟩ : ∃ ROW:Array Value,ROW=(olds.take (i*9)).toArray++Builtin.zeroCells z.cells (n+1-i)++Builtin.zeroCells z.cells (G-(n+1)):=⟨_,rfl⟩
 have hrz : ∀ ty,(Builtin.append_ #[43,3] ty #[.slice (some ⟨c,d,none⟩) i cap,.int .i64 ((n:Int)+1-(i:Int))]).run Tryz.prog w = .ok (.slice (some ⟨w.heap.size,0,none⟩) (n+1) G) (w.drew.alloc (.cells ROW 168)):=fun ty=>by
  have h:=Lib.run_append_grow_zeros w 43 3 ty 168 it z .i64 .i64 Tryz.underlying43 Tryz.underlying3 hit hz (some ⟨c,d,none⟩) i cap (olds.take (i*9)) hold (n+1-i) (by omega) (by omega) (by omega) (by omega) (by rw [hby];omega) (by rw [hby,hik];exact growslice_fits (by omega) hbig)
  rw [hik] at h
  rw [hkk,hROW,hG]
  exact h
 have hGn:n+1≤G:=by rw [hG];exact grownCap_ge w _ _ _
 have hRs:ROW.size=G*9:=by
  rw [hROW]
  simp [Builtin.zeroCells,hzl,htl]
  omega
 have hRt : ∀ (j:Nat) (v:Value),(olds.take (i*9))[j]? = some v→ROW[j]? = some v:=fun j v hj=>by
  have hjl:=(List.getElem?_eq_some_iff.1 hj).1
  rw [hROW,Array.append_assoc,Array.getElem?_append_left (by simpa using hjl)]
  simpa using hj
 refine ⟨G,ROW,hGn,hRs,hRt,?_⟩
 have hl1:i*9+us.length≤ROW.toList.length:=by rw [hul,Array.length_toList,hRs];omega
 have hsX:(over ROW.toList (i*9) us).toArray.size=G*9:=by rw [List.size_toArray,qar hl1,Array.length_toList,hRs]
 have hcpA : ∀ W:World,W.heap=w.heap.push (.cells ROW 168 (0,0)) → ∀ ty dc,(Builtin.copy_ #[43,43] ty #[.slice (some ⟨w.heap.size,i*9,none⟩) (n+1-i) dc,.slice (some ⟨vb,voff,none⟩) 1 vcap]).run Tryz.prog W = .ok (goInt (Nat.min 1 (n+1-i))) (W.setRow w.heap.size (over ROW.toList (i*9) us).toArray):=fun W hW ty dc =>
  Go.Tm.run_copy_row (w:=W) (u:=TyM) (e':=168) Tryz.underlying43 hok (by rw [hW];simp) (by rw [hul,show Nat.min 1 (n+1-i)=1 by simp only [Nat.min_def];split <;> omega];rfl) (fun j v hj=>by
   have hv':W.heap[vb]? = some (.cells vcur ve (0,0)):=by rw [hW,Array.getElem?_push,if_neg (by omega)];exact hvb
   rw [Addr.add_lit]
   simp [World.cell?,hv',hvat _ v hj]) h2 (by rw [hul,hRs];omega)
 have hcpB : ∀ W:World,W.heap=w.heap.push (.cells (over ROW.toList (i*9) us).toArray 168 (0,0)) → ∀ ty dc sc,(Builtin.copy_ #[43,43] ty #[.slice (some ⟨w.heap.size,(i+1)*9,none⟩) (n+1-(i+1)) dc,.slice (some ⟨c,d+i*9,none⟩) (n-i) sc]).run Tryz.prog W = .ok (goInt (Nat.min (n-i) (n+1-(i+1)))) (W.setRow w.heap.size (over (over ROW.toList (i*9) us) ((i+1)*9) (olds.drop (i*9))).toArray):=fun W hW ty dc sc =>
  Go.Tm.run_copy_row (w:=W) (u:=TyM) (e':=168) (cur:=(over ROW.toList (i*9) us).toArray) Tryz.underlying43 hok (by rw [hW];exact Array.getElem?_push_size) (by rw [hdl,show Nat.min (n-i) (n+1-(i+1))=n-i by simp only [Nat.min_def];split <;> omega];rfl) (fun j v hj=>by
   have hb':W.heap[c]? = some (.cells cur e (0,0)):=by rw [hW,Array.getElem?_push,if_neg (by omega)];exact hb
   rw [List.getElem?_drop] at hj
   rw [Addr.add_lit,Nat.add_assoc]
   simp [World.cell?,hb',hoat _ v hj]) (fun v hv=>h1 v (List.mem_of_mem_drop hv)) (by rw [hsX,hdl];omega)
 have hw1:IntKind.i64.wrap ((i:Int)+1)=(i:Int)+1:=by rw [IntKind.wrap_i64];omega
 have hw2:IntKind.i64.wrap ((n:Int)+1)=(n:Int)+1:=by rw [IntKind.wrap_i64];omega
 have hw3:IntKind.i64.wrap ((n:Int)+1-(i:Int))=(n:Int)+1-(i:Int):=by rw [IntKind.wrap_i64];omega
 have hq1:(0:Int)≤(i:Int)+1:=by omega
 have hq2:(0:Int)≤(n:Int)+1:=by omega
 have hin:i≤n:=by omega
 have hic:i≤cap:=by omega
 have htn:((i:Int)+1).toNat=i+1:=by omega
 have hne:¬ ((i:Int)=(n:Int)):=by omega
 have hb3:(i:Int)≤(n:Int)+1:=by omega
 have hb3':(i:Int)+1≤(n:Int)+1:=by omega
 have hb5:(cap:Int)<(n:Int)+1:=by omega
 have hGi:¬ (G=i):=by omega
 have hGi1:¬ (G=i+1):=by omega
 have hci:¬ (cap=i):=by omega
 obtain ⟨R2,hR2⟩ : ∃ R2:Array Value,R2=(over ROW.toList (i*9) us).toArray:=⟨_,rfl⟩
 obtain ⟨R3,hR3⟩ : ∃ R3:Array Value,R3=(over (over ROW.toList (i*9) us) ((i+1)*9) (olds.drop (i*9))).toArray:=⟨_,rfl⟩
 rw [← hR2] at hcpA
 rw [← hR2,← hR3] at hcpB
 rw [← hR3]
 have hF:(w.alloc (.cells ROW 168)).drew.heap=w.heap.push (.cells ROW 168 (0,0)):=rfl
 have hF2:((w.alloc (.cells ROW 168)).drew.setRow w.heap.size R2).heap=w.heap.push (.cells R2 168 (0,0)):=qzh hF _
 have hF3:((w.alloc (.cells ROW 168)).drew.setRow w.heap.size R2).drew.heap=w.heap.push (.cells R2 168 (0,0)):=hF2
 have X2:Aside (((w.alloc (.cells ROW 168)).drew.setRow w.heap.size R2).drew.heap=w.heap.push (.cells R2 168 (0,0))):=hF3
 clear hsX hR2 hR3 hoat hvat h1 h2 hdl htl hl1 hol hul hsz hok hz hb hvb hbig hit hsz1 hsz9 hby hzl hzc hold hG hROW hRs hRt hkk hik
 go_enter Tryz.func235,Tryz.ntmps235
 go_wp2_with (first
  | (at_builtin;refine Lib.wpList_append_run _ rfl _ _ _ _ rfl _ _ rfl rfl _ _ (hrz _) ?_)
  | (at_builtin;refine qv4 _ rfl _ _ 43 43 rfl _ _ rfl rfl (hcpA _ hF _ _) ?_))
 go_region_law_o (refine qwd rfl (.tmp 50) (.tmp 53) 43 43 rfl (.slice (some ⟨w.heap.size,(i+1)*9,none⟩) (n+1-(i+1)) (G-(i+1))) (.slice (some ⟨c,d+i*9,none⟩) (n-i) (cap-i)) (by simp [Act.eval,Act.put]) (by simp [Act.eval,Act.put]) (hcpB _ hF3 3 _ _) ?_)
 go_wp2
 go_ret
 refine ⟨rfl,rfl,rfl,?_⟩
 exact qzh X2.out _
theorem qafn {olds us Y:List Value} {m d:Nat} (hm:m≤olds.length) (h1 : ∀ (j:Nat) (v:Value),(olds.take m)[j]? = some v→Y[d+j]? = some v) (h2 : ∀ (j:Nat) (v:Value),us[j]? = some v→Y[d+m+j]? = some v)
  (h3 : ∀ (j:Nat) (v:Value),(olds.drop m)[j]? = some v→Y[d+m+us.length+j]? = some v) (j:Nat) (v:Value) (h:(olds.take m++us++olds.drop m)[j]? = some v):Y[d+j]? = some v:=by
 have htl:(olds.take m).length=m:=by rw [List.length_take];omega
 by_cases hj:j<m
 ·rw [List.append_assoc,List.getElem?_append_left (by omega)] at h
  exact h1 j v h
 ·by_cases hj2:j<m+us.length
  ·rw [List.append_assoc,List.getElem?_append_right (by omega),htl,List.getElem?_append_left (by omega)] at h
   have:=h2 _ v h
   rwa [show d+m+(j-m)=d+j by omega] at this
  ·rw [List.getElem?_append_right (by rw [List.length_append];omega),List.length_append,htl] at h
   have:=h3 _ v h
   rwa [show d+m+us.length+(j-(m+us.length))=d+j by omega] at this
theorem qaoj {G:List (Nat×Obj)} : Sound Tryz.prog G 235 (insertEn TyM 48):=by
 refine qagc (by kernel_rfl) Tryz.func235 (by kernel_rfl) (by kernel_rfl) fun a n cap i vb voff vcap vcur ve olds us w hin hcap hroom hplace hol hul h1 h2 hvb hvat => ?_
 have hts:TyM.size=9:=rfl
 rw [hts] at hol hul
 rw [hts]
 have hbig:(n+1)*48≤140737488355328:=by simpa [room] using hroom
 have hok:okTy Tryz.prog TyM 168=true:=by kernel_rfl
 have hml:i*9≤olds.length:=by omega
 by_cases hfit:n+1≤cap
 ·obtain ⟨c,d,cur,e,rfl,hcv,hpos,hb,hsz,hat⟩ : ∃ c d cur e,a=some ⟨c,d,none⟩∧c≠vb∧0<cap∧w.heap[c]? = some (.cells cur e (0,0))∧d+cap*TyM.size≤cur.size ∧ ∀ (j:Nat) v,olds[j]? = some v→cur[d+j]? = some v:=by
   rcases hplace with h | h
   ·omega
   ·exact h
  rw [hts] at hsz
  by_cases hi:i=n
  ·subst hi
   have hl1:d+i*9+us.length≤cur.toList.length:=by rw [hul,Array.length_toList];omega
   have hrun : ∀ ty,(Builtin.append_ #[43,43] ty #[.slice (some ⟨c,d,none⟩) i cap,.slice (some ⟨vb,voff,none⟩) 1 vcap]).run Tryz.prog w = .ok (.slice (some ⟨c,d,none⟩) (i+1) cap) (w.setRow c (over cur.toList (d+i*9) us).toArray):=fun ty =>
    qoo (u:=TyM) Tryz.underlying43 hok Tryz.underlying43 hb (by rw [hul];rfl) (fun j v hj=>by
     rw [Addr.add_lit]
     simp [World.cell?,hvb,hvat _ v hj]) h2 hfit (by show d+i*9+_≤_;rw [hul];omega)
   refine (qaia _ i cap vb voff vcap _ w _ hcap (by intro h;simp at h) hrun).mono ?_
   rintro ev W ⟨rfl,rfl⟩
   refine ⟨rfl,rfl,.inl ⟨c,d,cur,_,e,rfl,rfl,hfit,hb,by rw [List.size_toArray,qar hl1,Array.length_toList],rfl,fun j hj => ?_,fun j v hj => ?_⟩⟩
   ·have hj:j<d∨d+cap*9≤j:=hj
    rw [List.getElem?_toArray,qep hl1 (by rw [hul];omega),Array.getElem?_toList]
   ·rw [List.getElem?_toArray]
    refine qafn hml (fun j v hj => ?_) (fun j v hj=>quf hl1 hj) (fun j v hj => ?_) j v hj
    ·have hjl:=(List.getElem?_eq_some_iff.1 hj).1
     rw [List.length_take] at hjl
     rw [List.getElem?_take_of_lt (by omega)] at hj
     rw [qep hl1 (.inl (by omega)),Array.getElem?_toList]
     exact hat j v hj
    ·have hjl:=(List.getElem?_eq_some_iff.1 hj).1
     rw [List.length_drop] at hjl
     omega
  ·have hi:i<n:=by omega
   have hdl:(olds.drop (i*9)).length=(n-i)*9:=by rw [List.length_drop,hol,← Nat.sub_mul]
   have hl1:d+(i+1)*9+(olds.drop (i*9)).length≤cur.toList.length:=by rw [hdl,Array.length_toList];omega
   have hl2:d+i*9+us.length≤(over cur.toList (d+(i+1)*9) (olds.drop (i*9))).length:=by rw [qar hl1,hul,Array.length_toList];omega
   refine (qakg c d cap n i vb voff vcap cur vcur e ve olds us w hi hfit (by omega) hcv hb hsz hol hul hat h1 h2 hvb hvat).mono ?_
   rintro ev W ⟨rfl,rfl⟩
   refine ⟨rfl,rfl,.inl ⟨c,d,cur,_,e,rfl,rfl,hfit,hb,?_,qrt (show w.drew.heap[c]? = _ from hb) _ _,fun j hj => ?_,fun j v hj => ?_⟩⟩
   ·rw [List.size_toArray,qar hl2,qar hl1,Array.length_toList]
   ·have hj:j<d∨d+cap*9≤j:=hj
    rw [List.getElem?_toArray,qep hl2 (by rw [hul];omega),qep hl1 (by rw [hdl];omega),Array.getElem?_toList]
   ·rw [List.getElem?_toArray]
    refine qafn hml (fun j v hj => ?_) (fun j v hj=>quf hl2 hj) (fun j v hj => ?_) j v hj
    ·have hjl:=(List.getElem?_eq_some_iff.1 hj).1
     rw [List.length_take] at hjl
     rw [List.getElem?_take_of_lt (by omega)] at hj
     rw [qep hl2 (.inl (by omega)),qep hl1 (.inl (by omega)),Array.getElem?_toList]
     exact hat j v hj
    ·rw [hul,qep hl2 (.inr (by rw [hul];omega))]
     have:=quf hl1 hj
     rwa [show d+(i+1)*9+j=d+i*9+9+j by omega] at this
 ·by_cases hi:i=n
  ·subst hi
   obtain ⟨it,z,hit,hsz1,hz,hzc⟩:=qj7 hok
   have hsz9:it.size=9:=hsz1
   have hby:it.bytes=48:=by
    have:(Tryz.prog.info? 168).map (fun i=>i.bytes)=some 48:=by kernel_rfl
    rw [hit] at this
    simpa using this
   have hzl:z.cells.size=9:=by rw [hzc,List.size_toArray,qj6];rfl
   have hold:(Builtin.firstCells it.size i (.slice a i cap)).run Tryz.prog w.drew = .ok olds.toArray w.drew:=by
    rcases hplace with ⟨h0,h00⟩ | ⟨c,d,cur,e,rfl,hcv,hpos,hb,hsz,hat⟩
    ·subst h0
     have:olds=[]:=List.eq_nil_of_length_eq_zero (by omega)
     subst this
     cases a with
     | none=>exact run_firstCells_none _ _ _ _ _
     | some a=>exact run_firstCells_some w.drew it.size 0 a 0 cap [] (by simp) (fun j v hj=>by simp at hj)
    ·refine run_firstCells_some w.drew it.size i ⟨c,d,none⟩ i cap olds (by rw [hol,hsz9]) (fun j v hj => ?_)
     have hb':w.drew.heap[c]? = some (.cells cur e (0,0)):=hb
     rw [Addr.add_lit]
     simp [World.cell?,hb',hat _ v hj]
   have hsrc:Src Tryz.prog it.size 43 (.slice (some ⟨vb,voff,none⟩) 1 vcap) 1 us w :=
    ⟨.inl ⟨168,Tryz.underlying43⟩,fun _=>rfl,run_firstCells_some w it.size 1 ⟨vb,voff,none⟩ 1 vcap us (by rw [hul,hsz9]) (fun j v hj=>by
     rw [Addr.add_lit]
     simp [World.cell?,hvb,hvat _ v hj]),run_firstCells_some w.drew it.size 1 ⟨vb,voff,none⟩ 1 vcap us (by rw [hul,hsz9]) (fun j v hj=>by
     have hv':w.drew.heap[vb]? = some (.cells vcur ve (0,0)):=hvb
     rw [Addr.add_lit]
     simp [World.cell?,hv',hvat _ v hj]),by rw [hul,hsz9],h2⟩
   obtain ⟨G',hG⟩ : ∃ G',G'=grownCap w (i+1) cap 168:=⟨_,rfl⟩
   have hrun : ∀ ty,(Builtin.append_ #[43,43] ty #[.slice a i cap,.slice (some ⟨vb,voff,none⟩) 1 vcap]).run Tryz.prog w = .ok (.slice (some ⟨w.heap.size,0,none⟩) (i+1) G') (w.drew.alloc (.cells ((olds++us).toArray++Builtin.zeroCells z.cells (G'-(i+1))) 168)):=fun ty=>by
    rw [hG]
    exact run_append_grow_src (P:=Tryz.prog) w 43 43 ty 168 it z Tryz.underlying43 hit hz a i cap olds hold _ 1 us hsrc (by omega) (by omega) (by rw [hby];exact growslice_fits (by omega) hbig)
   refine (qaia a i cap vb voff vcap _ w _ hcap (fun ha => ?_) hrun).mono ?_
   ·rcases hplace with ⟨h0,_⟩ | ⟨c,d,cur,e,ha',_⟩
    ·exact h0
    ·rw [ha] at ha';simp at ha'
   rintro ev W ⟨rfl,rfl⟩
   have hGn:i+1≤G':=by rw [hG];exact grownCap_ge w _ _ _
   refine ⟨rfl,rfl,.inr ⟨G',_,168,rfl,hGn,rfl,hok,?_,fun j v hj => ?_⟩⟩
   ·show G'*9≤_
    simp [Builtin.zeroCells,hzl]
    omega
   ·have e0:olds.take (i*9)++us++olds.drop (i*9)=olds++us:=by rw [List.take_of_length_le (by omega),List.drop_eq_nil_of_le (by omega),List.append_nil]
    rw [e0] at hj
    have hjl:=(List.getElem?_eq_some_iff.1 hj).1
    rw [Array.getElem?_append_left (by simpa using hjl)]
    simpa using hj
  ·have hi:i<n:=by omega
   obtain ⟨c,d,cur,e,rfl,hcv,hpos,hb,hsz,hat⟩ : ∃ c d cur e,a=some ⟨c,d,none⟩∧c≠vb∧0<cap∧w.heap[c]? = some (.cells cur e (0,0))∧d+cap*TyM.size≤cur.size ∧ ∀ (j:Nat) v,olds[j]? = some v→cur[d+j]? = some v:=by
    rcases hplace with h | h
    ·omega
    ·exact h
   rw [hts] at hsz
   obtain ⟨G',ROW,hG,hR,hRt,hcalls⟩:=qame c d cap n i vb voff vcap cur vcur e ve olds us w hi hcap (by omega) hbig hb hsz hol hul hat h1 h2 hvb hvat
   refine hcalls.mono ?_
   rintro ev W ⟨rfl,hos,hout,hheap⟩
   have hdl:(olds.drop (i*9)).length=(n-i)*9:=by rw [List.length_drop,hol,← Nat.sub_mul]
   have hl1:i*9+us.length≤ROW.toList.length:=by rw [hul,Array.length_toList,hR];omega
   have hl2:(i+1)*9+(olds.drop (i*9)).length≤(over ROW.toList (i*9) us).length:=by rw [qar hl1,hdl,Array.length_toList,hR];omega
   refine ⟨hos,hout,.inr ⟨G',_,168,rfl,hG,hheap,hok,?_,fun j v hj => ?_⟩⟩
   ·rw [List.size_toArray,qar hl2,qar hl1,Array.length_toList,hR];exact Nat.le_refl _
   ·rw [List.getElem?_toArray,← Nat.zero_add j]
    refine qafn hml (fun j v hj => ?_) (fun j v hj => ?_) (fun j v hj => ?_) j v hj
    ·have hjl:=(List.getElem?_eq_some_iff.1 hj).1
     rw [List.length_take] at hjl
     rw [qep hl2 (.inl (by omega)),qep hl1 (.inl (by omega)),Array.getElem?_toList,Nat.zero_add]
     exact hRt j v hj
    ·have hjl:=(List.getElem?_eq_some_iff.1 hj).1
     rw [qep hl2 (.inl (by omega)),Nat.zero_add]
     exact quf hl1 hj
    ·have:=quf hl2 hj
     rw [hul]
     rwa [show (i+1)*9+j=0+i*9+9+j by omega] at this
theorem qaoi {G:List (Nat×Obj)} : Sound Tryz.prog G 198 (deleteEn TyM) :=
 qw4 (by kernel_rfl) Tryz.func198 (by kernel_rfl) (by kernel_rfl) fun c d cap n i cur e moved w hb hcap hi hsz hml hm h1=>qans c d cap n i cur e moved w hb hcap hi hsz hml hm h1
set_option maxHeartbeats 4000000 in
set_option maxRecDepth 1000000 in
theorem qanr (c d cap n i:Nat) (cur:Array Value) (e:TypeId) (moved:List Value) (w:World) (hb:w.heap[c]? = some (.cells cur e (0,0))) (hcap:n≤cap) (hi:i<n) (hsz:d+cap*2≤cur.size) (hml:moved.length=(n-(i+1))*2)
  (hm : ∀ (j:Nat) (v:Value),moved[j]? = some v→cur[d+(i+1)*2+j]? = some v) (h1 : ∀ v∈moved,v.oneCell'=true) :
  Calls Tryz.prog 133 #[.slice (some ⟨c,d,none⟩) n cap,.int .i64 i,.int .i64 ((i+1:Nat):Int)] w fun ev w'=>ev = .returned (.slice (some ⟨c,d,none⟩) (n-1) cap)∧w'.os=w.os∧w'.output=w.output∧w'.heap=(w.setRow c (over (over cur.toList (d+i*2) moved) (d+(n-1)*2) (zc (.pair (.int .i64) (.pair .str .unit)))).toArray).heap:=by
 have mixed:Tryz.prog.follows Departure.mixedOrders=true:=by kernel_rfl
 have t3:=Tryz.underlying3;have a3:=Tryz.isAgg3;have z3:=Tryz.sizeOf3;have v3:=Tryz.zeroValue3
 have t4:=Tryz.underlying4;have a4:=Tryz.isAgg4;have z4:=Tryz.sizeOf4;have v4:=Tryz.zeroValue4
 have t32:=Tryz.underlying32;have a32:=Tryz.isAgg32;have z32:=Tryz.sizeOf32;have v32:=Tryz.zeroValue32
 have hok:okTy Tryz.prog (.pair (.int .i64) (.pair .str .unit)) 100=true:=by kernel_rfl
 obtain ⟨A,hA,hsrc⟩ : ∃ A:Addr,(if cap=i+1 then some (⟨c,d,none⟩:Addr) else some ⟨c,d+(i+1)*2,none⟩)=some A∧Hid (∀ t u,moved[t]? = some u→w.drew.cell? (A.add t)=some u):=by
  by_cases h:cap=i+1
  ·refine ⟨⟨c,d,none⟩,by simp [h],fun t u hu => ?_⟩
   have h0:moved.length=0:=by rw [hml];omega
   rw [List.length_eq_zero_iff.1 h0] at hu
   simp at hu
  ·refine ⟨⟨c,d+(i+1)*2,none⟩,by simp [h],fun t u hu => ?_⟩
   have hb':w.drew.heap[c]? = some (.cells cur e (0,0)):=hb
   rw [Addr.add_lit]
   simp [World.cell?,hb',hm t u hu]
 have hl1:d+i*2+moved.length≤cur.toList.length:=by rw [hml,Array.length_toList];omega
 have happ : ∀ ty,(Builtin.append_ #[32,32] ty #[.slice (some ⟨c,d,none⟩) i cap,.slice (some A) (n-(i+1)) (cap-(i+1))]).run Tryz.prog w.drew = .ok (.slice (some ⟨c,d,none⟩) (i+(n-(i+1))) cap) (w.drew.setRow c (over cur.toList (d+i*2) moved).toArray):=fun ty =>
  qoo (w:=w.drew) Tryz.underlying32 hok Tryz.underlying32 (show w.drew.heap[c]? = _ from hb) hml (fun j v hj=>hsrc.out j v hj) h1 (by omega) (by show d+i*2+_≤_;rw [hml];omega)
 obtain ⟨W1,hW1⟩ : ∃ W1,W1=w.drew.setRow c (over cur.toList (d+i*2) moved).toArray:=⟨_,rfl⟩
 rw [← hW1] at happ
 have hb1:W1.heap[c]? = some (.cells (over cur.toList (d+i*2) moved).toArray e (0,0)):=by rw [hW1];exact setRow_same (show w.drew.heap[c]? = _ from hb) _
 have hcl : ∀ ty,(Builtin.clear_ #[32] ty #[.slice (some ⟨c,d+(n-1)*2,none⟩) 1 (cap-(n-1))]).run Tryz.prog W1 = .ok (.tuple #[]) (W1.setRow c (over (over cur.toList (d+i*2) moved).toArray.toList (d+(n-1)*2) (List.replicate 1 (zc (.pair (.int .i64) (.pair .str .unit)))).flatten).toArray):=fun ty =>
  qv9 Tryz.underlying32 hok (by omega) hb1 (by rw [List.size_toArray,qar hl1,Array.length_toList];show d+(n-1)*2+1*2≤_;omega)
 have hin:i+(n-(i+1))=n-1:=by omega
 rw [hin] at happ
 have hic:i≤cap:=by omega
 have hjc:i+1≤cap:=by omega
 have hn1:n-(n-1)=1:=by omega
 have hnc:¬ (cap=n-1):=by omega
 have hb1':(0:Int)≤(i:Int)+1:=by omega
 have hb2':(i:Int)+1≤(n:Int):=by omega
 have X:Aside (W1=w.drew.setRow c (over cur.toList (d+i*2) moved).toArray):=hW1
 clear hW1 hb1 hm hsrc
 go_enter Tryz.func133,Tryz.ntmps133
 go_wp2_with fail
 go_region_law_o (refine qtm rfl (.tmp 22) (.tmp 25) 32 32 rfl (.slice (some ⟨c,d,none⟩) i cap) (.slice (some A) (n-(i+1)) (cap-(i+1))) (by simp [Act.eval,Act.put]) (by simp [Act.eval,Act.put]) (happ _) ?_)
 go_wp2
 go_ret
 refine ⟨rfl,by rw [X.out];rfl,by rw [X.out];rfl,?_⟩
 rw [X.out,qrt (show w.drew.heap[c]? = _ from hb)]
 rfl
theorem qaoh {G:List (Nat×Obj)} : Sound Tryz.prog G 133 (deleteEn (.pair (.int .i64) (.pair .str .unit))) :=
 qw4 (by kernel_rfl) Tryz.func133 (by kernel_rfl) (by kernel_rfl) fun c d cap n i cur e moved w hb hcap hi hsz hml hm h1=>qanr c d cap n i cur e moved w hb hcap hi hsz hml hm h1
end Go.Proofs.YtjhdoneobdbeaaaGreatDoor
