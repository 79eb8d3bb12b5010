import Derived.Test.YtjhdoneobdbeaaaGreatDoorA3
import Derived.Shelf.Strconv.ParseUint10b32
import Derived.Shelf.Strconv.ParseUintEmpty
/- internal/strconv.ParseUint at base 16 and 32 bits, at any program that has it: what a text of hexadecimal digits gives. -/
namespace Go.Proofs
open Go.Shelf Go.RowKit
open Go.Tm (hexD hexM hexN parseHex)
variable {P : Program} {ρ : Ren}
def hexV (te:Nat):Option (Option Nat)→Value
 | none => .tuple #[.int .u64 0,.iface te (.int .i64 2)]
 | some none => .tuple #[.int .u64 4294967295,.iface te (.int .i64 1)]
 | some (some n) => .tuple #[.int .u64 (n:Int),.nilIface]
def lowB (c:Nat):Bool :=
 let x:=bits .or .u8 (c:Int) 32
 bif (decide (97≤c)&&decide (c≤102)) then decide (x=(c:Int)) else bif (decide (65≤c)&&decide (c≤70)) then decide (x=(c:Int)+32) else bif (decide (48≤c)&&decide (c≤57)) then true else decide (x<97)||decide (102<x)
theorem qaod:(List.range 256).all lowB=true:=by kernel_rfl
theorem qakn {c:Nat} (h:c<256):(97≤c→c≤102→bits .or .u8 (c:Int) 32=(c:Int))∧(65≤c→c≤70→bits .or .u8 (c:Int) 32=(c:Int)+32)∧(¬ (97≤c∧c≤102)→¬ (65≤c∧c≤70)→¬ (48≤c∧c≤57)→bits .or .u8 (c:Int) 32<97∨102<bits .or .u8 (c:Int) 32):=by
 have k:=List.all_eq_true.1 qaod c (List.mem_range.2 h)
 unfold lowB at k
 refine ⟨fun h1 h2 => ?_,fun h1 h2 => ?_,fun h1 h2 h3 => ?_⟩
 ·simpa [h1,h2] using k
 ·have:¬ 97≤c:=by omega
  simpa [h1,h2,this] using k
 ·have a1:(decide (97≤c)&&decide (c≤102))=false:=by
   cases e:(decide (97≤c)&&decide (c≤102)) with
   | false=>rfl
   | true=>simp at e;exact absurd e h1
  have a2:(decide (65≤c)&&decide (c≤70))=false:=by
   cases e:(decide (65≤c)&&decide (c≤70)) with
   | false=>rfl
   | true=>simp at e;exact absurd e h2
  have a3:(decide (48≤c)&&decide (c≤57))=false:=by
   cases e:(decide (48≤c)&&decide (c≤57)) with
   | false=>rfl
   | true=>simp at e;exact absurd e h3
  rw [a1,a2,a3] at k
  simpa using k
set_option maxHeartbeats 32000000 in
set_option maxRecDepth 100000 in
theorem qan6 (L:Lays.n287 P ρ) (t:ByteArray) (hne:t.size≠0) (hmax:t.size≤9223372036854775806) (w:World) :
  Calls P (ρ.f 287) #[.string t,.int .i64 16,.int .i64 32] w fun e w'=>e = .returned (hexV (ρ.t 167) (hexM 0 t.data.toList))∧w'=Lib.bytesWorld w (ρ.t 5) t:=by
 have mixed:=L.mixed
 have t9:=L.t9;have a9:=L.a9;have z9:=L.z9;have v9:=L.v9
 have t3:=L.t3;have a3:=L.a3;have z3:=L.z3;have v3:=L.v3
 have t53:=L.t53;have a53:=L.a53;have z53:=L.z53;have v53:=L.v53
 have t75:=L.t75;have a75:=L.a75;have z75:=L.z75;have v75:=L.v75
 have t4:=L.t4;have a4:=L.a4;have z4:=L.z4;have v4:=L.v4
 have t167:=L.t167;have a167:=L.a167;have z167:=L.z167;have v167:=L.v167
 have t5:=L.t5;have a5:=L.a5;have z5:=L.z5;have v5:=L.v5
 have t46:=L.t46;have a46:=L.a46;have z46:=L.z46;have v46:=L.v46
 have t37:=L.t37;have a37:=L.a37;have z37:=L.z37;have v37:=L.v37
 have t0:=L.t0;have a0:=L.a0;have z0:=L.z0;have v0:=L.v0
 have e321 : ∀ args w,(callFunc (ρ.f 321) args).run P w = .ok (.enter (ρ.f 321) args) w:=enters_of L.f321 (by kernel_rfl) rfl
 have hemp:t.toList.isEmpty=false:=by
  rw [← decide_eq_emptyBytes]
  exact decide_eq_false (fun h=>hne (by rw [h];rfl))
 have hcv:=Lib.run_convert_string_bytes (P:=P) w (ρ.t 9) (ρ.t 37) (ρ.t 5) t (u:=.string) L.t9 L.t37 L.t5
 have hB : ∀ j,j<t.size→(Lib.bytesWorld w (ρ.t 5) t).cell? ⟨w.heap.size,j,none⟩=some (.int .u8 (t.data.toList.getD j 0).toNat):=fun j hj=>Lib.bytesWorld_cell w (ρ.t 5) t j hj
 obtain ⟨W1,hW1⟩ : ∃ W1,W1=Lib.bytesWorld w (ρ.t 5) t:=⟨_,rfl⟩
 rw [← hW1] at hcv hB ⊢
 clear hW1
 obtain ⟨bs,hL⟩ : ∃ bs,bs=t.data.toList:=⟨_,rfl⟩
 have hLn:bs.length=t.size:=by rw [hL,Lib.size_eq]
 rw [← hL] at hB ⊢
 clear hL
 have hmv:IntKind.u64.wrap (IntKind.u64.wrap 4294967296-1)=4294967295:=by
  rw [IntKind.wrap_u64,IntKind.wrap_u64]
  decide
 go_enter L.f287,Body.n287_ntmps ρ
 go_wp2
 go_loop [12,13,101] (fun vu vn vi => ∃ (k acc:Nat) (a:Int),vu = .bool false∧vn = .int .u64 a∧vi = .int .i64 k∧k≤t.size∧Hid (a=(acc:Int)∧acc≤4294967295∧hexM 0 bs=hexM acc (bs.drop k)))
  (fun _ _ vi=>t.size-(intOf vi).toNat)
 case atStart=>exact ⟨0,0,0,rfl,rfl,rfl,by omega,rfl,by omega,rfl⟩
 case round =>
  obtain ⟨k,acc,a,rfl,rfl,rfl,hk,hh⟩:=hrel
  obtain ⟨ha,hacc,hdec⟩:=hh.out
  clear hh
  have a0:0≤a:=by omega
  have a1:a≤4294967295:=by omega
  by_cases hkn:k<t.size
  ·have hc:=hB k hkn
   have hdrop:bs.drop k=bs[k]'(by omega) :: bs.drop (k+1):=List.drop_eq_getElem_cons (by omega)
   have hget:bs.getD k 0=bs[k]'(by omega):=by simp [List.getD,List.getElem?_eq_getElem (show k<bs.length by omega)]
   rw [hdrop] at hdec
   rw [hget] at hc
   generalize bs[k]'(by omega)=c at hc hdec
   have hc256:c.toNat<256:=c.toNat_lt
   obtain ⟨lf1,lf2,lf3⟩:=qakn hc256
   clear hB hdrop hget
   by_cases hdig:48≤c.toNat∧c.toNat≤57
   ·obtain ⟨hd0,hd1⟩:=hdig
    have hD:hexD c=some (c.toNat-48):=by simp [hexD,hd0,hd1]
    clear lf1 lf2 lf3
    by_cases hov:4294967295<acc*16+(c.toNat-48)
    ·have hF:hexM acc (c :: bs.drop (k+1))=some none:=by simp [hexM,hD,hov]
     rw [hF] at hdec
     have iov:4294967295<a*16+((c.toNat:Int)-48):=by omega
     clear hacc hF hov ha hD
     go_wp2
     go_ret2
     exact ⟨rfl,rfl⟩
    ·have hF:hexM acc (c :: bs.drop (k+1))=hexM (acc*16+(c.toNat-48)) (bs.drop (k+1)):=by simp [hexM,hD,hov]
     have HN:Hid (a*16+((c.toNat:Int)-48)=((acc*16+(c.toNat-48):Nat):Int)∧acc*16+(c.toNat-48)≤4294967295∧hexM 0 bs=hexM (acc*16+(c.toNat-48)) (bs.drop (k+1))):=Lib.hid ⟨by omega,by omega,hdec.trans hF⟩
     have iov:a*16+((c.toNat:Int)-48)≤4294967295:=by omega
     clear hacc hF hov hdec ha hD
     go_wp2
     refine ⟨⟨k+1,acc*16+(c.toNat-48),a*16+((c.toNat:Int)-48),rfl,(by first | rfl | (congr 1;omega)),(by first | rfl | (congr 1;omega)),by omega,HN⟩,by simp [intOf];omega⟩
   ·by_cases hlet:(97≤c.toNat∧c.toNat≤102)∨(65≤c.toNat∧c.toNat≤70)
    ·
     obtain ⟨x,d,hx0,hx1,hxl,hD,hd⟩ : ∃ (x:Int) (d:Nat),97≤x∧x≤102∧bits .or .u8 (c.toNat:Int) 32=x∧hexD c=some d∧(d:Int)=x-97+10:=by
      rcases hlet with ⟨h1,h2⟩ | ⟨h1,h2⟩
      ·exact ⟨(c.toNat:Int),c.toNat-87,by omega,by omega,lf1 h1 h2,by unfold hexD;rw [if_neg (by omega),if_pos ⟨h1,h2⟩],by omega⟩
      ·exact ⟨(c.toNat:Int)+32,c.toNat-55,by omega,by omega,lf2 h1 h2,by unfold hexD;rw [if_neg (by omega),if_neg (by omega),if_pos ⟨h1,h2⟩],by omega⟩
     have hc58:65≤c.toNat:=by omega
     have hc95:c.toNat≠95:=by omega
     have hlow : ∀ W,Calls P (ρ.f 321) #[.int .u8 (c.toNat:Int)] W fun e w'=>e = .returned (.int .u8 x)∧w'=W:=fun W=>hxl▸Any.internal_strconv_lower { L with } (c.toNat:Int) W
     clear lf1 lf2 lf3 hlet hdig hxl
     by_cases hov:4294967295<acc*16+d
     ·have hF:hexM acc (c :: bs.drop (k+1))=some none:=by simp [hexM,hD,hov]
      rw [hF] at hdec
      have iov:4294967295<a*16+(x-97+10):=by omega
      clear hacc hF hov ha hD hd
      go_wp2_with (go_at_fn (ρ.f 321);refine (hlow _).mono ?_;rintro e w' ⟨rfl,rfl⟩)
      all_goals go_ret2
      all_goals first | exact ⟨rfl,rfl⟩ | exact ⟨by rw [hdec];rfl,rfl⟩
     ·have hF:hexM acc (c :: bs.drop (k+1))=hexM (acc*16+d) (bs.drop (k+1)):=by simp [hexM,hD,hov]
      have HN:Hid (a*16+(x-97+10)=((acc*16+d:Nat):Int)∧acc*16+d≤4294967295∧hexM 0 bs=hexM (acc*16+d) (bs.drop (k+1))):=Lib.hid ⟨by omega,by omega,hdec.trans hF⟩
      have iov:a*16+(x-97+10)≤4294967295:=by omega
      clear hacc hF hov hdec ha hD hd
      go_wp2_with (go_at_fn (ρ.f 321);refine (hlow _).mono ?_;rintro e w' ⟨rfl,rfl⟩)
      refine ⟨⟨k+1,acc*16+d,a*16+(x-97+10),rfl,(by first | rfl | (congr 1;omega)),(by first | rfl | (congr 1;omega)),by omega,HN⟩,by simp [intOf];omega⟩
    ·
     obtain ⟨x,hx0,hx1,hxn,hxl⟩ : ∃ x:Int,0≤x∧x≤255∧(x<97∨102<x)∧bits .or .u8 (c.toNat:Int) 32=x:=⟨_,bits_lo_u8 .or (c.toNat:Int) 32,bits_hi_u8 .or (c.toNat:Int) 32,lf3 (fun h=>hlet (.inl h)) (fun h=>hlet (.inr h)) hdig,rfl⟩
     have hD:hexD c=none:=by unfold hexD;rw [if_neg hdig,if_neg (fun h=>hlet (.inl h)),if_neg (fun h=>hlet (.inr h))]
     have hF:hexM acc (c :: bs.drop (k+1))=none:=by simp [hexM,hD]
     have hlow : ∀ W,Calls P (ρ.f 321) #[.int .u8 (c.toNat:Int)] W fun e w'=>e = .returned (.int .u8 x)∧w'=W:=fun W=>hxl▸Any.internal_strconv_lower { L with } (c.toNat:Int) W
     have hlow95:c.toNat=95 → ∀ W,Calls P (ρ.f 321) #[.int .u8 95] W fun e w'=>e = .returned (.int .u8 x)∧w'=W:=fun h W=>by
      have:=hlow W
      rw [h] at this
      exact this
     rw [hF] at hdec
     clear hacc hF ha hD lf1 lf2 lf3 hxl
     go_wp2_with (first | (go_at_fn (ρ.f 321);refine (hlow _).mono ?_;rintro e w' ⟨rfl,rfl⟩) | (go_at_fn (ρ.f 321);refine (hlow95 (by omega) _).mono ?_;rintro e w' ⟨rfl,rfl⟩))
     all_goals go_ret2
     all_goals first | exact ⟨rfl,rfl⟩ | exact ⟨by rw [hdec];rfl,rfl⟩
  ·have hkk:k=t.size:=by omega
   subst hkk
   have hF:hexM acc (bs.drop t.size)=some (some acc):=by rw [List.drop_eq_nil_of_le (by omega)];rfl
   rw [hF] at hdec
   subst ha
   clear hacc hF a0 a1
   go_wp2
   go_ret2
   exact ⟨rfl,rfl⟩
end Go.Proofs
