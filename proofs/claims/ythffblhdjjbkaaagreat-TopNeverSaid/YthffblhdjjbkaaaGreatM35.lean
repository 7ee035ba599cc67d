/- packout; packout.Writer.Step at a part that is no container.; packout.Writer.Step at a part that is no container.; packout.Writer.Step at a part that is no container.; packout.Writer.Step at the begin -/
import Derived.Test.YthffblhdjjbkaaaGreatM34
import Derived.Test.YthffblhdjjbkaaaGreatM32
set_option maxHeartbeats 100000000
set_option maxRecDepth 1000000
open Go.Lib (hid)
open Go.Proofs.Tryz
open Or (inl inr)
namespace Go.Proofs.YthffblhdjjbkaaaGreat
open Go.RowKit Go.Tru
def Ko (p:Ev) (w:World):Prop:=
 Calls prog 241 #[p.part] w fun e w'=>e= .returned (.tuple #[.string (bytesOf (aW p).1),.int .i64 (aW p).2])∧I [] w w'
theorem WH {p:Prop} (h:p:=by(repeat first|exact I.refl _ _|apply I.alloc|(refine I.setCell ?_ (inr (by simp)) _))):p:=h
theorem qA (w:World):Ko ar w:=by
 unfold Ko;rw[fU];go_enter func241,ntmps241;go_wp2_with fail
 go_ret2;exact⟨rfl,WH⟩
theorem qz (b:Bool) (w:World):Ko (aq b) w:=by
 unfold Ko;rw[ft];cases b;all_goals
  go_enter func241,ntmps241;go_wp2_with fail
  go_ret2;exact⟨rfl,WH⟩
theorem jI (m:Bool) (n:Int) (w:World):Calls prog 241 #[.iface 215 (.agg #[.bool m,.int .i64 n])] w fun e w'=>e= .returned (.tuple #[.string (bytesOf [192]),.int .i64 0])∧I [] w w':=by
 go_enter func241,ntmps241;go_wp2_with fail
 go_ret2;exact⟨rfl,WH⟩
theorem ZM (n:Nat) (h:n<32):bits .or .u64 160 (n:Int)=((160+n:Nat):Int):=by
 have kA: ∀n:Nat,n<32→bits .or .u64 160 (n:Int)=((160+n:Nat):Int):=by decide+kernel
 exact kA n h
theorem qB (s:ByteArray) (hs:s.size<32) (w:World):Ko (ah s) w:=by
 unfold Ko;have hp:aW (ah s)=(bf (160+s.size) 1++s.data.toList,0):=by show(((if s.size<32 then bf (160+s.size) 1 else _)++s.data.toList,0):List UInt8×Int)=_;rw[if_pos hs]
 rw[fr];obtain⟨S1,kD⟩: ∃S,bytesOf (bf (160+s.size) 1)=S:=⟨_,rfl⟩
 have dq:S1++s=bytesOf (bf (160+s.size) 1++s.data.toList):=by rw[←aZ,kD];congr 1
 have z1:S1.size=1:=by rw[←kD,an,bp]
 have HX:=hid (show bytesOf (aW (ah s)).1=S1++s∧(aW (ah s)).2=0 by rw[hp];exact⟨dq.symm,rfl⟩);have gq: ¬281474976710656<S1.size+s.size:=by omega
 have fD: ¬9223372036854775807<S1.size+s.size:=by omega
 have HB:=hid (j6 (160+s.size) 1 (by omega) (by omega));rw[kD] at HB;have Tg:=ZM s.size hs;have lx:(s.size:Int)<32:=by omega
 clear z1 kD dq hp hs;go_enter func241,ntmps241;go_wp2_with fail
 refine(HB.out _).mono ?_;rintro e w1 ⟨rfl,k1⟩;have KK:=hid (((I.refl [] w).alloc (.cells #[.bool false,.int .u64 0] 96)).trans k1);clear k1;go_wp2_with fail
 go_ret2;rw[HX.out.1,HX.out.2];exact⟨rfl,KK.out⟩
theorem sQ (g:Bool) (m:Nat) (hm:m<2147483648) (w:World):Ko (ay g m) w:=by
 unfold Ko;rw[fq];cases g with
 |true=>
  have HX:=hid (show aW (ay true m)=fc m from rfl);have HB:=hid (Lo m hm);go_enter func241,ntmps241;go_wp2_with fail
  refine(HB.out _).mono ?_;rintro e w1 ⟨rfl,k1⟩;have KK:=hid (((I.refl [] w).alloc (.cells #[.bool true,.int .u64 m] 96)).trans k1);clear k1;go_wp2_with fail
  go_ret2;rw[HX.out];exact⟨rfl,KK.out⟩
 |false=>
  by_cases h:(m:Int)<128
  ·have HX:=hid (show aW (ay false m)=(bf m 1,0) by show(if((m:Int)<128) then(bf ((m:Int)).toNat 1,(0:Int)) else _)=_;rw[if_pos h,Int.toNat_natCast])
   have HB:=hid (j6 m 1 (by omega) (by omega));go_enter func241,ntmps241;go_wp2_with fail
   refine(HB.out _).mono ?_;rintro e w1 ⟨rfl,k1⟩;have KK:=hid (((I.refl [] w).alloc (.cells #[.bool false,.int .u64 m] 96)).trans k1);clear k1;go_wp2_with fail
   go_ret2;rw[HX.out];exact⟨rfl,KK.out⟩
  ·have HX:=hid (show aW (ay false m)=(gC 204 [1,2,4,8] m,0) by show(if((m:Int)<128) then _ else(gC 204 [1,2,4,8] ((m:Int)).toNat,(0:Int)))=_;rw[if_neg h,Int.toNat_natCast])
   have HB:=hid (fun g W hg=>Ln 204 m g (by omega) (by omega) W hg);have aJ:=Has.aC (w.alloc (.cells #[.bool false,.int .u64 m] 96)) #[.int .i64 1,.int .i64 2,.int .i64 4,.int .i64 8] 3 (n:=w.heap.size+1) (by simp);have HN:=hid aJ;clear aJ;go_enter func241,ntmps241;go_wp2_with fail
   refine(HB.out _ _ HN.out).mono ?_;rintro e w1 ⟨rfl,k1⟩;have KK:=hid ((((I.refl [] w).alloc (.cells #[.bool false,.int .u64 m] 96)).alloc (.cells #[.int .i64 1,.int .i64 2,.int .i64 4,.int .i64 8] 3)).trans k1);clear k1;go_wp2_with fail
   go_ret2;rw[HX.out];exact⟨rfl,KK.out⟩
theorem WI (m:Bool) (n:Nat) (h:n<16):bits .or .u64 (if m then 128 else 144) (n:Int)=(((if m then(128:Nat) else 144)+n:Nat):Int):=by
 have kA: ∀m:Bool,∀n:Nat,n<16→bits .or .u64 (if m then 128 else 144) (n:Int)=(((if m then(128:Nat) else 144)+n:Nat):Int):=by decide+kernel
 exact kA m n h
theorem lF (m:Bool) (n:Nat) (hn:n<16) (w:World):Calls prog 242 #[.agg #[.bool m,.int .i64 n]] w fun e w'=>e= .returned (.tuple #[.string (bytesOf (cl m n).1),.int .i64 (cl m n).2])∧I [] w w':=by
 have HX:=hid (show cl m n=(bf ((if m then 128 else 144)+n) 1,0) by rw[cl,if_neg (by omega),if_pos (by omega),Int.toNat_natCast])
 have Tg:=WI m n hn;have HB:=hid (j6 ((if m then 128 else 144)+n) 1 (by split<;>omega) (by omega));have zG:IntKind.u64.wrap (n:Int)=n:=by rw[IntKind.wrap_u64];omega
 have h1: ¬ (4294967295:Int)<n:=by omega
 have h2:(n:Int)<16:=by omega
 clear hn;cases m;all_goals
  simp only[if_true,if_false,Bool.false_eq_true] at Tg HB HX;go_enter func242,ntmps242;go_wp2_with fail
  refine(HB.out _).mono ?_;rintro e w1 ⟨rfl,k1⟩;have KK:=hid (((I.refl [] w).alloc _).trans k1);clear k1 h1 h2;go_wp2_with fail
  go_ret2;rw[HX.out];exact⟨rfl,KK.out⟩
abbrev ff:=jd 170 301
abbrev dS:=Jv 170 301
open Go.K3 in
theorem C4 (cS:(aW ar).2=0) {w:World} {base b:Nat} {ov:Value} (h:ff w base b ov ⟨[],false⟩):Calls prog 238 #[.pointer (some ⟨b,0,none⟩),ar.part] w (dS w base b ov (aW ar).1 ⟨[],true⟩):=q18
open Go.K2 in
theorem C5 (y:Bool) (cS:(aW (aq y)).2=0) {w:World} {base b:Nat} {ov:Value} (h:ff w base b ov ⟨[],false⟩):Calls prog 238 #[.pointer (some ⟨b,0,none⟩),(aq y).part] w (dS w base b ov (aW (aq y)).1 ⟨[],true⟩):=q18
open Go.K0 in
theorem GN (y:Bool) (m:Nat) (hm:m<2147483648) (cS:(aW (ay y m)).2=0) {w:World} {base b:Nat} {ov:Value} (h:ff w base b ov ⟨[],false⟩):Calls prog 238 #[.pointer (some ⟨b,0,none⟩),(ay y m).part] w (dS w base b ov (aW (ay y m)).1 ⟨[],true⟩):=q18
open Go.K1 in
theorem C6 (s:ByteArray) (hs:s.size<32) (cS:(aW (ah s)).2=0) {w:World} {base b:Nat} {ov:Value} (h:ff w base b ov ⟨[],false⟩):Calls prog 238 #[.pointer (some ⟨b,0,none⟩),(ah s).part] w (dS w base b ov (aW (ah s)).1 ⟨[],true⟩):=q18
open Go.K17 in
theorem C7 (cS:(aW ar).2=0) {w:World} {base b:Nat} {ov:Value} {r:List af} {n q:Int} (hq:0≤q∧q≤1000000) (hr:r.length≤1000) (eP:af.filled ⟨false,n,q⟩=false) (h:ff w base b ov ⟨⟨false,n,q⟩::r,false⟩):Calls prog 238 #[.pointer (some ⟨b,0,none⟩),ar.part] w (dS w base b ov (aW ar).1 ⟨⟨false,n,q+1⟩::r,false⟩):=yt
open Go.K16 in
theorem C8 (y:Bool) (cS:(aW (aq y)).2=0) {w:World} {base b:Nat} {ov:Value} {r:List af} {n q:Int} (hq:0≤q∧q≤1000000) (hr:r.length≤1000) (eP:af.filled ⟨false,n,q⟩=false) (h:ff w base b ov ⟨⟨false,n,q⟩::r,false⟩):Calls prog 238 #[.pointer (some ⟨b,0,none⟩),(aq y).part] w (dS w base b ov (aW (aq y)).1 ⟨⟨false,n,q+1⟩::r,false⟩):=yt
open Go.K14 in
theorem GO (y:Bool) (m:Nat) (hm:m<2147483648) (cS:(aW (ay y m)).2=0) {w:World} {base b:Nat} {ov:Value} {r:List af} {n q:Int} (hq:0≤q∧q≤1000000) (hr:r.length≤1000) (eP:af.filled ⟨false,n,q⟩=false) (h:ff w base b ov ⟨⟨false,n,q⟩::r,false⟩):Calls prog 238 #[.pointer (some ⟨b,0,none⟩),(ay y m).part] w (dS w base b ov (aW (ay y m)).1 ⟨⟨false,n,q+1⟩::r,false⟩):=yt
open Go.K15 in
theorem Da (s:ByteArray) (hs:s.size<32) (cS:(aW (ah s)).2=0) {w:World} {base b:Nat} {ov:Value} {r:List af} {n q:Int} (hq:0≤q∧q≤1000000) (hr:r.length≤1000) (eP:af.filled ⟨false,n,q⟩=false) (h:ff w base b ov ⟨⟨false,n,q⟩::r,false⟩):Calls prog 238 #[.pointer (some ⟨b,0,none⟩),(ah s).part] w (dS w base b ov (aW (ah s)).1 ⟨⟨false,n,q+1⟩::r,false⟩):=yt
open Go.K9 in
theorem Db (cS:(aW ar).2=0) {w:World} {base b:Nat} {ov:Value} {r:List af} {n q:Int} (hq:0≤q∧q≤1000000) (hr:r.length≤1000) (eP:af.filled ⟨true,n,q⟩=false) (jy:af.aj ⟨true,n,q⟩=true) (h:ff w base b ov ⟨⟨true,n,q⟩::r,false⟩):Calls prog 238 #[.pointer (some ⟨b,0,none⟩),ar.part] w (dS w base b ov (aW ar).1 ⟨⟨true,n,q+1⟩::r,false⟩):=yt
open Go.K8 in
theorem Dc (y:Bool) (cS:(aW (aq y)).2=0) {w:World} {base b:Nat} {ov:Value} {r:List af} {n q:Int} (hq:0≤q∧q≤1000000) (hr:r.length≤1000) (eP:af.filled ⟨true,n,q⟩=false) (jy:af.aj ⟨true,n,q⟩=true) (h:ff w base b ov ⟨⟨true,n,q⟩::r,false⟩):Calls prog 238 #[.pointer (some ⟨b,0,none⟩),(aq y).part] w (dS w base b ov (aW (aq y)).1 ⟨⟨true,n,q+1⟩::r,false⟩):=yt
open Go.K5 in
theorem GP (y:Bool) (m:Nat) (hm:m<2147483648) (cS:(aW (ay y m)).2=0) {w:World} {base b:Nat} {ov:Value} {r:List af} {n q:Int} (hq:0≤q∧q≤1000000) (hr:r.length≤1000) (eP:af.filled ⟨true,n,q⟩=false) (jy:af.aj ⟨true,n,q⟩=true) (h:ff w base b ov ⟨⟨true,n,q⟩::r,false⟩):Calls prog 238 #[.pointer (some ⟨b,0,none⟩),(ay y m).part] w (dS w base b ov (aW (ay y m)).1 ⟨⟨true,n,q+1⟩::r,false⟩):=yt
open Go.K6 in
theorem Dd (s:ByteArray) (hs:s.size<32) (cS:(aW (ah s)).2=0) {w:World} {base b:Nat} {ov:Value} {r:List af} {n q:Int} (hq:0≤q∧q≤1000000) (hr:r.length≤1000) (eP:af.filled ⟨true,n,q⟩=false) (jy:af.aj ⟨true,n,q⟩=true) (h:ff w base b ov ⟨⟨true,n,q⟩::r,false⟩):Calls prog 238 #[.pointer (some ⟨b,0,none⟩),(ah s).part] w (dS w base b ov (aW (ah s)).1 ⟨⟨true,n,q+1⟩::r,false⟩):=yt
open Go.K7 in
theorem De (s:ByteArray) (hs:s.size<32) (cS:(aW (ah s)).2=0) {w:World} {base b:Nat} {ov:Value} {r:List af} {n q:Int} (hq:0≤q∧q≤1000000) (hr:r.length≤1000) (eP:af.filled ⟨true,n,q⟩=false) (jy:af.aj ⟨true,n,q⟩=false) (h:ff w base b ov ⟨⟨true,n,q⟩::r,false⟩):Calls prog 238 #[.pointer (some ⟨b,0,none⟩),(ah s).part] w (dS w base b ov (aW (ah s)).1 ⟨⟨true,n,q+1⟩::r,false⟩):=yt
open Go.K4 in
theorem tR (n2:Nat) (hn:n2<16) {w:World} {base b:Nat} {ov:Value} (h:ff w base b ov ⟨[],false⟩) (ak:base≤w.heap.size):Calls prog 238 #[.pointer (some ⟨b,0,none⟩),(aN n2).part] w (dS w base b ov (cl false n2).1 ⟨⟨false,n2,0⟩::[],false⟩):=q3
open Go.K5 in
theorem tS (n2:Nat) (hn:n2<16) {w:World} {base b:Nat} {ov:Value} (h:ff w base b ov ⟨[],false⟩) (ak:base≤w.heap.size):Calls prog 238 #[.pointer (some ⟨b,0,none⟩),(aO n2).part] w (dS w base b ov (cl true n2).1 ⟨⟨true,n2,0⟩::[],false⟩):=q3
open Go.K6 in
theorem tT (n2:Nat) (hn:n2<16) {w:World} {base b:Nat} {ov:Value} {r:List af} {n q:Int} (hq:0≤q∧q≤1000000) (hr:r.length≤1000) (eP:af.filled ⟨false,n,q⟩=false) (h:ff w base b ov ⟨⟨false,n,q⟩::r,false⟩) (ak:base≤w.heap.size):Calls prog 238 #[.pointer (some ⟨b,0,none⟩),(aN n2).part] w (dS w base b ov (cl false n2).1 ⟨⟨false,n2,0⟩::⟨false,n,q+1⟩::r,false⟩):=q1
open Go.K7 in
theorem tU (n2:Nat) (hn:n2<16) {w:World} {base b:Nat} {ov:Value} {r:List af} {n q:Int} (hq:0≤q∧q≤1000000) (hr:r.length≤1000) (eP:af.filled ⟨false,n,q⟩=false) (h:ff w base b ov ⟨⟨false,n,q⟩::r,false⟩) (ak:base≤w.heap.size):Calls prog 238 #[.pointer (some ⟨b,0,none⟩),(aO n2).part] w (dS w base b ov (cl true n2).1 ⟨⟨true,n2,0⟩::⟨false,n,q+1⟩::r,false⟩):=q1
open Go.K4 in
theorem tV (n2:Nat) (hn:n2<16) {w:World} {base b:Nat} {ov:Value} {r:List af} {n q:Int} (hq:0≤q∧q≤1000000) (hr:r.length≤1000) (eP:af.filled ⟨true,n,q⟩=false) (jy:af.aj ⟨true,n,q⟩=true) (h:ff w base b ov ⟨⟨true,n,q⟩::r,false⟩) (ak:base≤w.heap.size):Calls prog 238 #[.pointer (some ⟨b,0,none⟩),(aN n2).part] w (dS w base b ov (cl false n2).1 ⟨⟨false,n2,0⟩::⟨true,n,q+1⟩::r,false⟩):=q1
open Go.K5 in
theorem tW (n2:Nat) (hn:n2<16) {w:World} {base b:Nat} {ov:Value} {r:List af} {n q:Int} (hq:0≤q∧q≤1000000) (hr:r.length≤1000) (eP:af.filled ⟨true,n,q⟩=false) (jy:af.aj ⟨true,n,q⟩=true) (h:ff w base b ov ⟨⟨true,n,q⟩::r,false⟩) (ak:base≤w.heap.size):Calls prog 238 #[.pointer (some ⟨b,0,none⟩),(aO n2).part] w (dS w base b ov (cl true n2).1 ⟨⟨true,n2,0⟩::⟨true,n,q+1⟩::r,false⟩):=q1
open Go.K18 in
theorem WJ {m:Bool} {w:World} {base b:Nat} {ov:Value} {r:List af} {n q:Int} (hq:0≤q∧q≤1000000) (hr:r.length≤1000) (eP:af.filled ⟨m,n,q⟩=true) (h:ff w base b ov ⟨⟨m,n,q⟩::r,false⟩):Calls prog 238 #[.pointer (some ⟨b,0,none⟩),aL.part] w (dS w base b ov [] ⟨r,decide (r= [])⟩):=yt
theorem zR {w:World} {base b:Nat} {ov:Value} {st:Wr} (dT:(bC st ar).2.1=0) (ir: ∀c r,st.open_=c::r→r.length≤1000∧0≤c.count∧(0≤c.parts∧c.parts≤1000000)) (h:ff w base b ov st):Calls prog 238 #[.pointer (some ⟨b,0,none⟩),ar.part] w (dS w base b ov (bC st ar).1 (bC st ar).2.2):=by
 have hd:=lU dT;obtain⟨o,d⟩:=st;simp only at hd;subst hd;cases o with
 |nil=>obtain⟨cS,he⟩:=qR (by simp[ar]) (by simp[ar]) dT;rw[he];exact C4 cS h
 |cons c r=>
  obtain⟨hr,nN,hq⟩:=ir c r rfl;obtain⟨hf,hk,cS,he⟩:=qS (by simp[ar]) (by simp[ar]) dT;rw[he];obtain⟨m2,n,q⟩:=c;cases m2 with
  |false=>exact C7 cS hq hr hf h
  |true=>
   cases hb:af.aj ⟨true,n,q⟩ with
   |true=>exact Db cS hq hr hf hb h
   |false=>exact absurd (hk rfl hb) (by simp[ar])
theorem zS (y:Bool) {w:World} {base b:Nat} {ov:Value} {st:Wr} (dT:(bC st (aq y)).2.1=0) (ir: ∀c r,st.open_=c::r→r.length≤1000∧0≤c.count∧(0≤c.parts∧c.parts≤1000000)) (h:ff w base b ov st):Calls prog 238 #[.pointer (some ⟨b,0,none⟩),(aq y).part] w (dS w base b ov (bC st (aq y)).1 (bC st (aq y)).2.2):=by
 have hd:=lU dT;obtain⟨o,d⟩:=st;simp only at hd;subst hd;cases o with
 |nil=>obtain⟨cS,he⟩:=qR (by simp[aq]) (by simp[aq]) dT;rw[he];exact C5 y cS h
 |cons c r=>
  obtain⟨hr,nN,hq⟩:=ir c r rfl;obtain⟨hf,hk,cS,he⟩:=qS (by simp[aq]) (by simp[aq]) dT;rw[he];obtain⟨m2,n,q⟩:=c;cases m2 with
  |false=>exact C8 y cS hq hr hf h
  |true=>
   cases hb:af.aj ⟨true,n,q⟩ with
   |true=>exact Dc y cS hq hr hf hb h
   |false=>exact absurd (hk rfl hb) (by simp[aq])
theorem Dh (y:Bool) (m:Nat) (hm:m<2147483648) {w:World} {base b:Nat} {ov:Value} {st:Wr} (dT:(bC st (ay y m)).2.1=0) (ir: ∀c r,st.open_=c::r→r.length≤1000∧0≤c.count∧(0≤c.parts∧c.parts≤1000000)) (h:ff w base b ov st):Calls prog 238 #[.pointer (some ⟨b,0,none⟩),(ay y m).part] w (dS w base b ov (bC st (ay y m)).1 (bC st (ay y m)).2.2):=by
 have hd:=lU dT;obtain⟨o,d⟩:=st;simp only at hd;subst hd;cases o with
 |nil=>obtain⟨cS,he⟩:=qR (by simp[ay]) (by simp[ay]) dT;rw[he];exact GN y m hm cS h
 |cons c r=>
  obtain⟨hr,nN,hq⟩:=ir c r rfl;obtain⟨hf,hk,cS,he⟩:=qS (by simp[ay]) (by simp[ay]) dT;rw[he];obtain⟨m2,n,q⟩:=c;cases m2 with
  |false=>exact GO y m hm cS hq hr hf h
  |true=>
   cases hb:af.aj ⟨true,n,q⟩ with
   |true=>exact GP y m hm cS hq hr hf hb h
   |false=>exact absurd (hk rfl hb) (by simp[ay])
theorem zT (s:ByteArray) (hs:s.size<32) {w:World} {base b:Nat} {ov:Value} {st:Wr} (dT:(bC st (ah s)).2.1=0) (ir: ∀c r,st.open_=c::r→r.length≤1000∧0≤c.count∧(0≤c.parts∧c.parts≤1000000)) (h:ff w base b ov st):Calls prog 238 #[.pointer (some ⟨b,0,none⟩),(ah s).part] w (dS w base b ov (bC st (ah s)).1 (bC st (ah s)).2.2):=by
 have hd:=lU dT;obtain⟨o,d⟩:=st;simp only at hd;subst hd;cases o with
 |nil=>obtain⟨cS,he⟩:=qR (by simp[ah]) (by simp[ah]) dT;rw[he];exact C6 s hs cS h
 |cons c r=>
  obtain⟨hr,nN,hq⟩:=ir c r rfl;obtain⟨hf,hk,cS,he⟩:=qS (by simp[ah]) (by simp[ah]) dT;rw[he];obtain⟨m2,n,q⟩:=c;cases m2 with
  |false=>exact Da s hs cS hq hr hf h
  |true=>
   cases hb:af.aj ⟨true,n,q⟩ with
   |true=>exact Dd s hs cS hq hr hf hb h
   |false=>exact De s hs cS hq hr hf hb h
theorem zU (n2:Nat) (hn:n2<16) {w:World} {base b:Nat} {ov:Value} {st:Wr} (dT:(bC st (aN n2)).2.1=0) (ir: ∀c r,st.open_=c::r→r.length≤1000∧0≤c.count∧(0≤c.parts∧c.parts≤1000000)) (h:ff w base b ov st) (ak:base≤w.heap.size):Calls prog 238 #[.pointer (some ⟨b,0,none⟩),(aN n2).part] w (dS w base b ov (bC st (aN n2)).1 (bC st (aN n2)).2.2):=by
 have hd:=lU dT;obtain⟨o,d⟩:=st;simp only at hd;subst hd;have hp:(aN n2)=aX false n2:=rfl;cases o with
 |nil=>have he:=CU hp hn;rw[he];exact tR n2 hn h ak
 |cons c r=>
  obtain⟨hr,nN,hq⟩:=ir c r rfl;obtain⟨hf,hk,he⟩:=CV hp hn dT;rw[he];obtain⟨m2,n,q⟩:=c;cases m2 with
  |false=>exact tT n2 hn hq hr hf h ak
  |true=>exact tV n2 hn hq hr hf (hk rfl) h ak
theorem zV (n2:Nat) (hn:n2<16) {w:World} {base b:Nat} {ov:Value} {st:Wr} (dT:(bC st (aO n2)).2.1=0) (ir: ∀c r,st.open_=c::r→r.length≤1000∧0≤c.count∧(0≤c.parts∧c.parts≤1000000)) (h:ff w base b ov st) (ak:base≤w.heap.size):Calls prog 238 #[.pointer (some ⟨b,0,none⟩),(aO n2).part] w (dS w base b ov (bC st (aO n2)).1 (bC st (aO n2)).2.2):=by
 have hd:=lU dT;obtain⟨o,d⟩:=st;simp only at hd;subst hd;have hp:(aO n2)=aX true n2:=rfl;cases o with
 |nil=>have he:=CU hp hn;rw[he];exact tS n2 hn h ak
 |cons c r=>
  obtain⟨hr,nN,hq⟩:=ir c r rfl;obtain⟨hf,hk,he⟩:=CV hp hn dT;rw[he];obtain⟨m2,n,q⟩:=c;cases m2 with
  |false=>exact tU n2 hn hq hr hf h ak
  |true=>exact tW n2 hn hq hr hf (hk rfl) h ak
theorem GQ {v:Ev} (hv:CM v=true) {w:World} {base b:Nat} {ov:Value} {st:Wr} (dT:(bC st v).2.1=0) (ir: ∀c r,st.open_=c::r→r.length≤1000∧0≤c.count∧(0≤c.parts∧c.parts≤1000000)) (h:ff w base b ov st) (ak:base≤w.heap.size):Calls prog 238 #[.pointer (some ⟨b,0,none⟩),v.part] w (dS w base b ov (bC st v).1 (bC st v).2.2):=by
 rcases sk hv with rfl|⟨y,rfl⟩|⟨y,m,hm,rfl⟩|⟨s,hs,hu,rfl⟩|⟨n,hn,rfl⟩|⟨n,hn,rfl⟩|rfl
 ·exact zR dT ir h
 ·exact zS y dT ir h
 ·exact Dh y m hm dT ir h
 ·exact zT s hs dT ir h
 ·exact zU n hn dT ir h ak
 ·exact zV n hn dT ir h ak
 ·have hd:=lU dT;obtain⟨c,r,ho,hf,he⟩:=Ta dT;obtain⟨hr,nN,hq⟩:=ir c r ho;rw[he hd];obtain⟨o,d⟩:=st;simp only at hd ho;subst hd ho;exact WJ hq hr hf h
theorem ux (x:Nat):bf x 1= [UInt8.ofNat x]:=by simp only[bf,Nat.pow_zero,Nat.div_one,List.cons.injEq,and_true];apply UInt8.toNat_inj.1;rw[UInt8.toNat_ofNat',UInt8.toNat_ofNat',Nat.mod_mod_of_dvd _ (by decide)]
theorem Lp (M:Nat) (h:M<8):bits .and .i64 (M:Int) 7=(M:Int):=by
 have kA: ∀M:Nat,M<8→bits .and .i64 (M:Int) 7=(M:Int):=by decide+kernel
 exact kA M h
theorem uy (M v:Nat) (h:M<8) (hv:v<32):bits .or .u64 ((M:Int)*32) (v:Int)=((32*M+v:Nat):Int):=by
 have kA: ∀M:Nat,M<8→∀v:Nat,v<32→bits .or .u64 ((M:Int)*32) (v:Int)=((32*M+v:Nat):Int):=by decide+kernel
 exact kA M h v hv
theorem iN (M v:Nat) (hM:M<8) (hv:v<4294967296) (w:World):Calls prog 236 #[.int .i64 M,.int .u64 v] w fun e w'=>e= .returned (.string (bytesOf (aU M v)))∧I [] w w':=by
 have HB:=hid (fun(a n:Nat) (h1:a≤18446744073709551615) (h2:1≤n∧n≤8) W=>j6 a n h1 h2 W);have hand:=Lp M hM;have zG:IntKind.u64.wrap (M:Int)=M:=by rw[IntKind.wrap_u64];omega
 by_cases h1:(v:Int)<24
 ·have hR:=hid (show aU M v=bf (32*M+v) 1 by rw[aU,if_pos (by omega),ux]);have Tg:=uy M v hM (by omega);go_enter func236,ntmps236;go_wp2_with fail
  refine(HB.out (32*M+v) 1 (by omega) (by omega) _).mono ?_;rintro e w1 ⟨rfl,k1⟩;have KK:=hid k1;clear k1 hv hM;go_wp2_with fail
  go_ret;rw[hR.out];exact⟨rfl,KK.out⟩
 ·by_cases h2:(v:Int)<256
  ·have hR:=hid (show aU M v=bf (32*M+24) 1++bf v 1 by rw[aU,if_neg (by omega),if_pos (by omega),ux (32*M+24)];rfl);obtain⟨S1,kD⟩: ∃S,bytesOf (bf (32*M+24) 1)=S:=⟨_,rfl⟩
   obtain⟨S2,iL⟩: ∃S,bytesOf (bf v 1)=S:=⟨_,rfl⟩
   have z1:S1.size=1:=by rw[←kD,an,bp]
   have z2:S2.size=1:=by rw[←iL,an,bp]
   have gq: ¬281474976710656<S1.size+S2.size:=by omega
   have fD: ¬9223372036854775807<S1.size+S2.size:=by omega
   have dq:=hid (aZ (bf (32*M+24) 1) (bf v 1));rw[kD,iL] at dq;have rF:=hid (fun W=>HB.out (32*M+24) 1 (by omega) (by omega) W);have sS:=hid (fun W=>HB.out v 1 (by omega) (by omega) W);rw[kD] at rF;rw[iL] at sS;have Tg:bits .or .u64 ((M:Int)*32) 24=32*M+24:=uy M 24 hM (by omega);clear kD iL z1 z2;go_enter func236,ntmps236;go_wp2_with fail
   refine(rF.out _).mono ?_;rintro e w1 ⟨rfl,k1⟩;clear hv hM;go_wp2_with fail
   refine(sS.out _).mono ?_;rintro e w2 ⟨rfl,k2⟩;have KK:=hid (k1.trans k2);clear k1 k2;go_wp2_with fail
   go_ret;rw[hR.out];exact⟨by rw[←dq.out];rfl,KK.out⟩
  ·by_cases h3:(v:Int)<65536
   ·have hR:=hid (show aU M v=bf (32*M+25) 1++bf v 2 by rw[aU,if_neg (by omega),if_neg (by omega),if_pos (by omega),ux (32*M+25)];rfl);obtain⟨S1,kD⟩: ∃S,bytesOf (bf (32*M+25) 1)=S:=⟨_,rfl⟩
    obtain⟨S2,iL⟩: ∃S,bytesOf (bf v 2)=S:=⟨_,rfl⟩
    have z1:S1.size=1:=by rw[←kD,an,bp]
    have z2:S2.size=2:=by rw[←iL,an,bp]
    have gq: ¬281474976710656<S1.size+S2.size:=by omega
    have fD: ¬9223372036854775807<S1.size+S2.size:=by omega
    have dq:=hid (aZ (bf (32*M+25) 1) (bf v 2));rw[kD,iL] at dq;have rF:=hid (fun W=>HB.out (32*M+25) 1 (by omega) (by omega) W);have sS:=hid (fun W=>HB.out v 2 (by omega) (by omega) W);rw[kD] at rF;rw[iL] at sS;have Tg:bits .or .u64 ((M:Int)*32) 25=32*M+25:=uy M 25 hM (by omega);clear kD iL z1 z2;go_enter func236,ntmps236;go_wp2_with fail
    refine(rF.out _).mono ?_;rintro e w1 ⟨rfl,k1⟩;clear hv hM;go_wp2_with fail
    refine(sS.out _).mono ?_;rintro e w2 ⟨rfl,k2⟩;have KK:=hid (k1.trans k2);clear k1 k2;go_wp2_with fail
    go_ret;rw[hR.out];exact⟨by rw[←dq.out];rfl,KK.out⟩
   ·have hR:=hid (show aU M v=bf (32*M+26) 1++bf v 4 by rw[aU,if_neg (by omega),if_neg (by omega),if_neg (by omega),if_pos (by omega),ux (32*M+26)];rfl);have h4:(v:Int)<4294967296:=by omega
    obtain⟨S1,kD⟩: ∃S,bytesOf (bf (32*M+26) 1)=S:=⟨_,rfl⟩
    obtain⟨S2,iL⟩: ∃S,bytesOf (bf v 4)=S:=⟨_,rfl⟩
    have z1:S1.size=1:=by rw[←kD,an,bp]
    have z2:S2.size=4:=by rw[←iL,an,bp]
    have gq: ¬281474976710656<S1.size+S2.size:=by omega
    have fD: ¬9223372036854775807<S1.size+S2.size:=by omega
    have dq:=hid (aZ (bf (32*M+26) 1) (bf v 4));rw[kD,iL] at dq;have rF:=hid (fun W=>HB.out (32*M+26) 1 (by omega) (by omega) W);have sS:=hid (fun W=>HB.out v 4 (by omega) (by omega) W);rw[kD] at rF;rw[iL] at sS;have Tg:bits .or .u64 ((M:Int)*32) 26=32*M+26:=uy M 26 hM (by omega);clear kD iL z1 z2;go_enter func236,ntmps236;go_wp2_with fail
    refine(rF.out _).mono ?_;rintro e w1 ⟨rfl,k1⟩;clear hv hM;go_wp2_with fail
    refine(sS.out _).mono ?_;rintro e w2 ⟨rfl,k2⟩;have KK:=hid (k1.trans k2);clear k1 k2;go_wp2_with fail
    go_ret;rw[hR.out];exact⟨by rw[←dq.out];rfl,KK.out⟩
def Jd (p:Ev) (w:World):Prop:=
 Calls prog 235 #[p.part] w fun e w'=>e= .returned (.string (bytesOf (bZ p)))∧I [] w w'
theorem ZN {p:Prop} (h:p:=by(repeat first|exact I.refl _ _|apply I.alloc|(refine I.setCell ?_ (inr (by simp)) _))):p:=h
theorem nb (w:World):Jd ar w:=by
 unfold Jd;rw[fU];go_enter func235,ntmps235;go_wp2_with fail
 go_ret;exact⟨rfl,ZN⟩
theorem na (b:Bool) (w:World):Jd (aq b) w:=by
 unfold Jd;rw[ft];cases b;all_goals
  go_enter func235,ntmps235;go_wp2_with fail
  go_ret;exact⟨rfl,ZN⟩
theorem kv (s:ByteArray) (hs:s.size<32) (w:World):Jd (ah s) w:=by
 unfold Jd;have hp:bZ (ah s)=aU 3 s.size++s.data.toList:=rfl;rw[fr];obtain⟨S1,kD⟩: ∃S,bytesOf (aU 3 s.size)=S:=⟨_,rfl⟩
 have dq:S1++s=bytesOf (aU 3 s.size++s.data.toList):=by rw[←aZ,kD];congr 1
 have z1:S1.size≤9:=by rw[←kD,an];exact(dd 3 s.size).2
 have HX:=hid (show bytesOf (bZ (ah s))=S1++s by rw[hp];exact dq.symm);have gq: ¬281474976710656<S1.size+s.size:=by omega
 have fD: ¬9223372036854775807<S1.size+s.size:=by omega
 have HB:=hid (iN 3 s.size (by omega) (by omega));rw[kD] at HB;have lx:(s.size:Int)<32:=by omega
 clear z1 kD dq hp hs;go_enter func235,ntmps235;go_wp2_with fail
 refine(HB.out _).mono ?_;rintro e w1 ⟨rfl,k1⟩;have KK:=hid (((I.refl [] w).alloc (.cells #[.bool false,.int .u64 0] 96)).trans k1);clear k1;go_wp2_with fail
 go_ret;rw[HX.out];exact⟨rfl,KK.out⟩
theorem nR (g:Bool) (m:Nat) (hm:m<2147483648) (w:World):Jd (ay g m) w:=by
 unfold Jd;have HX:=hid (show bZ (ay g m)=aU (if g then 1 else 0) m by show aU _ ((m:Int)).toNat=_;rw[Int.toNat_natCast];rfl)
 rw[fq];cases g with
 |false=>
  simp only[if_false,Bool.false_eq_true] at HX;have HB:=hid (iN 0 m (by omega) (by omega));go_enter func235,ntmps235;go_wp2_with fail
  refine(HB.out _).mono ?_;rintro e w1 ⟨rfl,k1⟩;have KK:=hid (((I.refl [] w).alloc (.cells #[.bool false,.int .u64 m] 96)).trans k1);clear k1;go_wp2_with fail
  go_ret;rw[HX.out];exact⟨rfl,KK.out⟩
 |true=>
  simp only[if_true] at HX;have HB:=hid (iN 1 m (by omega) (by omega));go_enter func235,ntmps235;go_wp2_with fail
  refine(HB.out _).mono ?_;rintro e w1 ⟨rfl,k1⟩;have KK:=hid (((I.refl [] w).alloc (.cells #[.bool true,.int .u64 m] 96)).trans k1);clear k1;go_wp2_with fail
  go_ret;rw[HX.out];exact⟨rfl,KK.out⟩
abbrev eR:=jd 166 299
abbrev dL:=Jv 166 299
open Go.K3 in
theorem Di {w:World} {base b:Nat} {ov:Value} (h:eR w base b ov ⟨[],false⟩):Calls prog 231 #[.pointer (some ⟨b,0,none⟩),ar.part] w (dL w base b ov (bZ ar) ⟨[],true⟩):=q19
open Go.K2 in
theorem Dj (y:Bool) {w:World} {base b:Nat} {ov:Value} (h:eR w base b ov ⟨[],false⟩):Calls prog 231 #[.pointer (some ⟨b,0,none⟩),(aq y).part] w (dL w base b ov (bZ (aq y)) ⟨[],true⟩):=q19
open Go.K0 in
theorem GR (y:Bool) (m:Nat) (hm:m<2147483648) {w:World} {base b:Nat} {ov:Value} (h:eR w base b ov ⟨[],false⟩):Calls prog 231 #[.pointer (some ⟨b,0,none⟩),(ay y m).part] w (dL w base b ov (bZ (ay y m)) ⟨[],true⟩):=q19
open Go.K1 in
theorem Dk (s:ByteArray) (hs:s.size<32) {w:World} {base b:Nat} {ov:Value} (h:eR w base b ov ⟨[],false⟩):Calls prog 231 #[.pointer (some ⟨b,0,none⟩),(ah s).part] w (dL w base b ov (bZ (ah s)) ⟨[],true⟩):=q19
open Go.K13 in
theorem Dl {w:World} {base b:Nat} {ov:Value} {r:List af} {n q:Int} (hq:0≤q∧q≤1000000) (hr:r.length≤1000) (eP:af.filled ⟨false,n,q⟩=false) (h:eR w base b ov ⟨⟨false,n,q⟩::r,false⟩):Calls prog 231 #[.pointer (some ⟨b,0,none⟩),ar.part] w (dL w base b ov (bZ ar) ⟨⟨false,n,q+1⟩::r,false⟩):=yt
open Go.K12 in
theorem Dm (y:Bool) {w:World} {base b:Nat} {ov:Value} {r:List af} {n q:Int} (hq:0≤q∧q≤1000000) (hr:r.length≤1000) (eP:af.filled ⟨false,n,q⟩=false) (h:eR w base b ov ⟨⟨false,n,q⟩::r,false⟩):Calls prog 231 #[.pointer (some ⟨b,0,none⟩),(aq y).part] w (dL w base b ov (bZ (aq y)) ⟨⟨false,n,q+1⟩::r,false⟩):=yt
open Go.K10 in
theorem GS (y:Bool) (m:Nat) (hm:m<2147483648) {w:World} {base b:Nat} {ov:Value} {r:List af} {n q:Int} (hq:0≤q∧q≤1000000) (hr:r.length≤1000) (eP:af.filled ⟨false,n,q⟩=false) (h:eR w base b ov ⟨⟨false,n,q⟩::r,false⟩):Calls prog 231 #[.pointer (some ⟨b,0,none⟩),(ay y m).part] w (dL w base b ov (bZ (ay y m)) ⟨⟨false,n,q+1⟩::r,false⟩):=yt
open Go.K11 in
theorem Dn (s:ByteArray) (hs:s.size<32) {w:World} {base b:Nat} {ov:Value} {r:List af} {n q:Int} (hq:0≤q∧q≤1000000) (hr:r.length≤1000) (eP:af.filled ⟨false,n,q⟩=false) (h:eR w base b ov ⟨⟨false,n,q⟩::r,false⟩):Calls prog 231 #[.pointer (some ⟨b,0,none⟩),(ah s).part] w (dL w base b ov (bZ (ah s)) ⟨⟨false,n,q+1⟩::r,false⟩):=yt
open Go.K4 in
theorem Dp {w:World} {base b:Nat} {ov:Value} {r:List af} {n q:Int} (hq:0≤q∧q≤1000000) (hr:r.length≤1000) (eP:af.filled ⟨true,n,q⟩=false) (jy:af.aj ⟨true,n,q⟩=true) (h:eR w base b ov ⟨⟨true,n,q⟩::r,false⟩):Calls prog 231 #[.pointer (some ⟨b,0,none⟩),ar.part] w (dL w base b ov (bZ ar) ⟨⟨true,n,q+1⟩::r,false⟩):=yt
open Go.K3 in
theorem Dq (y:Bool) {w:World} {base b:Nat} {ov:Value} {r:List af} {n q:Int} (hq:0≤q∧q≤1000000) (hr:r.length≤1000) (eP:af.filled ⟨true,n,q⟩=false) (jy:af.aj ⟨true,n,q⟩=true) (h:eR w base b ov ⟨⟨true,n,q⟩::r,false⟩):Calls prog 231 #[.pointer (some ⟨b,0,none⟩),(aq y).part] w (dL w base b ov (bZ (aq y)) ⟨⟨true,n,q+1⟩::r,false⟩):=yt
open Go.K0 in
theorem GU (y:Bool) (m:Nat) (hm:m<2147483648) {w:World} {base b:Nat} {ov:Value} {r:List af} {n q:Int} (hq:0≤q∧q≤1000000) (hr:r.length≤1000) (eP:af.filled ⟨true,n,q⟩=false) (jy:af.aj ⟨true,n,q⟩=true) (h:eR w base b ov ⟨⟨true,n,q⟩::r,false⟩):Calls prog 231 #[.pointer (some ⟨b,0,none⟩),(ay y m).part] w (dL w base b ov (bZ (ay y m)) ⟨⟨true,n,q+1⟩::r,false⟩):=yt
open Go.K1 in
theorem Dr (s:ByteArray) (hs:s.size<32) {w:World} {base b:Nat} {ov:Value} {r:List af} {n q:Int} (hq:0≤q∧q≤1000000) (hr:r.length≤1000) (eP:af.filled ⟨true,n,q⟩=false) (jy:af.aj ⟨true,n,q⟩=true) (h:eR w base b ov ⟨⟨true,n,q⟩::r,false⟩):Calls prog 231 #[.pointer (some ⟨b,0,none⟩),(ah s).part] w (dL w base b ov (bZ (ah s)) ⟨⟨true,n,q+1⟩::r,false⟩):=yt
open Go.K2 in
theorem Ds (s:ByteArray) (hs:s.size<32) {w:World} {base b:Nat} {ov:Value} {r:List af} {n q:Int} (hq:0≤q∧q≤1000000) (hr:r.length≤1000) (eP:af.filled ⟨true,n,q⟩=false) (jy:af.aj ⟨true,n,q⟩=false) (h:eR w base b ov ⟨⟨true,n,q⟩::r,false⟩):Calls prog 231 #[.pointer (some ⟨b,0,none⟩),(ah s).part] w (dL w base b ov (bZ (ah s)) ⟨⟨true,n,q+1⟩::r,false⟩):=yt
open Go.K0 in
theorem tX (n2:Nat) (hn:n2<16) {w:World} {base b:Nat} {ov:Value} (h:eR w base b ov ⟨[],false⟩) (ak:base≤w.heap.size):Calls prog 231 #[.pointer (some ⟨b,0,none⟩),(aN n2).part] w (dL w base b ov (aU 4 n2) ⟨⟨false,n2,0⟩::[],false⟩):=q3
open Go.K1 in
theorem tY (n2:Nat) (hn:n2<16) {w:World} {base b:Nat} {ov:Value} (h:eR w base b ov ⟨[],false⟩) (ak:base≤w.heap.size):Calls prog 231 #[.pointer (some ⟨b,0,none⟩),(aO n2).part] w (dL w base b ov (aU 5 n2) ⟨⟨true,n2,0⟩::[],false⟩):=q3
open Go.K2 in
theorem tZ (n2:Nat) (hn:n2<16) {w:World} {base b:Nat} {ov:Value} {r:List af} {n q:Int} (hq:0≤q∧q≤1000000) (hr:r.length≤1000) (eP:af.filled ⟨false,n,q⟩=false) (h:eR w base b ov ⟨⟨false,n,q⟩::r,false⟩) (ak:base≤w.heap.size):Calls prog 231 #[.pointer (some ⟨b,0,none⟩),(aN n2).part] w (dL w base b ov (aU 4 n2) ⟨⟨false,n2,0⟩::⟨false,n,q+1⟩::r,false⟩):=q1
open Go.K3 in
theorem ua (n2:Nat) (hn:n2<16) {w:World} {base b:Nat} {ov:Value} {r:List af} {n q:Int} (hq:0≤q∧q≤1000000) (hr:r.length≤1000) (eP:af.filled ⟨false,n,q⟩=false) (h:eR w base b ov ⟨⟨false,n,q⟩::r,false⟩) (ak:base≤w.heap.size):Calls prog 231 #[.pointer (some ⟨b,0,none⟩),(aO n2).part] w (dL w base b ov (aU 5 n2) ⟨⟨true,n2,0⟩::⟨false,n,q+1⟩::r,false⟩):=q1
open Go.K0 in
theorem ub (n2:Nat) (hn:n2<16) {w:World} {base b:Nat} {ov:Value} {r:List af} {n q:Int} (hq:0≤q∧q≤1000000) (hr:r.length≤1000) (eP:af.filled ⟨true,n,q⟩=false) (jy:af.aj ⟨true,n,q⟩=true) (h:eR w base b ov ⟨⟨true,n,q⟩::r,false⟩) (ak:base≤w.heap.size):Calls prog 231 #[.pointer (some ⟨b,0,none⟩),(aN n2).part] w (dL w base b ov (aU 4 n2) ⟨⟨false,n2,0⟩::⟨true,n,q+1⟩::r,false⟩):=q1
open Go.K1 in
theorem uc (n2:Nat) (hn:n2<16) {w:World} {base b:Nat} {ov:Value} {r:List af} {n q:Int} (hq:0≤q∧q≤1000000) (hr:r.length≤1000) (eP:af.filled ⟨true,n,q⟩=false) (jy:af.aj ⟨true,n,q⟩=true) (h:eR w base b ov ⟨⟨true,n,q⟩::r,false⟩) (ak:base≤w.heap.size):Calls prog 231 #[.pointer (some ⟨b,0,none⟩),(aO n2).part] w (dL w base b ov (aU 5 n2) ⟨⟨true,n2,0⟩::⟨true,n,q+1⟩::r,false⟩):=q1
theorem uO {c:af} (h:c.filled=true):c.aj=false:=by
 unfold af.filled at h;split at h
 ·simp only[Bool.and_eq_true,Bool.not_eq_true'] at h;exact h.1
 ·rename_i hp;unfold af.aj;simp[hp]
open Go.K19 in
theorem NK {m:Bool} {w:World} {base b:Nat} {ov:Value} {r:List af} {n q:Int} (hn:0≤n) (hq:0≤q∧q≤1000000) (hr:r.length≤1000) (eP:af.filled ⟨m,n,q⟩=true) (h:eR w base b ov ⟨⟨m,n,q⟩::r,false⟩):Calls prog 232 #[.pointer (some ⟨b,0,none⟩)] w (dL w base b ov [] ⟨r,decide (r= [])⟩):=yt
open Go.K1 in
theorem WK {m:Bool} {w:World} {base b:Nat} {ov:Value} {r:List af} {n q:Int} (hn:0≤n) (hq:0≤q∧q≤1000000) (hr:r.length≤1000) (eP:af.filled ⟨m,n,q⟩=true) (h:eR w base b ov ⟨⟨m,n,q⟩::r,false⟩):Calls prog 231 #[.pointer (some ⟨b,0,none⟩),aL.part] w (dL w base b ov [] ⟨r,decide (r= [])⟩):=q22
theorem zW {w:World} {base b:Nat} {ov:Value} {st:Wr} (dT:(bB st ar).2.1=0) (ir: ∀c r,st.open_=c::r→r.length≤1000∧0≤c.count∧(0≤c.parts∧c.parts≤1000000)) (h:eR w base b ov st):Calls prog 231 #[.pointer (some ⟨b,0,none⟩),ar.part] w (dL w base b ov (bB st ar).1 (bB st ar).2.2):=by
 have hd:=lV dT;obtain⟨o,d⟩:=st;simp only at hd;subst hd;cases o with
 |nil=>have he:=qT (p:=ar) (by simp[ar]) (by simp[ar]);rw[he];exact Di h
 |cons c r=>
  obtain⟨hr,nN,hq⟩:=ir c r rfl;obtain⟨hf,hk,he⟩:=qU (by simp[ar]) (by simp[ar]) dT;rw[he];obtain⟨m2,n,q⟩:=c;cases m2 with
  |false=>exact Dl hq hr hf h
  |true=>
   cases hb:af.aj ⟨true,n,q⟩ with
   |true=>exact Dp hq hr hf hb h
   |false=>exact absurd (hk rfl hb) (by simp[ar])
theorem zX (y:Bool) {w:World} {base b:Nat} {ov:Value} {st:Wr} (dT:(bB st (aq y)).2.1=0) (ir: ∀c r,st.open_=c::r→r.length≤1000∧0≤c.count∧(0≤c.parts∧c.parts≤1000000)) (h:eR w base b ov st):Calls prog 231 #[.pointer (some ⟨b,0,none⟩),(aq y).part] w (dL w base b ov (bB st (aq y)).1 (bB st (aq y)).2.2):=by
 have hd:=lV dT;obtain⟨o,d⟩:=st;simp only at hd;subst hd;cases o with
 |nil=>have he:=qT (p:=(aq y)) (by simp[aq]) (by simp[aq]);rw[he];exact Dj y h
 |cons c r=>
  obtain⟨hr,nN,hq⟩:=ir c r rfl;obtain⟨hf,hk,he⟩:=qU (by simp[aq]) (by simp[aq]) dT;rw[he];obtain⟨m2,n,q⟩:=c;cases m2 with
  |false=>exact Dm y hq hr hf h
  |true=>
   cases hb:af.aj ⟨true,n,q⟩ with
   |true=>exact Dq y hq hr hf hb h
   |false=>exact absurd (hk rfl hb) (by simp[aq])
theorem Dt (y:Bool) (m:Nat) (hm:m<2147483648) {w:World} {base b:Nat} {ov:Value} {st:Wr} (dT:(bB st (ay y m)).2.1=0) (ir: ∀c r,st.open_=c::r→r.length≤1000∧0≤c.count∧(0≤c.parts∧c.parts≤1000000)) (h:eR w base b ov st):Calls prog 231 #[.pointer (some ⟨b,0,none⟩),(ay y m).part] w (dL w base b ov (bB st (ay y m)).1 (bB st (ay y m)).2.2):=by
 have hd:=lV dT;obtain⟨o,d⟩:=st;simp only at hd;subst hd;cases o with
 |nil=>have he:=qT (p:=(ay y m)) (by simp[ay]) (by simp[ay]);rw[he];exact GR y m hm h
 |cons c r=>
  obtain⟨hr,nN,hq⟩:=ir c r rfl;obtain⟨hf,hk,he⟩:=qU (by simp[ay]) (by simp[ay]) dT;rw[he];obtain⟨m2,n,q⟩:=c;cases m2 with
  |false=>exact GS y m hm hq hr hf h
  |true=>
   cases hb:af.aj ⟨true,n,q⟩ with
   |true=>exact GU y m hm hq hr hf hb h
   |false=>exact absurd (hk rfl hb) (by simp[ay])
theorem zY (s:ByteArray) (hs:s.size<32) {w:World} {base b:Nat} {ov:Value} {st:Wr} (dT:(bB st (ah s)).2.1=0) (ir: ∀c r,st.open_=c::r→r.length≤1000∧0≤c.count∧(0≤c.parts∧c.parts≤1000000)) (h:eR w base b ov st):Calls prog 231 #[.pointer (some ⟨b,0,none⟩),(ah s).part] w (dL w base b ov (bB st (ah s)).1 (bB st (ah s)).2.2):=by
 have hd:=lV dT;obtain⟨o,d⟩:=st;simp only at hd;subst hd;cases o with
 |nil=>have he:=qT (p:=(ah s)) (by simp[ah]) (by simp[ah]);rw[he];exact Dk s hs h
 |cons c r=>
  obtain⟨hr,nN,hq⟩:=ir c r rfl;obtain⟨hf,hk,he⟩:=qU (by simp[ah]) (by simp[ah]) dT;rw[he];obtain⟨m2,n,q⟩:=c;cases m2 with
  |false=>exact Dn s hs hq hr hf h
  |true=>
   cases hb:af.aj ⟨true,n,q⟩ with
   |true=>exact Dr s hs hq hr hf hb h
   |false=>exact Ds s hs hq hr hf hb h
theorem zZ (n2:Nat) (hn:n2<16) {w:World} {base b:Nat} {ov:Value} {st:Wr} (dT:(bB st (aN n2)).2.1=0) (ir: ∀c r,st.open_=c::r→r.length≤1000∧0≤c.count∧(0≤c.parts∧c.parts≤1000000)) (h:eR w base b ov st) (ak:base≤w.heap.size):Calls prog 231 #[.pointer (some ⟨b,0,none⟩),(aN n2).part] w (dL w base b ov (bB st (aN n2)).1 (bB st (aN n2)).2.2):=by
 have hd:=lV dT;obtain⟨o,d⟩:=st;simp only at hd;subst hd;have hp:(aN n2)=aX false n2:=rfl;cases o with
 |nil=>have he:=CW hp;rw[he];exact tX n2 hn h ak
 |cons c r=>
  obtain⟨hr,nN,hq⟩:=ir c r rfl;obtain⟨hf,hk,he⟩:=CX hp dT;rw[he];obtain⟨m2,n,q⟩:=c;cases m2 with
  |false=>exact tZ n2 hn hq hr hf h ak
  |true=>exact ub n2 hn hq hr hf (hk rfl) h ak
theorem z7 (n2:Nat) (hn:n2<16) {w:World} {base b:Nat} {ov:Value} {st:Wr} (dT:(bB st (aO n2)).2.1=0) (ir: ∀c r,st.open_=c::r→r.length≤1000∧0≤c.count∧(0≤c.parts∧c.parts≤1000000)) (h:eR w base b ov st) (ak:base≤w.heap.size):Calls prog 231 #[.pointer (some ⟨b,0,none⟩),(aO n2).part] w (dL w base b ov (bB st (aO n2)).1 (bB st (aO n2)).2.2):=by
 have hd:=lV dT;obtain⟨o,d⟩:=st;simp only at hd;subst hd;have hp:(aO n2)=aX true n2:=rfl;cases o with
 |nil=>have he:=CW hp;rw[he];exact tY n2 hn h ak
 |cons c r=>
  obtain⟨hr,nN,hq⟩:=ir c r rfl;obtain⟨hf,hk,he⟩:=CX hp dT;rw[he];obtain⟨m2,n,q⟩:=c;cases m2 with
  |false=>exact ua n2 hn hq hr hf h ak
  |true=>exact uc n2 hn hq hr hf (hk rfl) h ak
theorem GV {v:Ev} (hv:CM v=true) {w:World} {base b:Nat} {ov:Value} {st:Wr} (dT:(bB st v).2.1=0) (ir: ∀c r,st.open_=c::r→r.length≤1000∧0≤c.count∧(0≤c.parts∧c.parts≤1000000)) (h:eR w base b ov st) (ak:base≤w.heap.size):Calls prog 231 #[.pointer (some ⟨b,0,none⟩),v.part] w (dL w base b ov (bB st v).1 (bB st v).2.2):=by
 rcases sk hv with rfl|⟨y,rfl⟩|⟨y,m,hm,rfl⟩|⟨s,hs,hu,rfl⟩|⟨n,hn,rfl⟩|⟨n,hn,rfl⟩|rfl
 ·exact zW dT ir h
 ·exact zX y dT ir h
 ·exact Dt y m hm dT ir h
 ·exact zY s hs dT ir h
 ·exact zZ n hn dT ir h ak
 ·exact z7 n hn dT ir h ak
 ·have hd:=lV dT;obtain⟨c,r,ho,he⟩:=Tb dT;obtain⟨hr,nN,hq⟩:=ir c r ho;obtain⟨hf,he⟩:=he nN;rw[he hd];obtain⟨o,d⟩:=st;simp only at hd ho;subst hd ho;exact WK nN hq hr hf h
end Go.Proofs.YthffblhdjjbkaaaGreat
