/- truchmanref1.Writer.Step at the beginning of a container that stands alone; truchmanref1.Writer.Step at the beginning of a container within another one; truchmanref1.Writer.Step at the beginning of a -/
import Derived.Test.YthffblhdjjbkaaaGreatM23
import Derived.Test.YthffblhdjjbkaaaGreatM20
import Derived.StillTailTactics
set_option maxHeartbeats 100000000
set_option maxRecDepth 1000000
open Go.Lib (hid)
open Go.Proofs.Tryz
open Or (inl inr)
namespace Go.Proofs.YthffblhdjjbkaaaGreat
open Go.RowKit Go.Tru
open Go.K4 in
theorem Gs (n:Nat) (hn:n<16) {w:World} {base b:Nat} (h:eJ w base b 2 (.slice none 0 0) [] false) (ak:base≤w.heap.size):Calls prog 6 #[.pointer (some ⟨b,0,none⟩),(aN n).val] w (iX w base b 2 (.slice none 0 0) (bytesOf (aU 4 n)) [⟨false,n,0⟩] false):=q0
open Go.K5 in
theorem Gu (n:Nat) (hn:n<16) {w:World} {base b:Nat} (h:eJ w base b 2 (.slice none 0 0) [] false) (ak:base≤w.heap.size):Calls prog 6 #[.pointer (some ⟨b,0,none⟩),(aO n).val] w (iX w base b 2 (.slice none 0 0) (bytesOf (aU 5 n)) [⟨true,n,0⟩] false):=q0
open Go.K2 in
theorem xI (n:Nat) (hn:n<16) {w:World} {base b:Nat} {ov:Value} {cc cpt:Int} {s:List af} (h:eJ w base b 2 ov (⟨false,cc,cpt⟩::s) false) (hs:s.length≤100) (Ng:0≤cpt) (mo:cpt≤3000000) (hr:0≤cc∧cc≤1000000) (YF:cpt<cc) (ak:base≤w.heap.size):Calls prog 6 #[.pointer (some ⟨b,0,none⟩),(aN n).val] w (iX w base b 2 ov (bytesOf (aU 4 n)) (⟨false,n,0⟩::⟨false,cc,cpt+1⟩::s) false):=q0
open Go.K3 in
theorem xJ (n:Nat) (hn:n<16) {w:World} {base b:Nat} {ov:Value} {cc cpt:Int} {s:List af} (h:eJ w base b 2 ov (⟨false,cc,cpt⟩::s) false) (hs:s.length≤100) (Ng:0≤cpt) (mo:cpt≤3000000) (hr:0≤cc∧cc≤1000000) (YF:cpt<cc) (ak:base≤w.heap.size):Calls prog 6 #[.pointer (some ⟨b,0,none⟩),(aO n).val] w (iX w base b 2 ov (bytesOf (aU 5 n)) (⟨true,n,0⟩::⟨false,cc,cpt+1⟩::s) false):=q0
open Go.K0 in
theorem xK (n:Nat) (hn:n<16) {w:World} {base b:Nat} {ov:Value} {cc cpt:Int} {s:List af} (h:eJ w base b 2 ov (⟨true,cc,cpt⟩::s) false) (hs:s.length≤100) (Ng:0≤cpt) (mo:cpt≤3000000) (hr:0≤cc∧cc≤1000000) (YF:cpt<2*cc) (l7:cpt % 2=1) (ak:base≤w.heap.size):Calls prog 6 #[.pointer (some ⟨b,0,none⟩),(aN n).val] w (iX w base b 2 ov (bytesOf (aU 4 n)) (⟨false,n,0⟩::⟨true,cc,cpt+1⟩::s) false):=q0
open Go.K1 in
theorem xL (n:Nat) (hn:n<16) {w:World} {base b:Nat} {ov:Value} {cc cpt:Int} {s:List af} (h:eJ w base b 2 ov (⟨true,cc,cpt⟩::s) false) (hs:s.length≤100) (Ng:0≤cpt) (mo:cpt≤3000000) (hr:0≤cc∧cc≤1000000) (YF:cpt<2*cc) (l7:cpt % 2=1) (ak:base≤w.heap.size):Calls prog 6 #[.pointer (some ⟨b,0,none⟩),(aO n).val] w (iX w base b 2 ov (bytesOf (aU 5 n)) (⟨true,n,0⟩::⟨true,cc,cpt+1⟩::s) false):=q0
end Go.Proofs.YthffblhdjjbkaaaGreat
namespace Go.Tru
theorem Gv {e:Ev} (h:px e):OV e∧mF e=dm e:=by
 rcases h with rfl|⟨b,rfl⟩|⟨b,m,hm,rfl⟩|⟨t,ht,rfl⟩
 ·exact⟨inl rfl,rfl⟩
 ·exact⟨inr (inl ⟨_,rfl⟩),rfl⟩
 ·exact⟨inr (inr (inl ⟨_,_,by omega,rfl⟩)),rfl⟩
 ·exact⟨inr (inr (inr (inl ⟨_,by omega,rfl⟩))),rfl⟩
theorem vC (m:Bool) (n:Nat):dm (aX m n)=aU (if m then 5 else 4) n:=by cases m<;>rfl
theorem sa {s:List af} {e:Ev} (h:M4 s e):(dm e).length≤40:=by
 have hh: ∀M v,(aU M v).length≤9:=fun M v=>(dd M v).2;have ht: ∀t:ByteArray,t.size≤28→(dm (ah t)).length≤40:=fun t h=>by
  have hl:t.data.toList.length=t.size:=by rw[Array.length_toList];rfl
  have e:dm (ah t)=aU 3 t.size++t.data.toList:=rfl;rw[e,List.length_append,hl];have:=hh 3 t.size;omega
 rcases h.2 with⟨h1,_⟩|⟨⟨t,h1,rfl⟩,_⟩|⟨⟨m,n,_,rfl⟩,_⟩|⟨rfl,_⟩
 ·rcases h1 with rfl|⟨b,rfl⟩|⟨b,m,hm,rfl⟩|⟨t,h1,rfl⟩
  ·simp[dm,mF,ar]
  ·simp[dm,mF,aq]
  ·have e:dm (ay b m)=aU (if b then 1 else 0) m:=rfl;rw[e];have:=hh (if b then 1 else 0) m;omega
  ·exact ht t h1
 ·exact ht t h1
 ·rw[vC];have:=hh (if m then 5 else 4) n;omega
 ·simp[dm,aL]
end Go.Tru
namespace Go.Proofs.YthffblhdjjbkaaaGreat
open Go.RowKit Go.Tru
theorem lQ {e:Ev} (h:px e) (w:World):Calls prog 25 #[.int .i64 2,e.val] w fun r w'=>r= .returned (.tuple #[.string (bytesOf (dm e)),.int .i64 0])∧I [] w w':=by obtain⟨h1,h2⟩:=Gv h;rw[←h2];exact Gl e h1 w
theorem oM {e:Ev} (h:px e):0≤e.kind∧e.kind≤4:=by
 rcases h with rfl|⟨b,rfl⟩|⟨b,m,hm,rfl⟩|⟨t,ht,rfl⟩
 ·exact⟨by decide,by decide⟩
 ·show(0:Int)≤1∧(1:Int)≤4;decide
 ·show(0:Int)≤2∧(2:Int)≤4;decide
 ·show(0:Int)≤3∧(3:Int)≤4;decide
theorem Wt {w:World} {base b:Nat} {ov:Value} {s:List af} {e:Ev} (cS:M4 s e) (h:eJ w base b 2 ov s false) (h0:s= []→ov= .slice none 0 0) (ak:base≤w.heap.size):Calls prog 6 #[.pointer (some ⟨b,0,none⟩),e.val] w (iX w base b 2 ov (bytesOf (dm e)) (fQ s e) (fQ s e).isEmpty):=by
 have hlen:=sa cS;have CK:(bytesOf (dm e)).size≤1000000:=by rw[an];omega
 obtain⟨hs,vD⟩:=cS;rcases vD with⟨hl,hv⟩|⟨⟨t,ht,rfl⟩,c,r,rfl,hf,dH,hp,l7⟩|⟨⟨m,n,hn,rfl⟩,hv⟩|⟨rfl,c,r,rfl,hf,dH⟩
 ·rw[rZ hl];rcases hv with rfl|⟨c,r,rfl,hf,dH,l7⟩
  ·exact CJ (inl rfl) e (oM hl) CK (lQ hl) h
  ·obtain⟨bg,cc,cpt⟩:=c;have oI:=hf.count;have gJ:=hf.parts;simp only[] at oI gJ dH l7;have lq:r.length≤100:=by simp only[List.length_cons] at hs;omega
   cases bg with
   |false=>simp only[eX,Bool.false_eq_true,if_false] at dH;exact tO (cc:=cc) (cpt:=cpt) (inl rfl) e (oM hl) CK (lQ hl) h lq (by omega) (by omega) ⟨by omega,by omega⟩ dH ak
   |true=>simp only[eX,if_true] at dH;exact oZ (cc:=cc) (cpt:=cpt) (inl rfl) e (oM hl) CK (lQ hl) h lq (by omega) (by omega) ⟨by omega,by omega⟩ dH (l7 rfl) ak
 ·obtain⟨bg,cc,cpt⟩:=c;have oI:=hf.count;have gJ:=hf.parts;simp only[] at oI gJ dH hp l7;subst hp;simp only[eX,if_true] at dH;have lq:r.length≤100:=by simp only[List.length_cons] at hs;omega
  have hl:px (ah t):=inr (inr (inr ⟨t,ht,rfl⟩));rw[rZ hl];exact oa (cc:=cc) (cpt:=cpt) (inl rfl) (ah t) (oM hl) CK (lQ hl) h lq (by omega) (by omega) ⟨by omega,by omega⟩ dH l7 rfl ak
 ·rw[mG,vC];rcases hv with rfl|⟨c,r,rfl,hf,dH,l7⟩
  ·obtain rfl:=h0 rfl;cases m with
   |false=>exact Gs n hn h ak
   |true=>exact Gu n hn h ak
  ·obtain⟨bg,cc,cpt⟩:=c;have oI:=hf.count;have gJ:=hf.parts;simp only[] at oI gJ dH l7;have lq:r.length≤100:=by simp only[List.length_cons] at hs;omega
   cases bg with
   |false=>
    simp only[eX,Bool.false_eq_true,if_false] at dH;cases m with
    |false=>exact xI (cc:=cc) (cpt:=cpt) n hn h lq (by omega) (by omega) ⟨by omega,by omega⟩ dH ak
    |true=>exact xJ (cc:=cc) (cpt:=cpt) n hn h lq (by omega) (by omega) ⟨by omega,by omega⟩ dH ak
   |true=>
    simp only[eX,if_true] at dH;cases m with
    |false=>exact xK (cc:=cc) (cpt:=cpt) n hn h lq (by omega) (by omega) ⟨by omega,by omega⟩ dH (l7 rfl) ak
    |true=>exact xL (cc:=cc) (cpt:=cpt) n hn h lq (by omega) (by omega) ⟨by omega,by omega⟩ dH (l7 rfl) ak
 ·rw[qI];obtain⟨bg,cc,cpt⟩:=c;have oI:=hf.count;simp only[] at oI dH;have lq:r.length≤100:=by simp only[List.length_cons] at hs;omega
  have e0:bytesOf (dm aL)=⟨#[]⟩:=by simp[dm,aL,bytesOf]
  rw[e0];cases bg with
  |false=>simp only[eX,Bool.false_eq_true,if_false] at dH;subst dH;exact OZ (cc:=cpt) (inl rfl) h lq ⟨by omega,by omega⟩ ak
  |true=>simp only[eX,if_true] at dH;subst dH;exact O0 (cc:=cc) (inl rfl) h lq ⟨by omega,by omega⟩ ak
def iv (w:World) (base b:Nat) (hv ov:Value) (t:List Ev×Int×St) (r:Ending) (w':World):Prop:=
 ∃v,r= .returned (.tuple #[v,.int .i64 t.2.1])∧aP w' base v t.1∧fK w base b hv ov t.2.2 w'
theorem tz {w w':World} {base b:Nat} {hv ov:Value} {s:St} (h:dR w base b hv ov s) (k:I [] w w'):fK w base b hv ov s w':=⟨hv,ov,h.aI k,k.mono (by simp),fun i hi=>inl hi⟩
theorem vk (s:St) (p:Ev) (w:World) (base b:Nat) (hv ov:Value) (h:dR w base b hv ov s) (he:s.e≠0):Calls prog 109 #[.pointer (some ⟨b,0,none⟩),p.part] w (iv w base b hv ov (s.step p)):=by
 have hs:s.step p=([],s.e,s):=by unfold St.step;rw[if_pos he]
 rw[hs];have fX:(s.e != 0)=true:=by simpa using he
 obtain⟨g0,g1,g2,g3,g4⟩:=cC h.az;have H:=hid h;clear hs he h;generalize p.part=pv;go_enter func109,ntmps109;go_wp2_with fail
 go_quiet (fail)
 go_wp2_with fail
 go_ret2;exact⟨_,rfl,aP.nil _ _,tz H.out ((I.refl [] _).drewN _)⟩
theorem LC (s:St) (p:Ev) (hp:Clear p) (w:World) (base b:Nat) (hv ov:Value) (h:dR w base b hv ov s) (he:s.e=0) (ho:s.open_= []) (hl:p.loose=false) (hf:base≤w.heap.size):Calls prog 109 #[.pointer (some ⟨b,0,none⟩),p.part] w (iv w base b hv ov (s.step p)):=by
 have hs:s.step p=([p],0,s):=by unfold St.step;rw[if_neg (by simp[he]),ho];simp only[hl];rfl
 rw[hs];clear hs;have fj:=h.bu;rw[ho] at fj;obtain⟨oo,oc,rfl⟩:=fj.shape;clear fj ho;obtain⟨m,n,tb,tc,pJ⟩:=rM hp;have eI:=fun W=>aK p hp W;obtain⟨pv,oU⟩: ∃pv,p.part=pv:=⟨_,rfl⟩
 have sZ:=p7 p;rw[oU] at eI tb tc sZ⊢;have fX:(s.e != 0)=false:=by simpa using he
 obtain⟨g0,g1,g2,g3,g4⟩:=cC h.az;have H:=hid h;have cL:=hid eI;have Rm:=hid oU;have HE:=hid he;have HF:=hid hf;clear h eI oU he hf;have vD:bQ p=false∨bQ p=true∧0≤n:=by
  cases xi:bQ p with
  |false=>exact inl rfl
  |true=>refine inr ⟨rfl,?_⟩;have h1:=pJ xi;unfold Ev.loose at hl;simp only[bQ,decide_eq_true_eq] at xi;simp only[decide_eq_false_iff_not,not_and] at hl;have:=hl xi;omega
 clear hl pJ;rcases vD with xi|⟨xi,hn⟩;all_goals
  rw[xi] at tb;clear xi;rcases sZ with rfl|⟨T,v,rfl⟩;all_goals
   go_enter func109,ntmps109;go_wp2_with fail
   refine(cL.out _).mono ?_;rintro e w1 ⟨rfl,k1⟩;have nH:=hid (H.out.aI k1);have K1:=hid k1;have gv:=k1.size;obtain⟨g0,g1,g2,g3,g4⟩:=cC nH.out.az;obtain⟨f0,f1,f2,f3,f4⟩:=eu nH.out.az;have Sh:=nH.out.ks;clear k1;simp only[Ev.val,Ev.cells];go_wp2_with fail
   go_ret2;exact⟨_,rfl,n8 Rm.out (by simp) (by have:=HF.out;omega),tz H.out (((K1.out.alloc _).alloc _).alloc _)⟩
open Go.K2 in
theorem step_end (s:St) (p:Ev) (hp:Clear p) (w:World) (base b:Nat) (hv ov:Value) (h:dR w base b hv ov s) (he:s.e=0) (hf:s.Fit) (ak:base≤w.heap.size) (c:mq) (r:List mq) (jW:s.open_=c::r) (h7:p.kind=7):Calls prog 109 #[.pointer (some ⟨b,0,none⟩),p.part] w (iv w base b hv ov (s.step p)):=q7
open Go.K1 in
theorem Ho (s:St) (p:Ev) (hp:Clear p) (lL:p.text.size≤1000000) (w:World) (base b:Nat) (hv ov:Value) (h:dR w base b hv ov s) (he:s.e=0) (hf:s.Fit) (ak:base≤w.heap.size) (c:mq) (r:List mq) (jW:s.open_=c::r) (h7:p.kind≠7) (xi:bQ p=false):Calls prog 109 #[.pointer (some ⟨b,0,none⟩),p.part] w (iv w base b hv ov (s.step p)):=q7
open Go.K0 in
theorem LD (s:St) (p:Ev) (hp:Clear p) (lL:p.text.size≤1000000) (w:World) (base b:Nat) (hv ov:Value) (h:dR w base b hv ov s) (he:s.e=0) (hf:s.Fit) (ak:base≤w.heap.size) (c:mq) (r:List mq) (jW:s.open_=c::r) (xi:bQ p=true):Calls prog 109 #[.pointer (some ⟨b,0,none⟩),p.part] w (iv w base b hv ov (s.step p)):=q7
theorem Hp (s:St) (p:Ev) (hp:Clear p) (lL:p.text.size≤1000000) (w:World) (base b:Nat) (hv ov:Value) (h:dR w base b hv ov s) (he:s.e=0) (hf:s.Fit) (ak:base≤w.heap.size) (jW:s.open_= []) (hl:p.loose=true):Calls prog 109 #[.pointer (some ⟨b,0,none⟩),p.part] w (iv w base b hv ov (s.step p)):=by
 have hk:(p.kind=5∨p.kind=6)∧p.count<0:=by simpa[Ev.loose] using hl
 have xi:bQ p=true:=by simp[bQ,hk.1]
 have h7:p.kind≠7:=by omega
 have hs:s.step p=([],(St.hold {s with open_:=[⟨s.held.length,0⟩]} p).e,St.hold {s with open_:=[⟨s.held.length,0⟩]} p):=by unfold St.step;rw[if_neg (by simp[he]),jW];simp only[];rw[if_pos hl]
 rw[hs];clear hs;have hlen:s.held.length≤2000:=by have:=hf.size;have:=hf.lK;omega
 have fj:=h.bu;rw[jW] at fj;obtain⟨oo,oc,rfl⟩:=fj.shape;simp only[List.length_nil] at*;clear fj;obtain⟨m,n,tb,tc,pJ⟩:=rM hp;have eI:=fun W=>aK p hp W;obtain⟨pv,oU⟩: ∃pv,p.part=pv:=⟨_,rfl⟩
 rw[oU] at eI tb tc⊢;have fX:(s.e != 0)=false:=by simpa using he
 obtain⟨g0,g1,g2,g3,g4⟩:=cC h.az;have H:=hid h;have cL:=hid eI;have Rm:=hid oU;have HE:=hid he;have HF:=hid hf;have Jb:=hid jW;clear h eI oU he hf jW;rw[xi] at tb;simp only[h7,decide_false] at tc;have hn:n<0:=by rw[←pJ xi];exact hk.2
 clear xi h7 pJ hl hk;go_enter func109,ntmps109;go_wp2_with fail
 refine(cL.out _).mono ?_;rintro e w1 ⟨rfl,k1⟩;have nH:=hid (H.out.aI k1);have K1:=hid k1;have gv:=k1.size;obtain⟨g0,g1,g2,g3,g4⟩:=cC nH.out.az;obtain⟨f0,f1,f2,f3,f4⟩:=eu nH.out.az;have Sh:=nH.out.ks;have rN:b<w1.heap.size+1:=by omega
 have Kh:b<w1.heap.size+1+1:=by omega
 clear k1;simp only[Ev.val,Ev.cells];go_wp2_with fail
 have HX:=hid (nH.out.aI (((I.refl [] _).alloc (.cells #[.int .i64 p.kind,.bool p.yes,.int .u64 p.jM,.string p.text,.int .i64 p.count] 34)).alloc (.cells #[.bool m,.int .i64 n] 215) |>.alloc (.cells #[] 218)));have KX:=hid ((((K1.out.mono (by simp: ∀i∈ [],i∈bM b hv (.slice oo 0 oc))).alloc (.cells #[.int .i64 p.kind,.bool p.yes,.int .u64 p.jM,.string p.text,.int .i64 p.count] 34)).alloc (.cells #[.bool m,.int .i64 n] 215)).alloc (.cells #[] 218));have SX:=hid (fun(i:Nat) (hi:i∈bM b hv (.slice oo 0 oc))=>(inl hi:i∈bM b hv (.slice oo 0 oc)∨w.heap.size≤i));have HN:=hid (show cG _ base (.slice oo 0 oc) [] from Jb.out▸HX.out.bu);obtain⟨UM,Nx,rfl⟩:=HX.out.held.shape;obtain⟨g0,g1,g2,g3,g4⟩:=cC HX.out.az;obtain⟨f0,f1,f2,f3,f4⟩:=eu HX.out.az;have adj:=HX.out.ks;have Wb:=KX.out.size
 go_region_law (rw[if_pos (by rfl)];refine pn _ _ rfl base _ [] rfl (ab HN.out (((I.refl [] _).drew).alloc _) (by simp)) ⟨_,0,none⟩ ⟨s.held.length,0⟩ rfl (aA (mq.cells ⟨s.held.length,0⟩) (by simp)) (by simp) (Nat.le_trans ak ((KX.out.drew).alloc _).size) ?_;intro v9 w9 kR xu Si;obtain⟨o9,c9,Zj⟩:=kR.shape;subst Zj;have eH:=dR.Jc HX.out kR ((((I.refl _ _).drew).alloc _).trans xu) (Si.imp id (fun h=>⟨_,h,by simp⟩));have h9:=((HX.out.az.drew).alloc _).keeps xu HX.out.bo;obtain⟨g0,g1,g2,g3,g4⟩:=cC h9;obtain⟨f0,f1,f2,f3,f4⟩:=eu h9;have qy:=hid eH;clear eH h9 kR xu Si)
 all_goals
  have HX2:=hid qy.out.1;have Zk:=hid (KX.out.trans' qy.out.2.1 (by simpa using SX.out));have SX2:=hid (fun i hi=>(qy.out.2.2 i hi).elim (fun h=>SX.out i h) (fun h=>inr (Nat.le_trans Wb h)));clear qy g0 g1 g2 g3 g4 f0 f1 f2 f3 f4;go_wp2_with fail
  have gw:=mz {s with open_:=[⟨s.held.length,0⟩]} p hp lL _ base b _ _ HX2.out ⟨HE.out,by have:=HF.out.size;have:=HF.out.lK;simp only[];omega,HF.out.lK,by simp only[];omega,Nat.le_trans ak Zk.out.size⟩;rw[Rm.out] at gw;refine gw.mono ?_;clear gw;rintro e w5 ⟨rfl,aM⟩;have Kj:=hid aM;clear aM;go_wp2_with fail
  go_ret2;exact⟨_,rfl,aP.nil _ _,fK.trans Zk.out SX2.out Kj.out⟩
theorem DO (s:St) (p:Ev) (hp:Clear p) (lL:p.text.size≤1000000) (w:World) (base b:Nat) (hv ov:Value) (h:dR w base b hv ov s) (hf:s.Fit) (ak:base≤w.heap.size):Calls prog 109 #[.pointer (some ⟨b,0,none⟩),p.part] w (iv w base b hv ov (s.step p)):=by
 by_cases he:s.e=0
 ·cases jW:s.open_ with
  |nil=>
   cases hl:p.loose with
   |false=>exact LC s p hp w base b hv ov h he jW hl ak
   |true=>exact Hp s p hp lL w base b hv ov h he hf ak jW hl
  |cons c r=>
   by_cases h7:p.kind=7
   ·exact step_end s p hp w base b hv ov h he hf ak c r jW h7
   ·cases xi:bQ p with
    |false=>exact Ho s p hp lL w base b hv ov h he hf ak c r jW h7 xi
    |true=>exact LD s p hp lL w base b hv ov h he hf ak c r jW xi
 ·exact vk s p w base b hv ov h he
end Go.Proofs.YthffblhdjjbkaaaGreat
namespace Go.Tru
structure df (w:World) (b g m:Nat) (l:List UInt8):Prop where
 ex: ∃ (first:Nat) (arr:List UInt8),Has w b [.slice (some ⟨g,0,none⟩) m m,.int .i64 first,.int .i64 l.length] 121∧Has w g (arr.map fun x=>Value.int .u8 (x.toNat:Int)) 5∧
  arr.length=m∧first<m∧∀i (h:i<l.length),arr[(first+i) % m]? =some l[i]
 room:l.length≤m
 pos:0<m∧m≤10000
 ne:b≠g
theorem df.keeps {F:List Nat} {w w':World} {b g m:Nat} {l:List UInt8} (h:df w b g m l) (k:I F w w') (hb:b∉F) (hg:g∉F):df w' b g m l:=by obtain⟨f,a,h1,h2,h3⟩:=h.ex;exact⟨⟨f,a,h1.keeps k hb,h2.keeps k hg,h3⟩,h.room,h.pos,h.ne⟩
theorem df.lt {w:World} {b g m:Nat} {l:List UInt8} (h:df w b g m l):b<w.heap.size∧g<w.heap.size:=by obtain⟨f,a,h1,h2,h3⟩:=h.ex;exact⟨h1.lt,h2.lt⟩
theorem df.push {w:World} {b g m f:Nat} {l arr:List UInt8} (x:UInt8) (h1:Has w b [.slice (some ⟨g,0,none⟩) m m,.int .i64 f,.int .i64 l.length] 121) (h2:Has w g (arr.map fun x=>Value.int .u8 (x.toNat:Int)) 5) (hl:arr.length=m) (hf:f<m) (ha: ∀i (h:i<l.length),arr[(f+i) % m]? =some l[i]) (hr:l.length<m) (hp:0<m∧m≤10000) (fX:b≠g) {v:Value} (hv:v= .int .i64 ((l++[x]).length:Nat)):df ((w.setCell ⟨g,(f+l.length) % m,none⟩ (.int .u8 (x.toNat:Int))).setCell ⟨b,2,none⟩ v) b g m (l++[x]):=by
 subst hv;refine⟨⟨f,arr.set ((f+l.length) % m) x,((h1.other (p:=⟨g,_,none⟩) fX _).set 2 _).conv rfl,?_,by simpa using hl,hf,?_⟩,by simp;omega,hp,fX⟩
 ·refine Has.other ?_ (p:=⟨b,2,none⟩) (fun e=>fX e.symm) _;refine(h2.set ((f+l.length) % m) (.int .u8 (x.toNat:Int))).conv ?_
  rw[List.map_set]
 ·intro i hi;simp only[List.length_append,List.length_singleton] at hi;have xp:(f+l.length) % m<m:=Nat.mod_lt _ hp.1;by_cases S5:i<l.length
  ·have FH:(f+l.length) % m≠(f+i) % m:=by
    intro e;have e1:=Nat.div_add_mod (f+l.length) m;have e2:=Nat.div_add_mod (f+i) m;rw[e] at e1;have h3:m*((f+l.length)/m)=m*((f+i)/m)+(l.length-i):=by omega
    have h4:l.length-i<m:=by omega
    have h5:0<l.length-i:=by omega
    have h6:m∣(l.length-i):=by refine⟨(f+l.length)/m- (f+i)/m,?_⟩;rw[Nat.mul_sub];omega
    exact absurd (Nat.le_of_dvd h5 h6) (by omega)
   rw[List.getElem?_set_ne FH,ha i S5,List.getElem_append_left S5]
  ·have:i=l.length:=by omega
   subst this;rw[List.getElem?_set_self (by omega)];simp
end Go.Tru
namespace Go.Proofs.YthffblhdjjbkaaaGreat
open Go.RowKit Go.Tru
theorem j8 (w:World) (b g m:Nat) (l:List UInt8) (h:df w b g m l):Calls prog 71 #[.pointer (some ⟨b,0,none⟩)] w fun e w'=>e= .returned (.int .i64 l.length)∧w=w':=by
 obtain⟨f,a,h1,h2,h3⟩:=h.ex;have c2:=h1.cell 2;simp only[List.getElem?_cons_zero,List.getElem?_cons_succ] at c2;go_enter func71,ntmps71;go_wp2_with fail
 go_ret;exact⟨rfl,rfl⟩
theorem Bi (w:World) (b g m:Nat) (l:List UInt8) (h:df w b g m l):Calls prog 81 #[.pointer (some ⟨b,0,none⟩)] w fun e w'=>e= .returned (.int .i64 ((m:Int)- (l.length:Int)))∧∃n,w'=w.drewN n:=by
 obtain⟨f,a,h1,h2,h3⟩:=h.ex;have c0:=h1.cell 0;have c2:=h1.cell 2;simp only[List.getElem?_cons_zero,List.getElem?_cons_succ] at c0 c2;have hr:=h.room;have hp:=h.pos;go_enter func81,ntmps81;go_wp2_with fail
 go_quiet (fail)
 go_wp2_with fail
 go_ret;exact⟨rfl,_,rfl⟩
def XB (b g m:Nat) (l:List UInt8) (s:ByteArray) (n:Nat) (w:World) (i:Value) (wr:World):Prop:=
 ∃k:Nat,k≤n∧i= .int .i64 k∧df wr b g m (l++s.data.toList.take k)∧I [b,g] w wr
theorem EW (w:World) (b g m:Nat) (l:List UInt8) (s:ByteArray) (h:df w b g m l) (hs:s.size≤1000000) (n:Nat) (hn:n=min s.size (m-l.length)):Calls prog 66 #[.pointer (some ⟨b,0,none⟩),.string s] w fun e w'=>e= .returned (.int .i64 n)∧df w' b g m (l++s.data.toList.take n)∧I [b,g] w w':=by
 have hr:=h.room;have hp:=h.pos;have dH:=Bi w b g m l h;have H:=hid h;have HR:=hid dH;have hnm:l.length+n≤m:=by omega
 have XC:n≤s.size:=by omega
 have hm0:((m:Int)==0)=false:=by simp;omega
 have aap: ¬m=0:=by omega
 obtain⟨y,hy⟩: ∃y:Int,(m:Int)- (l.length:Int)=y:=⟨_,rfl⟩
 have HY:=hid hy;have vD:((s.size:Int)≤y∧(s.size:Int)=n)∨(¬ (s.size:Int)≤y∧y≤(s.size:Int)∧y=n):=by omega
 rw[hy] at HR;clear h dH hn hy;go_enter func66,ntmps66;go_wp2_with fail
 refine HR.out.mono ?_;rintro e w1 ⟨rfl,q,rfl⟩;rcases vD with⟨h1,h2⟩|⟨h1,h2,h3⟩;all_goals
  try (have mx: ¬ (s.size:Int)≤y:=by omega)
  try subst h3
  go_wp2_with fail
  go_loopw [13] (fun i wr=>XB b g m l s n w i wr) (fun i _=>n- (intOf i).toNat);case atStart=>exact⟨0,Nat.zero_le _,rfl,by rw[List.take_zero,List.append_nil];exact H.out.keeps ((I.refl [] w).drewN q) (by simp) (by simp),(I.refl _ w).drewN q⟩
  case round=>
   obtain⟨k,hk,rfl,hR,hK⟩:=hrel;obtain⟨f,arr,mx,uw,JI,h4,h5⟩:=hR.ex;have hz:=hK.size;by_cases dD:k<n
   ·have xw:(k:Int)<(n:Int):=by omega
    have UG:(k:Int)<(s.size:Int):=by omega
    obtain⟨L,hL⟩: ∃L,l++s.data.toList.take k=L:=⟨_,rfl⟩
    have hLl:L.length=l.length+k:=by rw[←hL];simp[Array.length_toList];omega
    rw[hL] at mx h5 hR;obtain⟨N,hN⟩: ∃N,L.length=N:=⟨_,rfl⟩
    rw[hN] at mx;obtain⟨J,hJ⟩: ∃J,(f+N) % m=J:=⟨_,rfl⟩
    have hJm:J<m:=by rw[←hJ];exact Nat.mod_lt _ hp.1
    have eK:=da (x:=(f:Int)+(N:Int)) (by omega);have hrm:((f:Int)+(N:Int)).tmod (m:Int)=(J:Int):=by rw[Int.tmod_eq_emod_of_nonneg (by omega),←hJ];simp only[Int.natCast_emod,Int.natCast_add]
    have hwJ:IntKind.i64.wrap (J:Int)=(J:Int):=by rw[IntKind.wrap_i64];omega
    have hJi:(J:Int)<(m:Int):=by omega
    have hJ0:(0:Int)≤(J:Int):=by omega
    have HN:=hid (show N=l.length+k by omega);have hNm:N<10000:=by omega
    have c0:=mx.cell 0;have c1:=mx.cell 1;have c2:=mx.cell 2;simp only[List.getElem?_cons_zero,List.getElem?_cons_succ] at c0 c1 c2;obtain⟨a0,ha0⟩: ∃a0,(arr.map fun x=>Value.int .u8 (x.toNat:Int))[J]? =some a0:=⟨_,List.getElem?_eq_getElem (by simp;omega)⟩
    have cg:=uw.cell J;rw[ha0] at cg;have fg:=uw.free J;have fb:=mx.free 2;have fX:=hR.ne;have lr: ¬g=b:=fun e=>fX e.symm;have HJ:=hid hJ;have HL:=hid hL;have HNL:=hid hN;have HK:=hid hK;have H1:=hid mx;have H2:=hid uw;have H5:=hid h5;have gU:=da (x:=(N:Int)+1) (by omega);clear hLl hN hJ ha0 hL hK mx uw h5 hR;go_upto_region 5 with fail;go_still_tail 23,(by kernel_rfl);change wpList _ _ _ _ _ wr.drew;go_wp2_with fail
    go_roundw;case rel=>
     have xj:k<s.size:=by omega
     have YS:k<s.data.toList.length:=by rw[Array.length_toList];exact xj
     have eH:=df.push (w:=wr) (l:=L) s[k] (by rw[HNL.out];exact H1.out) H2.out JI h4 H5.out (by rw[HNL.out,HN.out];omega) hp fX (v:= .int .i64 ((N:Int)+1)) (by rw[List.length_append,HNL.out];simp);rw[HNL.out,HJ.out] at eH;have dq:L++[s[k]]=l++s.data.toList.take (k+1):=by rw[←HL.out,List.append_assoc,List.take_succ_eq_append_getElem YS];rfl
     rw[dq] at eH;exact⟨k+1,by omega,by go_num,eH.keeps ((I.refl [] _).drew) (by simp) (by simp),((HK.out.setCell (inl (by simp)) _).setCell (inl (by simp)) _).drew⟩
    case measure=>simp[intOf];omega
   ·obtain rfl:k=n:=by omega
    have xw: ¬ (k:Int)<(k:Int):=by omega
    go_wp2_with fail
    go_ret;exact⟨rfl,hR,hK⟩
theorem EX {o:Oper} {a:Act} {w:World} {K:Act→World→Prop} {Q:Exit→Act→World→Prop} (s x:Operand) (ho:o.op= .call {callee:= .builtin .append,args:= #[s,x],argTypes:= #[63,63]}) (base:Nat) (v:Value) (es:List UInt8) (hs:a.eval s=v) (au:bz w base v es) (ad:Addr) (x1:UInt8) (hx:a.eval x= .slice (some ad) 1 1) (fO:w.cell? (ad.add 0)=some (.int .u8 (x1.toNat:Int))) (hlen:es.length≤1000000) (ak:base≤w.heap.size) (h: ∀v' w',bz w' base v' (es++[x1])→I (ae v) w w'→(v'.ownBlock=v.ownBlock∨v'.ownBlock=some w.heap.size)→K (a.put o.dst v') w'):Oper.wp prog o a w K Q:=by
 obtain⟨i0,hi,ko,gv,gW⟩:=info_parts nm;obtain⟨v',w',hr,h2,h3,_,h5⟩:=run_append_own_at (P:=prog) w base 63 o.type 5 i0 (.int .u8 0) 1 1 underlying63 hi ko gv gW rfl (by decide) v es.length (bS es) au ad 1 1 [.int .u8 (x1.toNat:Int)] rfl (fun j u hu=>by
  cases j with
  |zero=>simp only[List.getElem?_cons_zero,Option.some.injEq] at hu;rw[←hu];exact fO
  |succ j=>simp at hu) (yD [x1]) (by unfold maxLen;omega) (by omega) ak
 unfold Oper.wp execOp;simp only[ho,resolve,invoke,builtin,Sem.run_bind,Sem.run_pure,Result.andThen_ok,List.map_toArray,List.map_cons,List.map_nil,hs,hx,hr];refine h v' w' ?_ (cD h3) h5;unfold bz bS;rw[List.length_append,List.map_append];exact h2
def TZ (l:List UInt8) (n:Nat) (w:World) (v i:Value) (wr:World):Prop:=
 ∃k:Nat,k≤n∧i= .int .i64 k∧bz wr w.heap.size v (l.take k)∧I [] w wr
theorem Bj (w:World) (b g m:Nat) (l:List UInt8) (h:df w b g m l) (n:Nat) (hn:n≤l.length):Calls prog 95 #[.pointer (some ⟨b,0,none⟩),.int .i64 n] w fun e w'=>e= .returned (.string (bytesOf (l.take n)))∧I [] w w':=by
 have hr:=h.room;have hp:=h.pos;have hlen:=j8 w b g m l h;have H:=hid h;have uK:=hid hlen;have aap: ¬m=0:=by omega
 have FM:(n:Int)≤(l.length:Int):=by omega
 have Fw:(0:Int)≤(n:Int):=by omega
 clear h hlen;go_enter func95,ntmps95;go_wp2_with fail
 refine uK.out.mono ?_;rintro e w1 ⟨rfl,rfl⟩;go_wp2_with fail
 go_loopw [5,12] (fun v i wr=>TZ l n w v i wr) (fun _ i _=>n- (intOf i).toNat);case atStart=>exact⟨0,Nat.zero_le _,rfl,bz.nil _ _,I.refl _ _⟩
 case round=>
  obtain⟨k,hk,rfl,hv,hK⟩:=hrel;obtain⟨va,vc,rfl⟩:=hv.shape;have hz:=hK.size;obtain⟨P,hP⟩: ∃P,l.take k=P:=⟨_,rfl⟩
  have hPl:P.length=k:=by rw[←hP,List.length_take];omega
  rw[hP] at hv⊢;rw[hPl] at hv⊢;by_cases dD:k<n
  ·have xw:(k:Int)<(n:Int):=by omega
   obtain⟨f,arr,mx,uw,JI,h4,h5⟩:=(H.out.keeps hK (by simp) (by simp)).ex;have YS:k<l.length:=by omega
   obtain⟨x,hx⟩: ∃x,l[k]=x:=⟨_,rfl⟩
   obtain⟨J,hJ⟩: ∃J,(f+k) % m=J:=⟨_,rfl⟩
   have hJm:J<m:=by rw[←hJ];exact Nat.mod_lt _ hp.1
   have eK:=da (x:=(f:Int)+(k:Int)) (by omega);have hrm:((f:Int)+(k:Int)).tmod (m:Int)=(J:Int):=by rw[Int.tmod_eq_emod_of_nonneg (by omega),←hJ];simp only[Int.natCast_emod,Int.natCast_add]
   have hwJ:IntKind.i64.wrap (J:Int)=(J:Int):=by rw[IntKind.wrap_i64];omega
   have hJi:(J:Int)<(m:Int):=by omega
   have hJ0:(0:Int)≤(J:Int):=by omega
   have c0:=mx.cell 0;have c1:=mx.cell 1;simp only[List.getElem?_cons_zero,List.getElem?_cons_succ] at c0 c1;have cg:wr.cell? ⟨g,J,none⟩=some (.int .u8 (x.toNat:Int)):=by rw[uw.cell J,List.getElem?_map,←hJ,h5 k YS,hx];rfl
   have HTK:=hid (show P++[x]=l.take (k+1) by rw[←hP,←hx,List.take_succ_eq_append_getElem YS]);have HV:=hid hv;have HK:=hid hK;have hbn:b∉ae (.slice va k vc):=fun hm=>by have:=(World.ownsRow.lt hv b (aa.1 hm)).1;have:=H.out.lt.1;omega
   have VX:g∉ae (.slice va k vc):=fun hm=>by have:=(World.ownsRow.lt hv g (aa.1 hm)).1;have:=H.out.lt.2;omega
   have L0: ∀w',I (ae (.slice va k vc)) wr w'→w'.cell? ⟨b,0,none⟩=some (.slice (some ⟨g,0,none⟩) m m):=fun w' k=>k.cell c0 hbn;have L1: ∀w',I (ae (.slice va k vc)) wr w'→w'.cell? ⟨b,1,none⟩=some (.int .i64 f):=fun w' k=>k.cell c1 hbn;have LG: ∀w',I (ae (.slice va k vc)) wr w'→w'.cell? ⟨g,J,none⟩=some (.int .u8 (x.toNat:Int)):=fun w' k=>k.cell cg VX;clear c0 c1 cg hJ hx hv hK mx uw h5 hP;go_upto_region 5 with fail;refine rg (fun w'=>I (ae (.slice va k vc)) wr w') ((I.refl _ _).drew) fun HH=> ?_;refine tk 0 HH.out ?_;try simp only[gz]
   refine tk 1 HH.out ?_;try simp only[gz]
   refine tk 2 HH.out ?_;try simp only[gz]
   refine tk 3 HH.out ?_;try simp only[gz]
   refine tf 4 L0 HH.out ?_;try simp only[gz]
   refine tk 5 HH.out ?_;try simp only[gz]
   refine tk 6 HH.out ?_;try simp only[gz]
   refine tk 7 HH.out ?_;try simp only[gz]
   refine tf 8 L1 HH.out ?_;try simp only[gz]
   refine tk 9 HH.out ?_;try simp only[gz]
   refine tk 10 HH.out ?_;try simp only[gz]
   refine tk 11 HH.out ?_;try simp only[gz]
   refine tk 12 HH.out ?_;try simp only[gz]
   refine tk 13 HH.out ?_;try simp only[gz]
   refine tf 14 L0 HH.out ?_;try simp only[gz]
   refine tk 15 HH.out ?_;try simp only[gz]
   refine tk 16 HH.out ?_;try simp only[gz]
   refine tk 17 HH.out ?_;try simp only[gz]
   refine tf 18 LG HH.out ?_;try simp only[gz]
   refine rd 19 fun K hK=> ?_;go_simp;refine hK.out _ _ (HH.out.alloc _) fun HH=> ?_;clear hK K;refine rd 20 fun K hK=> ?_;refine EX (.tmp 15) (.tmp 34) rfl w.heap.size (.slice va k vc) P rfl (ab HV.out (((I.refl [] _).alloc _).drew) (by simp)) ⟨_,0,none⟩ x rfl (aA [.int .u8 (x.toNat:Int)] (by simp) 0 _ rfl) (by omega) (by simp;omega) ?_;intro v4 w4 dx re _;obtain⟨v4a,v4c,tx⟩:=bz.shape dx;subst tx;refine hK.out _ _ (HH.out.trans re) fun HH=> ?_;clear hK K;refine tk 21 HH.out ?_;try simp only[gz]
   refine wpAnyH_done (by kernel_rfl) ?_ _;have HV4:=hid dx;have uh:=hid (HK.out.trans' HH.out (fun i hi=>inr (World.ownsRow.lt HV.out i (aa.1 hi)).1));clear dx re;go_wp2_with fail
   go_roundw;case rel=>exact⟨k+1,by omega,by go_num,by rw[←HTK.out];have h4:=HV4.out;rw[show(P++[x]).length=k+1 by simp[hPl]] at h4;exact h4,uh.out⟩
   case measure=>simp[intOf];omega
  ·obtain rfl:k=n:=by omega
   have xw: ¬ (k:Int)<(k:Int):=by omega
   have aH:=iW hv underlying63 underlying9;have HK:=hid hK;have HP:=hid hP;clear hv hK hP;go_wp2_with fail
   go_ret;exact⟨by rw[HP.out];rfl,HK.out⟩
theorem _root_.Go.Tru.df.pop {w:World} {b g m f J:Nat} {l arr:List UInt8} (h1:Has w b [.slice (some ⟨g,0,none⟩) m m,.int .i64 f,.int .i64 l.length] 121) (h2:Has w g (arr.map fun x=>Value.int .u8 (x.toNat:Int)) 5) (hl:arr.length=m) (ha: ∀i (h:i<l.length),arr[(f+i) % m]? =some l[i]) (hr:l.length≤m) (hp:0<m∧m≤10000) (fX:b≠g) {n:Nat} (hn:n≤l.length) (hJ:(f+n) % m=J) {v1 v2:Value} (iR:v1= .int .i64 (J:Nat)) (jz:v2= .int .i64 ((l.drop n).length:Nat)):df ((w.setCell ⟨b,1,none⟩ v1).setCell ⟨b,2,none⟩ v2) b g m (l.drop n):=by subst iR jz;refine⟨⟨J,arr,((h1.set 1 _).set 2 _).conv rfl,(h2.other (p:=⟨b,1,none⟩) (fun e=>fX e.symm) _).other (p:=⟨b,2,none⟩) (fun e=>fX e.symm) _,hl,by rw[←hJ];exact Nat.mod_lt _ hp.1,?_⟩,by simp;omega,hp,fX⟩;intro i hi;simp only[List.length_drop] at hi;have:=ha (n+i) (by omega);rw[←hJ,Nat.mod_add_mod,Nat.add_assoc,this,List.getElem_drop]
theorem mU (w:World) (b g m:Nat) (l:List UInt8) (h:df w b g m l) (n:Nat) (hn:n≤l.length):Calls prog 82 #[.pointer (some ⟨b,0,none⟩),.int .i64 n] w fun e w'=>e= .returned (.string (bytesOf (l.take n)))∧df w' b g m (l.drop n)∧I [b] w w':=by
 have hr:=h.room;have hp:=h.pos;have hpk:=Bj w b g m l h n hn;have aap: ¬m=0:=by omega
 have H:=hid h;have HP:=hid hpk;obtain⟨S,hS⟩: ∃S,bytesOf (l.take n)=S:=⟨_,rfl⟩
 have BI:S.size=n:=by rw[←hS,an,List.length_take];omega
 rw[hS] at HP⊢;clear h hpk hS;go_enter func82,ntmps82;go_wp2_with fail
 refine HP.out.mono ?_;rintro e w1 ⟨rfl,k1⟩;have hR:=H.out.keeps k1 (by simp) (by simp);have HK:=hid k1;clear k1;by_cases h0:n=0
 ·have hc: ¬ (0:Int)<(S.size:Int):=by omega
  have HR:=hid hR;subst h0;clear hR;go_wp2_with fail
  go_ret;exact⟨rfl,by rw[List.drop_zero];exact HR.out,HK.out.mono (by simp)⟩
 ·have hc:(0:Int)<(n:Int):=by omega
  obtain⟨f,arr,mx,uw,JI,h4,h5⟩:=hR.ex;obtain⟨J,hJ⟩: ∃J,(f+n) % m=J:=⟨_,rfl⟩
  have hJm:J<m:=by rw[←hJ];exact Nat.mod_lt _ hp.1
  have eK:=da (x:=(f:Int)+(n:Int)) (by omega);have hrm:((f:Int)+(n:Int)).tmod (m:Int)=(J:Int):=by rw[Int.tmod_eq_emod_of_nonneg (by omega),←hJ];simp only[Int.natCast_emod,Int.natCast_add]
  have hwJ:IntKind.i64.wrap (J:Int)=(J:Int):=by rw[IntKind.wrap_i64];omega
  have gU:=da (x:=(l.length:Int)- (n:Int)) (by omega);have c0:=mx.cell 0;have c1:=mx.cell 1;have c2:=mx.cell 2;have f1:=mx.free 1;have f2:=mx.free 2;simp only[List.getElem?_cons_zero,List.getElem?_cons_succ] at c0 c1 c2;have HRP:=hid (df.pop mx uw JI h5 hr hp hR.ne hn hJ rfl (v2:= .int .i64 ((l.length:Int)- (n:Int))) (by rw[List.length_drop];congr 1;omega));clear hJ hR mx uw h5;go_upto_region 3 with fail;go_still_tail 15,(by kernel_rfl);change wpList _ _ _ _ _ w1.drew;go_wp2_with fail
  go_ret;exact⟨rfl,HRP.out.keeps ((I.refl [] _).drew) (by simp) (by simp),(((HK.out.mono (by simp)).setCell (inl (by simp)) _).setCell (inl (by simp)) _).drew⟩
theorem pD (w:World) (b g m:Nat) (l:List UInt8) (h:df w b g m l):Calls prog 90 #[.pointer (some ⟨b,0,none⟩)] w fun e w'=>(∃k,e= .returned (.int .i64 k))∧df w' b g m []∧I [b] w w':=by
 have hlen:=j8 w b g m l h;have ht:=mU w b g m l h l.length (Nat.le_refl _);rw[List.drop_length] at ht;have uK:=hid hlen;have HT:=hid ht;clear h hlen ht;go_enter func90,ntmps90;go_wp2_with fail
 refine uK.out.mono ?_;rintro e w1 ⟨rfl,rfl⟩;go_wp2_with fail
 refine HT.out.mono ?_;rintro e w1 ⟨rfl,h1,k1⟩;have HR:=hid h1;have HK:=hid k1;clear h1 k1;go_wp2_with fail
 go_ret;exact⟨⟨_,rfl⟩,HR.out,HK.out⟩
theorem T0:(madeCells (Value.int .u8 0).cells (64*1)).toList=bS (List.replicate 64 0):=by kernel_rfl
theorem T1 (W:World): ∃W',(Instr.makeSlice 63 (.int .i64 64) (.int .i64 64)).run prog W= .ok (.slice (some ⟨W.heap.size,0,none⟩) 64 64) W'∧Has W' W.heap.size (bS (List.replicate 64 0)) 5∧I [] W W':=by obtain⟨i0,hi,ko,gv,gW⟩:=info_parts nm;have hr:=run_makeSlice (P:=prog) W 63 5 i0 (.int .u8 0) underlying63 hi ko .i64 .i64 64 64 (by decide) (Int.le_refl _) (by rw[gv];decide) (by rw[gW];decide) (by decide);rw[gv] at hr;refine⟨_,hr,?_,(I.refl _ _).alloc _⟩;have h:=Has.aC W (madeCells (Value.int .u8 0).cells (64*1)) 5 rfl;rw[T0] at h;exact h
theorem _root_.Go.Tru.df.fresh {w:World} {b g:Nat} (h1:Has w b [.slice (some ⟨g,0,none⟩) 64 64,.int .i64 0,.int .i64 0] 121) (h2:Has w g (bS (List.replicate 64 0)) 5) (fX:b≠g):df w b g 64 []:=⟨⟨0,List.replicate 64 0,h1,h2,by decide,by decide,fun i hi=>absurd hi (by simp)⟩,by decide,by decide,fX⟩
theorem EY (w:World):Calls prog 63 #[.int .i64 64] w fun e w'=>∃b g,e= .returned (.pointer (some ⟨b,0,none⟩))∧df w' b g 64 []∧I [] w w'∧w.heap.size≤b∧w.heap.size≤g:=by
 obtain⟨W,oh,aJ,hk⟩:=T1 w;have HN:=hid aJ;have HK:=hid hk;have hz:=hk.size;have FM:=aJ.lt;clear aJ hk;go_enter func63,ntmps63;go_wp2_with fail
 go_ret;exact⟨_,_,rfl,df.fresh (Has.new _ _ _) (HN.out.alloc _) (by omega),HK.out.alloc _,by omega,by omega⟩
end Go.Proofs.YthffblhdjjbkaaaGreat
