/- session.Session.once; session.Session.once; session.Session.once; session.Session.once; session.Session.once; session.Session; session.Session -/
import Derived.Test.YthffblhdjjbkaaaGreatM41
set_option maxHeartbeats 100000000
set_option maxRecDepth 1000000
open Go.Lib (hid)
open Go.Proofs.Tryz
open Or (inl inr)
namespace Go.Proofs.YthffblhdjjbkaaaGreat
open Go.RowKit Go.Tru
theorem IF {T:Pr} {s:ag} {p:aw} (h1:s.dj= []) (h2:s.told=true) (h3:s.p=some p):s.once T=ag.end_ {s with q:=kj s.q (p.fin T).1,p:=none} (p.fin T).2.1 true:=by unfold ag.once;rw[h1,h2,h3];rfl
theorem aaz {T:Pr} {p:aw} (h:p.fE T none=true):(0≤(p.fin T).2.1∧(p.fin T).2.1≤15)∧(p.fin T).1.length≤900000:=by simp only[aw.fE,Bool.and_eq_true,decide_eq_true_eq] at h;obtain⟨⟨dW,Bg⟩,he⟩:=h;obtain⟨cS,-,-,mr⟩:=oR Bg;obtain⟨qk,-⟩:=mM dW;unfold aw.fin;rw[if_neg (by simp[dW])];rw[j7 (p:={p with bG:=p.bG.fin.2.2,cK:=true}) (e:=p.bG.fin.2.1) qk cS];exact⟨he,mr⟩
theorem XF {T:Pr} {p:aw} {b:UInt8} (h:p.fE T (some b)=true):(0≤(p.step T b.toNat).2.1∧(p.step T b.toNat).2.1≤15)∧(p.step T b.toNat).1.length≤900000:=by simp only[aw.fE,Bool.and_eq_true,decide_eq_true_eq] at h;obtain⟨⟨⟨dW,Bg⟩,-⟩,he⟩:=h;obtain⟨cS,-,-,mr⟩:=oR Bg;obtain⟨qk,-⟩:=mM dW;unfold aw.step;rw[if_neg (by simp[dW])];rw[j7 (p:={p with bG:=(p.bG.step b.toNat).2.2}) (e:=(p.bG.step b.toNat).2.1) qk cS];exact⟨he,mr⟩
theorem yg (w:World) (b g m:Nat) (h:df w b g m []):Calls prog 95 #[.pointer (some ⟨b,0,none⟩),.int .i64 1] w fun e w'=>e= .returned (.string ⟨#[]⟩)∧I [] w w':=by
 have hlen:=j8 w b g m [] h;have uK:=hid hlen;clear h hlen;go_enter func95,ntmps95;go_wp2_with fail
 refine uK.out.mono ?_;rintro e w1 ⟨rfl,rfl⟩;go_wp2_with fail
 go_loopw [5,12] (fun v i wr=>v= .slice none 0 0∧i= .int .i64 0∧wr=w) (fun _ _ _=>0);case atStart=>exact⟨rfl,rfl,rfl⟩
 case round=>
  obtain⟨rfl,rfl,rfl⟩:=hrel;have aH:=iW (bz.nil wr 0) underlying63 underlying9;go_wp2_with fail
  go_ret;exact⟨rfl,I.refl _ _⟩
theorem yh (w:World) (b g m:Nat) (h:df w b g m []):Calls prog 82 #[.pointer (some ⟨b,0,none⟩),.int .i64 1] w fun e w'=>e= .returned (.string ⟨#[]⟩)∧I [] w w':=by
 have HP:=hid (yg w b g m h);clear h;go_enter func82,ntmps82;go_wp2_with fail
 refine HP.out.mono ?_;rintro e w1 ⟨rfl,k1⟩;have HK:=hid k1;clear k1;go_wp2_with fail
 go_ret;exact⟨rfl,HK.out⟩
theorem Qq {t:bq} {N:Int} {w:World} {base sb rb rg:Nat} {qv pV:Value} {FP:List Nat} {s:ag} {p:aw} (h:bk t N w base sb rb rg qv pV FP s) (hi:s.dj= []) (ht:s.told=true) (hp:s.p=some p) (hf:p.fE t.pr none=true) (hq:cT s.q≤64):Calls prog 72 #[.pointer (some ⟨sb,0,none⟩)] w (rA t N w base sb rb rg qv FP (s.once t.pr) (.tuple #[])):=by
 rw[IF hi ht hp];obtain⟨he,hl⟩:=aaz hf;have E5:=h.pipe;rw[hp] at E5;obtain⟨pb,bs,rfl,XG,E5⟩:=E5;obtain⟨c0,-,c9,T6,-,-,-,bP,-⟩:=h.cells;simp only[dF] at c0 T6;rw[ht] at c9;have I3:=h.ring;rw[hi] at I3;have HT:=hid (yh w rb rg 64 I3);obtain⟨⟨out,e,p'⟩,hr⟩: ∃q,p.fin t.pr=q:=⟨_,rfl⟩
 have TP:=hid (fun W (k:I [] w W)=>Ql (E5.keeps k (by simp) (by simp)) hf);rw[hr] at he hl TP⊢;simp only at he hl⊢;have HG:=hid (fun W W' (k0:I [] w W) (k:I FP W W')=>(h.aI k0).gone k);have HE:=hid he;have HL:=hid hl;have HQ:=hid hq;have C0:=hid c0;have C9:=hid c9;have C10:=hid T6;have CK: ∀i∈FP,i≠sb:=fun i hi=>(h.np i hi).1;have tL:=hid CK;clear I3 E5 hr hf hi ht hp h he hl hq CK;go_enter func72,ntmps72;go_wp2_with fail
 refine HT.out.mono ?_;rintro e1 w1 ⟨rfl,k1⟩;have d9:=k1.cell C9.out (by simp);have d10:=k1.cell C10.out (by simp);have Ca:=Nat.lt_of_lt_of_le bP k1.size;have HF1:=hid (TP.out w1 k1);have K1:=hid k1;clear k1 c0 c9 T6 TP;go_wp2_with fail
 refine HF1.out.mono ?_;rintro e2 w2 ⟨rfl,k2⟩;have fD:=HG.out w1 w2 K1.out k2;have HA:=hid (Cd fD out (by have:=HQ.out;simp only;omega) (by have:=HL.out;omega));have K2:=hid k2;clear k2 fD;go_wp2_with fail
 refine HA.out.mono ?_;rintro e3 w3 ⟨rfl,qv3,g3,k3,FK⟩;have HX:=hid (Qo g3 e HE.out true (by have:=HQ.out;have:=HL.out;simp only[E4];omega));have K3:=hid k3;have Q8:=hid FK;clear g3 k3 FK;go_wp2_with fail
 refine HX.out.mono ?_;rintro e4 w4 ⟨rfl,qv4,g4,k4,fW⟩;have G4:=hid g4;have K4:=hid k4;have V0:=hid fW;clear g4 k4 fW;go_wp2_with fail
 refine bodyPost_ret_by (results_none rfl _ _ _) rfl ?_;refine⟨rfl,qv4,.pointer none,[],G4.out.level rfl,?_,kO (fun i hi=> ?_) nn⟩
 ·have ka:=(K1.out.mono nn).trans (K2.out.mono (fun i hi=>IE sb rb rg qv FP hi));have kb:=ka.trans (K3.out.mono qu);exact kb.trans' K4.out (fun i hi=>by
   rcases List.mem_cons.1 hi with rfl|hi
   ·exact inl (nO ..)
   ·rcases List.mem_cons.1 hi with rfl|hi
    ·exact inl (nP ..)
    ·exact(Q8.out i hi).imp (fun h=>rK _ _ _ _ _ h) (fun h=>Nat.le_trans K1.out.size (Nat.le_trans K2.out.size h)))
 ·rcases V0.out i hi with h|h
  ·exact(Q8.out i h).imp id (fun h=>Nat.le_trans K1.out.size (Nat.le_trans K2.out.size h))
  ·exact inr (Nat.le_trans K1.out.size (Nat.le_trans K2.out.size (Nat.le_trans K3.out.size h)))
theorem Bs {T:Pr} {s:ag} {p:aw} {b:UInt8} {r:List UInt8} (h1:s.dj=b::r) (h2:s.told=true) (h3:s.p=some p):s.once T=if(p.step T b.toNat).2.1≠0 then ag.end_ {s with dj:=r,q:=kj s.q (p.step T b.toNat).1,p:=some (p.step T b.toNat).2.2} (p.step T b.toNat).2.1 true else{s with dj:=r,q:=kj s.q (p.step T b.toNat).1,p:=some (p.step T b.toNat).2.2}:=by unfold ag.once;rw[h1,h2,h3]
theorem tl1 (b:UInt8):(bytesOf [b]).toList.isEmpty=false:=by rw[Lib.toList_data];rfl
theorem tl2 (b:UInt8): ¬ (bytesOf [b]).toList= []:=by rw[Lib.toList_data];simp[bytesOf]
theorem Ms {t:bq} {N:Int} {w:World} {base sb rb rg:Nat} {qv pV:Value} {FP:List Nat} {s:ag} {p:aw} {b:UInt8} {r:List UInt8} (h:bk t N w base sb rb rg qv pV FP s) (hi:s.dj=b::r) (ht:s.told=true) (hp:s.p=some p) (hf:p.fE t.pr (some b)=true) (hq:cT s.q≤64) (hN:0≤N∧N<100000000):Calls prog 72 #[.pointer (some ⟨sb,0,none⟩)] w (rA t (N+1) w base sb rb rg qv FP (s.once t.pr) (.tuple #[])):=by
 rw[Bs hi ht hp];obtain⟨he,hl⟩:=XF hf;have E5:=h.pipe;rw[hp] at E5;obtain⟨pb,bs,rfl,XG,E5⟩:=E5;obtain⟨c0,-,c9,T6,-,-,-,bP,-⟩:=h.cells;simp only[dF] at c0 T6;rw[ht] at c9;have I3:=mU w rb rg 64 s.dj h.ring 1 (by rw[hi];simp);rw[hi] at I3;simp only[List.take_succ_cons,List.take_zero,List.drop_succ_cons,List.drop_zero] at I3;have HT:=hid I3;obtain⟨⟨out,e,p'⟩,hr⟩: ∃q,p.step t.pr b.toNat=q:=⟨_,rfl⟩
 have hrp:rb∉FP:=fun hm=>(h.np rb hm).2.1 rfl;have uI:sb∉[rb]:=by simp[h.ne.1]
 have SV:=h.low;have Vg:sb∉FP:=fun hm=>(h.np sb hm).1 rfl;have HSP:=hid Vg;have HB0:=hid XG;have TP:=hid (fun W (k:I [rb] w W)=>Mk (E5.keeps k (fun i hi hm=>by rw[List.mem_singleton] at hm;exact hrp (hm▸hi)) (fun i hi=>by rw[List.mem_singleton] at hi;omega)) hN b hf);rw[hr] at he hl TP⊢;simp only at he hl⊢;have HI:=hid (fun W (hr:df W rb rg 64 r) (k:I [rb] w W)=>h.No hr (k.mono (fun i hi=>by rw[List.mem_singleton] at hi;simp[hi])));have HE:=hid he;have HL:=hid hl;have HQ:=hid hq;have C0:=hid c0;have C9:=hid c9;have C10:=hid T6;have HBR:=hid uI;obtain⟨S,hS⟩: ∃S,bytesOf [b]=S:=⟨_,rfl⟩
 rw[hS] at HT;have BI:S.size=1:=by rw[←hS];rfl
 have hix:Hid (∀h:0<S.size,S[0]'h=b):=hid (by rw[←hS];intro h;rfl);have hSi:S.toList.isEmpty=false:=by rw[←hS];exact tl1 b
 have hSn: ¬S.toList= []:=by rw[←hS];exact tl2 b
 obtain⟨s2,fD⟩: ∃s2,(if e≠0 then ag.end_ {s with dj:=r,q:=kj s.q out,p:=some p'} e true else{s with dj:=r,q:=kj s.q out,p:=some p'})=s2:=⟨_,rfl⟩
 rw[fD];have BJ:=hid fD;clear I3 E5 hr hf hi ht hp h he hl hq hrp SV Vg uI hN hS fD;go_enter func72,ntmps72;go_wp2_with fail
 refine HT.out.mono ?_;rintro e1 w1 ⟨rfl,BZ,k1⟩;have d9:=k1.cell C9.out HBR.out;have d10:=k1.cell C10.out HBR.out;have Ca:=Nat.lt_of_lt_of_le bP k1.size;have HF1:=hid (TP.out w1.drew k1.drew);have nH:=hid ((HI.out w1 BZ k1).aI ((I.refl [] w1).drew));have KD:=hid k1.drew;have K1:=hid k1;clear k1 BZ c0 c9 T6 TP HI;have LP: ∀w',I FP w1 w'→w'.cell? ⟨sb,10,none⟩=some (.pointer (some ⟨pb,0,none⟩)):=fun w' k=>k.cell d10 HSP.out;go_upto_region 16 with fail;refine Go.Tru.rg (fun w'=>I FP w1 w') ((I.refl _ _).drew) fun HH=> ?_;refine tk 0 HH.out ?_;try simp only[gz]
 refine tk 1 HH.out ?_;try simp only[gz]
 refine tk 2 HH.out ?_;try simp only[gz]
 refine tf 3 LP HH.out ?_;try simp only[gz]
 refine tk 4 HH.out ?_;try simp only[gz]
 refine tk 5 HH.out ?_;try simp only[gz]
 refine rd 6 fun K hK=> ?_;go_simp;simp only[hix.out];refine HF1.out.mono ?_;rintro e2 w2 ⟨rfl,xk,g2,k2,ju⟩;try simp only[]
 clear HH;refine hK.out _ _ (((I.refl FP w1).drew).trans k2) fun HH=> ?_;clear hK K;refine tk 7 HH.out ?_;try simp only[gz]
 refine tk 8 HH.out ?_;try simp only[gz]
 refine tk 9 HH.out ?_;try simp only[gz]
 refine tk 10 HH.out ?_;try simp only[gz]
 refine tk 11 HH.out ?_;try simp only[gz]
 refine wpAnyH_done (by kernel_rfl) ?_ _;have fD:=nH.out.aay rfl HB0.out g2 k2 ju;have HA:=hid (Cd fD out (by have:=HQ.out;simp only;omega) (by have:=HL.out;omega));have K2:=hid k2;have rG:=hid ju;clear g2 k2 ju fD;go_wp2_with fail
 refine HA.out.mono ?_;rintro e3 w3 ⟨rfl,qv3,g3,k3,FK⟩;have G3:=hid g3;have HX:=hid (Qo g3 e HE.out true (by have:=HQ.out;have:=HL.out;simp only[E4];omega));have K3:=hid ((((KD.out.mono (fun i hi=>by rw[List.mem_singleton] at hi;rw[hi];exact nP sb rb rg qv FP)).trans (K2.out.mono (fun i hi=>IE sb rb rg qv FP hi))).trans (k3.mono qu)));have HZ3:w.heap.size≤w2.heap.size:=Nat.le_trans KD.out.size K2.out.size;have Q8:=hid (fun i (hi:i∈ae qv3)=>(FK i hi).imp id (fun h=>Nat.le_trans HZ3 h));have aeS:=hid (fun i (hi:i∈xk)=>(rG.out i hi).imp id (fun h=>Nat.le_trans KD.out.size h));have Wo:=hid k3.size;clear g3 k3 FK;by_cases qk:e=0
 ·subst qk;have hs:=BJ.out;simp only[ne_eq,not_true_eq_false,if_false] at hs;subst hs;go_wp2_with fail
  refine bodyPost_ret_by (results_none rfl _ _ _) rfl ?_;exact⟨rfl,qv3,_,xk,G3.out,K3.out,kO Q8.out aeS.out⟩
 ·have hs:=BJ.out;rw[if_pos qk] at hs;subst hs;go_wp2_with fail
  refine HX.out.mono ?_;rintro e4 w4 ⟨rfl,qv4,g4,k4,fW⟩;have G4:=hid g4;have K4:=hid k4;have V0:=hid fW;clear g4 k4 fW;go_wp2_with fail
  refine bodyPost_ret_by (results_none rfl _ _ _) rfl ?_;refine⟨rfl,qv4,.pointer none,[],G4.out,?_,kO (fun i hi=> ?_) nn⟩
  ·exact K3.out.trans' K4.out (fun i hi=>by
    rcases List.mem_cons.1 hi with rfl|hi
    ·exact inl (nO ..)
    ·rcases List.mem_cons.1 hi with rfl|hi
     ·exact inl (nP ..)
     ·exact(Q8.out i hi).imp (fun h=>rK _ _ _ _ _ h) id)
  ·rcases V0.out i hi with h|h
   ·exact Q8.out i h
   ·exact inr (Nat.le_trans HZ3 (Nat.le_trans Wo.out h))
theorem I8 {sb rb rg:Nat} {qv:Value} {FP:List Nat}: ∀i∈ [sb,rb],i∈fH sb rb rg qv FP:=fun i hi=>by
 simp only[List.mem_cons,List.not_mem_nil,or_false] at hi
 rcases hi with rfl|rfl
 · exact nO ..
 · exact nP ..
def Vu (x:List UInt8):Prop:=(bT x).2=3∨(x∈GA)
theorem Qr {T:Pr} {s:ag} {b:UInt8} (h:s.told=false) (hf:s.fE T (some b)=true):Vu (s.header++[b]):=by
 unfold ag.fE at hf;rw[h] at hf;simp only[Bool.not_false,Bool.true_and,Bool.or_eq_true,decide_eq_true_eq,List.any_eq_true] at hf;rcases hf with h|⟨y,h1,h2⟩
 ·exact inl h
 ·exact inr (h2▸h1)
theorem Nn {x:List UInt8} (h:x∈GA):(x,(bT x).1)∈pW∧(bT x).2=0∧((bT x).1.right=true∧((bT x).1.from_=1∨(bT x).1.from_=2)):=by
 simp only[GA,List.mem_cons,List.not_mem_nil,or_false] at h;rcases h with rfl|rfl|rfl|rfl
 ·rw[show bT [84,82,1,3,3,0,50,0]=(⟨1,3,3,50,0⟩,0) by kernel_rfl];exact⟨by simp[pW],rfl,by decide⟩
 ·rw[show bT [84,82,2,1,8,7,208,0]=(⟨2,1,8,2000,0⟩,0) by kernel_rfl];exact⟨by simp[pW],rfl,by decide⟩
 ·rw[show bT [84,82,2,2,8,7,208,0]=(⟨2,2,8,2000,0⟩,0) by kernel_rfl];exact⟨by simp[pW],rfl,by decide⟩
 ·rw[show bT [84,82,2,3,8,7,208,0]=(⟨2,3,8,2000,0⟩,0) by kernel_rfl];exact⟨by simp[pW],rfl,by decide⟩
theorem I4 {x:List UInt8} (h:(bT x).2=3):(bT x).1=⟨0,0,0,0,0⟩∧x.take 2= [84,82].take x.length∧x.length<8:=by
 unfold bT at h⊢;split at h
 ·cases h
 ·rename_i h1;rw[if_neg h1];refine⟨?_,by simpa using h1,?_⟩
  ·split at h
   ·simp only at h;split at h<;>simp at h
   ·rfl
  ·split at h
   ·simp only at h;split at h<;>simp at h
   ·rename_i h2;match x,h2 with
    | [],_=>simp
    | [_],_=>simp
    | [_,_],_=>simp
    | [_,_,_],_=>simp
    | [_,_,_,_],_=>simp
    | [_,_,_,_,_],_=>simp
    | [_,_,_,_,_,_],_=>simp
    | [_,_,_,_,_,_,_],_=>simp
    |a::b::c::d::e::f::g::k::l,h2=>exact absurd rfl (h2 a b c d e f g k l)
theorem BY {x:List UInt8} (h:Vu x) (hx:1≤x.length) (w:World):Calls prog 86 #[.string (bytesOf x)] w fun e w'=>e= .returned (.tuple #[cp (bT x).1,.int .i64 (bT x).2])∧I [] w w':=by
 rcases h with h|h
 ·obtain⟨h1,h2,h3⟩:=I4 h;rw[h1,h];exact Ll x h2 h3 hx w
 ·obtain⟨h1,h2,-⟩:=Nn h;rw[h2];exact Pd h1 w
theorem uH {T:Pr} {s:ag} {b:UInt8} {r:List UInt8} (h1:s.dj=b::r) (h2:s.told=false):s.once T=if(bT (s.header++[b])).2=3 then{s with dj:=r,header:=s.header++[b]} else if(bT (s.header++[b])).2=0 then{s with dj:=r,header:=s.header++[b],bV:=(bT (s.header++[b])).1,told:=true,p:=some (aw.new (bT (s.header++[b])).1),q:=kj s.q [75]} else ag.end_ {s with dj:=r,header:=s.header++[b]} (bT (s.header++[b])).2 false:=by unfold ag.once;rw[h1,h2]
open Go.K1 in
theorem Mt {t:bq} {N:Int} {w:World} {base sb rb rg:Nat} {qv pV:Value} {FP:List Nat} {s:ag} {b:UInt8} {r:List UInt8} (h:bk t N w base sb rb rg qv pV FP s) (hi:s.dj=b::r) (ht:s.told=false) (hb:(bT (s.header++[b])).2=3):Calls prog 72 #[.pointer (some ⟨sb,0,none⟩)] w (rA t N w base sb rb rg qv FP (s.once t.pr) (.tuple #[])):=q2
theorem Sc {x:List UInt8} (h:x∈GA):x.length<9:=by simp only[GA,List.mem_cons,List.not_mem_nil,or_false] at h;rcases h with rfl|rfl|rfl|rfl<;>decide
theorem bk.ac0 {t:bq} {N M:Int} {w:World} {base bs sb rb rg pb:Nat} {qv pV:Value} {FP F:List Nat} {s:ag} {p:aw} (h:bk t N w base sb rb rg qv pV FP s) (hp:gu t M w bs pb F p) (CK:base≤bs) (hF: ∀i∈F,i≠sb∧i≠rb∧i≠rg∧i∉ae qv):bk t M (w.setCell ⟨sb,10,none⟩ (dF pb)) base sb rb rg qv (dF pb) F {s with p:=some p}:=by
 obtain⟨l0,Mr,l1,l2,l3,l4⟩:=h.low;have k:I [sb] w (w.setCell ⟨sb,10,none⟩ (dF pb)):=(I.refl [sb] _).ax _;have hT: ∀i∈ [sb],br<i:=by intro i hi;rw[List.mem_singleton] at hi;omega
 have hb:Has (w.setCell ⟨sb,10,none⟩ (dF pb)) sb ([dF rb]++[qv,.int .i64 (cT s.q)]++mO {s with p:=some p} (dF pb)) 108:=(h.q.az.set 10 (dF pb)).conv rfl
 exact⟨⟨hb,h.q.row.keeps k (fun j hj hm=>by rw[List.mem_singleton] at hm;exact h.q.own (hm▸hj)),h.q.own,h.q.full⟩,h.ring.keeps k (by simp[Ne.symm h.ne.1]) (by simp[Ne.symm h.ne.2.1]),⟨pb,bs,rfl,CK,hp.keeps k (fun i hi hm=>by rw[List.mem_singleton] at hm;exact(hF i hi).1 hm) hT⟩,h.sO.keeps k hT,h.ne,h.nq,hF,⟨l0,Nat.le_trans Mr k.size,l1,l2,l3,l4⟩⟩
open Go.K0 in
theorem Qs {t:bq} {N:Int} {w:World} {base sb rb rg:Nat} {qv pV:Value} {FP:List Nat} {s:ag} {b:UInt8} {r:List UInt8} (h:bk t N w base sb rb rg qv pV FP s) (hi:s.dj=b::r) (ht:s.told=false) (hb:(s.header++[b])∈GA) (hq:cT s.q≤64):Calls prog 72 #[.pointer (some ⟨sb,0,none⟩)] w (rA t 0 w base sb rb rg qv FP (s.once t.pr) (.tuple #[])):=q2
theorem JS {s:ag} (h:s.ready=true):cT s.q≤64:=by simp only[ag.ready,Bool.and_eq_true,decide_eq_true_eq] at h;omega
theorem rA.more {t:bq} {N M:Int} {w:World} {base sb rb rg:Nat} {qv:Value} {FP:List Nat} {s:ag} {v:Value} {r:Ending} {w':World} (hM:0≤N∧N≤M∧M≤100000000) (h:rA t N w base sb rb rg qv FP s v r w'):rA t M w base sb rb rg qv FP s v r w':=by obtain⟨h1,mB,NH,xk,h2,h3,h4⟩:=h;exact⟨h1,mB,NH,xk,h2.more hM,h3,h4⟩
theorem XH {t:bq} {N:Int} {w:World} {base sb rb rg:Nat} {qv pV:Value} {FP:List Nat} {s:ag} (h:bk t N w base sb rb rg qv pV FP s) (hr:s.ready=true) (hf:s.fE t.pr s.dj.head?=true) (hN:0≤N∧N<100000000):Calls prog 72 #[.pointer (some ⟨sb,0,none⟩)] w (rA t (N+1) w base sb rb rg qv FP (s.once t.pr) (.tuple #[])):=by
 have hq:=JS hr;cases hi:s.dj with
 |nil=>
  rw[hi] at hf;simp only[List.head?_nil] at hf;cases ht:s.told with
  |false=>unfold ag.fE at hf;rw[ht] at hf;cases hf
  |true=>
   cases hp:s.p with
   |none=>unfold ag.fE at hf;rw[ht,hp] at hf;cases hf
   |some p=>
    have hf':p.fE t.pr none=true:=by unfold ag.fE at hf;rw[ht,hp] at hf;exact hf
    exact(Qq h hi ht hp hf' hq).mono (fun e w' g=>g.more ⟨hN.1,by omega,by omega⟩)
 |cons b r=>
  rw[hi] at hf;simp only[List.head?_cons] at hf;cases ht:s.told with
  |false=>
   rcases Qr ht hf with h3|h3
   ·exact(Mt h hi ht h3).mono (fun e w' g=>g.more ⟨hN.1,by omega,by omega⟩)
   ·exact(Qs h hi ht h3 hq).mono (fun e w' g=>g.more ⟨by omega,by omega,by omega⟩)
  |true=>
   cases hp:s.p with
   |none=>unfold ag.fE at hf;rw[ht,hp] at hf;cases hf
   |some p=>
    have hf':p.fE t.pr (some b)=true:=by unfold ag.fE at hf;rw[ht,hp] at hf;exact hf
    exact Ms h hi ht hp hf' hq hN
theorem Wf {t:bq} {N:Int} {w:World} {base sb rb rg:Nat} {qv pV:Value} {FP:List Nat} {s:ag} (h:bk t N w base sb rb rg qv pV FP s) (he:s.ended=false) (e:Int) (h15:0≤e∧e≤15) (hq:cT s.q≤1000000):Calls prog 53 #[.pointer (some ⟨sb,0,none⟩),.int .i64 e] w (rA t N w base sb rb rg qv FP (s.end_ e s.told) (.bool true)):=by
 obtain⟨-,-,c9,-,-,M8,-,bP,-⟩:=h.cells;rw[he] at M8;have HE:=hid (Qo h e h15 s.told hq);obtain⟨s2,fD⟩: ∃s2,s.end_ e s.told=s2:=⟨_,rfl⟩
 rw[fD] at HE⊢;clear fD h he;generalize s.told=T at*;go_enter func53,ntmps53;go_wp2_with fail
 refine HE.out.mono ?_;rintro r w1 ⟨rfl,mB,g1,k1,hn⟩;have G1:=hid g1;have K1:=hid k1;have HN:=hid hn;clear g1 k1 hn;go_wp2_with fail
 go_ret;exact⟨rfl,mB,_,[],G1.out,K1.out.mono T5,kO (fun i hi=>HN.out i hi) nn⟩
theorem bk.fresh {t:bq} {w:World} {base sb rb rg:Nat} (hb:Has w sb [dF rb,.slice none 0 0,.int .i64 0,.string ⟨#[]⟩,.int .i64 0,.int .i64 0,.int .i64 0,.int .i64 0,.int .i64 0,.bool false,.pointer none,.bool false,.bool false,.int .i64 0] 108) (hr:df w rb rg 64 []) (ht:dt t w) (fX:sb≠rb∧sb≠rg∧rb≠rg) (h0:br<base) (hl:base≤w.heap.size∧base≤sb∧base≤rb∧base≤rg):bk t 0 w base sb rb rg (.slice none 0 0) (.pointer none) [] ag.new:=by have rX:ae (.slice none 0 0)= []:=rfl;exact⟨⟨hb.conv rfl,ec.nil _,by rw[rX];simp,by simp[ag.new]⟩,hr,⟨inl rfl,rfl⟩,ht,fX,by rw[rX];simp,nn,⟨h0,hl.1,hl.2.1,hl.2.2.1,hl.2.2.2,by rw[rX];simp⟩⟩
theorem aaA {t:bq} {w:World} {base:Nat} (ht:dt t w) (h0:br<base) (hb:base≤w.heap.size):Calls prog 31 #[] w fun r w'=>∃sb rb rg,r= .returned (dF sb)∧bk t 0 w' base sb rb rg (.slice none 0 0) (.pointer none) [] ag.new∧I [] w w'∧∀i∈fH sb rb rg (.slice none 0 0) [],w.heap.size≤i:=by
 have HT:=hid ht;have HB:=hid hb;clear ht hb;go_enter func31,ntmps31;go_wp2_with fail
 refine(EY w).mono ?_;rintro e w1 ⟨rb,rg,rfl,g1,k1,b1,b2⟩;have G1:=hid g1;have K1:=hid k1;clear g1 k1;go_wp2_with fail
 go_ret;have hz:=Has.new w1 [dF rb,.slice none 0 0,.int .i64 0,.string ⟨#[]⟩,.int .i64 0,.int .i64 0,.int .i64 0,.int .i64 0,.int .i64 0,.bool false,.pointer none,.bool false,.bool false,.int .i64 0] 108;have ka:=(I.refl [] w1).alloc (.cells [dF rb,.slice none 0 0,.int .i64 0,.string ⟨#[]⟩,.int .i64 0,.int .i64 0,.int .i64 0,.int .i64 0,.int .i64 0,.bool false,.pointer none,.bool false,.bool false,.int .i64 0].toArray 108);have hl:=G1.out.lt;have hr:=G1.out.keeps ka (by simp) (by simp);have lx:=K1.out.size;have hB:=HB.out;have hk:=K1.out.trans ka;refine⟨w1.heap.size,rb,rg,rfl,bk.fresh hz hr (HT.out.keeps hk (by simp)) ⟨by omega,by omega,hr.ne⟩ h0 ⟨Nat.le_trans hB hk.size,by omega,by omega,by omega⟩,hk,fun i hi=> ?_⟩;have rX:ae (.slice none 0 0)= []:=rfl;simp only[fH,rX,List.append_nil,List.mem_cons,List.not_mem_nil,or_false] at hi;omega
theorem JT {t:bq} {N:Int} {w:World} {base sb rb rg:Nat} {qv pV:Value} {FP:List Nat} {s:ag} (h:bk t N w base sb rb rg qv pV FP s):Calls prog 41 #[.pointer (some ⟨sb,0,none⟩)] w fun r w'=>r= .returned (.bool s.ready)∧w'=w:=by
 obtain⟨c0,-,-,-,c11,M8,-,bP,-⟩:=h.cells;simp only[dF] at c0;have HQ:=hid (mN w sb _ _ _ qv s.q h.q 1 rfl);have HR:=hid (j8 w rb rg 64 s.dj h.ring);obtain⟨ql,Mo⟩: ∃n,cT s.q=n:=⟨_,rfl⟩
 obtain⟨il,S5⟩: ∃n,s.dj.length=n:=⟨_,rfl⟩
 have hi:decide (s.dj≠[])=decide (0<il):=by rw[←S5,decide_eq_decide];exact List.length_pos_iff.symm
 have pj:s.ready=(!s.ended&&decide (ql<64)&&(decide (0<il)||s.half)):=by unfold ag.ready;rw[hi,Mo]
 rw[pj];rw[Mo] at HQ;rw[S5] at HR;clear h Mo S5 hi pj;generalize s.ended=E at M8⊢;generalize s.half=H at c11⊢;cases E with
 |true=>
  go_enter func41,ntmps41;go_wp2_with fail
  go_ret;exact⟨rfl,rfl⟩
 |false=>
  by_cases h1:ql<64
  ·have h1i:(ql:Int)<64:=by omega
   by_cases h2:0<il
   ·have YB:(0:Int)<il:=by omega
    go_enter func41,ntmps41;go_wp2_with fail
    refine HQ.out.mono ?_;rintro e w1 ⟨rfl,rfl⟩;go_wp2_with fail
    refine HR.out.mono ?_;rintro e w1 ⟨rfl,rfl⟩;go_wp2_with fail
    go_ret;exact⟨by simp[h1,h2],rfl⟩
   ·have YB: ¬ (0:Int)<il:=by omega
    go_enter func41,ntmps41;go_wp2_with fail
    refine HQ.out.mono ?_;rintro e w1 ⟨rfl,rfl⟩;go_wp2_with fail
    refine HR.out.mono ?_;rintro e w1 ⟨rfl,rfl⟩;go_wp2_with fail
    go_ret;exact⟨by simp[h1,h2],rfl⟩
  ·have h1i: ¬ (ql:Int)<64:=by omega
   go_enter func41,ntmps41;go_wp2_with fail
   refine HQ.out.mono ?_;rintro e w1 ⟨rfl,rfl⟩;go_wp2_with fail
   go_ret;exact⟨by simp,rfl⟩
theorem We {t:bq} {N:Int} {w:World} {base sb rb rg:Nat} {qv pV:Value} {FP:List Nat} {s:ag} (h:bk t N w base sb rb rg qv pV FP s):Calls prog 54 #[.pointer (some ⟨sb,0,none⟩)] w fun r w'=>r= .returned (.bool (!(s.half||s.ended)))∧bk t N w' base sb rb rg qv pV FP (if(s.half||s.ended)=true then s else{s with half:=true})∧I [sb] w w':=by
 obtain⟨s2,fD⟩: ∃s2,(if(s.half||s.ended)=true then s else{s with half:=true})=s2:=⟨_,rfl⟩
 obtain⟨B,hB⟩: ∃B,(!(s.half||s.ended))=B:=⟨_,rfl⟩
 rw[fD,hB];have BJ:=hid fD;have HB:=hid hB;obtain⟨-,-,-,-,c11,M8,-,bP,qg⟩:=h.cells;have f11:=qg 11;have HP:=hid (h.put 11 (.bool true) (s':={s with half:=true}) (fun a b=>rfl) rfl rfl rfl);have H:=hid h;obtain⟨E,hE⟩: ∃E,s.ended=E:=⟨_,rfl⟩
 obtain⟨D,hD⟩: ∃D,s.half=D:=⟨_,rfl⟩
 rw[hE] at M8;rw[hD] at c11;have HE:=hid hE;have HD:=hid hD;clear h qg hE hD fD hB;cases D with
 |true=>
  go_enter func54,ntmps54;go_wp2_with fail
  go_ret;rw[←HB.out,←BJ.out,HD.out];exact⟨rfl,H.out,I.refl _ _⟩
 |false=>
  cases E with
  |true=>
   go_enter func54,ntmps54;go_wp2_with fail
   go_ret;rw[←HB.out,←BJ.out,HD.out,HE.out];exact⟨rfl,H.out,I.refl _ _⟩
  |false=>
   go_enter func54,ntmps54;go_wp2_with fail
   go_ret;have h2:s2={s with half:=true}:=by rw[←BJ.out,HD.out,HE.out];rfl
   have h3:B=true:=by rw[←HB.out,HD.out,HE.out];rfl
   rw[h2,h3];exact⟨rfl,HP.out,(I.refl [sb] _).ax _⟩
theorem T7 {t:bq} {N:Int} {w:World} {base sb rb rg:Nat} {qv pV:Value} {FP:List Nat} {s:ag} (h:bk t N w base sb rb rg qv pV FP s):Calls prog 55 #[.pointer (some ⟨sb,0,none⟩)] w fun r w'=>r= .returned (.tuple #[.int .i64 s.e,.bool s.ended])∧I [] w w':=by
 obtain⟨-,-,-,-,-,M8,c13,bP,-⟩:=h.cells;clear h;go_enter func55,ntmps55;go_wp2_with fail
 go_quiet (fail)
 go_wp2_with fail
 go_ret2;exact⟨rfl,(I.refl _ _).drewN _⟩
theorem Qt {t:bq} {N:Int} {w:World} {base sb rb rg:Nat} {qv pV:Value} {FP:List Nat} {s:ag} (h:bk t N w base sb rb rg qv pV FP s):Calls prog 49 #[.pointer (some ⟨sb,0,none⟩)] w fun r w'=>r= .returned (.bool (s.ended&&decide (cT s.q=0)))∧w'=w:=by
 obtain⟨-,-,-,-,-,M8,-,bP,-⟩:=h.cells;have HQ:=hid (mN w sb _ _ _ qv s.q h.q 1 rfl);obtain⟨ql,Mo⟩: ∃n,cT s.q=n:=⟨_,rfl⟩
 rw[Mo] at HQ⊢;clear h Mo;generalize s.ended=E at M8⊢;cases E with
 |true=>
  by_cases h0:ql=0
  ·subst h0;go_enter func49,ntmps49;go_wp2_with fail
   refine HQ.out.mono ?_;rintro e w1 ⟨rfl,rfl⟩;go_wp2_with fail
   go_ret;exact⟨rfl,rfl⟩
  ·have h0i:((ql:Int)==0)=false:=by simp[h0]
   go_enter func49,ntmps49;go_wp2_with fail
   refine HQ.out.mono ?_;rintro e w1 ⟨rfl,rfl⟩;go_wp2_with fail
   go_ret;exact⟨by simp[h0],rfl⟩
 |false=>
  go_enter func49,ntmps49;go_wp2_with fail
  go_ret;exact⟨rfl,rfl⟩
theorem JU {t:bq} {N:Int} {w:World} {base sb rb rg:Nat} {qv pV:Value} {FP:List Nat} {s:ag} (h:bk t N w base sb rb rg qv pV FP s):Calls prog 43 #[.pointer (some ⟨sb,0,none⟩)] w fun r w'=>r= .returned (.tuple #[cp s.bV,.bool s.told])∧I [] w w':=by
 obtain⟨-,-,c9,-,-,-,-,bP,-⟩:=h.cells;obtain⟨c4,c5,c6,c7,c8⟩:=h.bV;clear h;unfold cp;generalize s.bV.from_=x4 at*;generalize s.bV.to=x5 at*;generalize s.bV.depth=x6 at*;generalize s.bV.jr=x7 at*;generalize s.bV.cN=x8 at*;generalize s.told=x9 at*;obtain⟨n0,Fw⟩: ∃n,w.heap.size=n:=⟨_,rfl⟩
 have fX:sb∉[n0]:=by rw[List.mem_singleton];omega
 have kw:=(I.refl [] w).alloc (.cells #[.int .i64 0,.int .i64 0,.int .i64 0,.int .i64 0,.int .i64 0] 25);have hz:=Has.aC w #[.int .i64 0,.int .i64 0,.int .i64 0,.int .i64 0,.int .i64 0] 25 (n:=n0) Fw.symm;go_enter func43,ntmps43;go_wp2_with fail
 obtain⟨W0,WA⟩: ∃W0,w.alloc (.cells #[.int .i64 0,.int .i64 0,.int .i64 0,.int .i64 0,.int .i64 0] 25)=W0:=⟨_,rfl⟩
 rw[WA] at kw hz⊢;have L0: ∀w',I [n0] W0 w'→(w'.cell? ⟨sb,4,none⟩=some (.int .i64 x4)∧w'.cell? ⟨sb,5,none⟩=some (.int .i64 x5)∧w'.cell? ⟨sb,6,none⟩=some (.int .i64 x6)∧w'.cell? ⟨sb,7,none⟩=some (.int .i64 x7)∧w'.cell? ⟨sb,8,none⟩=some (.int .i64 x8)):=fun w' k=>⟨k.cell (kw.cell c4 (by simp)) fX,k.cell (kw.cell c5 (by simp)) fX,k.cell (kw.cell c6 (by simp)) fX,k.cell (kw.cell c7 (by simp)) fX,k.cell (kw.cell c8 (by simp)) fX⟩
 have L1: ∀w',I [n0] W0 w'→w'.cell? ⟨sb,9,none⟩=some (.bool x9):=fun w' k=>k.cell (kw.cell c9 (by simp)) fX;have KW:=hid kw;have HZ:=hid hz;have HN:=hid Fw;have z0:=hz.cell 0;have z1:=hz.cell 1;have z2:=hz.cell 2;have z3:=hz.cell 3;have z4:=hz.cell 4;have f0:=hz.free 0;have f1:=hz.free 1;have f2:=hz.free 2;have f3:=hz.free 3;have f4:=hz.free 4;have zl:=hz.lt;simp only[List.getElem?_cons_zero,List.getElem?_cons_succ] at z0 z1 z2 z3 z4;clear kw hz Fw WA c4 c5 c6 c7 c8 c9;refine Go.Tru.rg (fun w'=>I [n0] W0 w') ((I.refl _ _).drew) fun HH=> ?_;refine tk 0 HH.out ?_;try simp only[gz]
 refine tk 1 HH.out ?_;try simp only[gz]
 refine tk 2 HH.out ?_;try simp only[gz]
 refine tf 3 L0 HH.out ?_;try simp only[gz]
 refine tk 4 HH.out ?_;try simp only[gz]
 refine tk 5 HH.out ?_;try simp only[gz]
 refine tk 6 HH.out ?_;try simp only[gz]
 refine tf 7 L1 HH.out ?_;try simp only[gz]
 refine rd 8 fun K hK=> ?_;go_simp;refine hK.out _ _ (((((HH.out.ax _).ax _).ax _).ax _).ax _) fun HH=> ?_;clear hK K;refine tk 9 HH.out ?_;try simp only[gz]
 refine wpAnyH_done (by kernel_rfl) ?_ _;go_wp2_with fail
 have gW:=((((((HZ.out.set 0 (.int .i64 x4)).set 1 (.int .i64 x5)).set 2 (.int .i64 x6)).set 3 (.int .i64 x7)).set 4 (.int .i64 x8)).keeps ((I.refl [] _).drew) (by simp))
 have y0:=gW.cell 0;have y1:=gW.cell 1;have y2:=gW.cell 2;have y3:=gW.cell 3;have y4:=gW.cell 4;simp only[List.set_cons_zero,List.set_cons_succ,List.getElem?_cons_zero,List.getElem?_cons_succ] at y0 y1 y2 y3 y4;have ke:=KW.out.trans' ((((((I.refl [n0] W0).ax (i:=0) (.int .i64 x4)).ax (i:=1) (.int .i64 x5)).ax (i:=2) (.int .i64 x6)).ax (i:=3) (.int .i64 x7)).ax (i:=4) (.int .i64 x8)).drew (fun i hi=>inr (by rw[List.mem_singleton] at hi;have:=HN.out;omega));refine bodyPost_ret (v:= .tuple #[.agg #[.int .i64 x4,.int .i64 x5,.int .i64 x6,.int .i64 x7,.int .i64 x8],.bool x9]) ?_ rfl ⟨rfl,ke⟩;clear z0 z1 z2 z3 z4 f0 f1 f2 f3 f4 ke gW;rw[results_cell_tmp rfl];go_simp
theorem T8 {t:bq} {N:Int} {w:World} {base sb rb rg:Nat} {qv pV:Value} {FP:List Nat} {s:ag} (h:bk t N w base sb rb rg qv pV FP s) (n:Nat) (hq:cT s.q≤900000):Calls prog 48 #[.pointer (some ⟨sb,0,none⟩),.int .i64 n] w fun r w'=>r= .returned (.string (bytesOf (bm n s.q).1))∧∃mB,bk t N w' base sb rb rg mB pV FP {s with q:=(bm n s.q).2}∧I (sb::ae qv) w w'∧∀i∈ae mB,i∈ae qv:=by
 have HQ:=hid (Mp w sb _ _ _ qv s.q h.q 1 rfl n hq);have H:=hid h;have bP:=h.q.az.lt;clear h;go_enter func48,ntmps48;go_wp2_with fail
 refine HQ.out.mono ?_;rintro e w1 ⟨rfl,mB,g1,k1,hn⟩;have HS:=hid (H.out.queue g1 k1 (fun i hi=>inl (hn i hi)));have K1:=hid k1;have HN:=hid hn;clear g1 k1 hn;go_wp2_with fail
 go_ret;exact⟨rfl,mB,HS.out,K1.out,HN.out⟩
def Qu:Option aw→Int
 |none=>0
 |some p=>p.mH
theorem Mu (s:ag):s.bj=if s.ended then(s.dj.length:Int)+cT s.q else(s.dj.length:Int)+cT s.q+Qu s.p+2:=by unfold ag.bj;cases s.p<;>rfl
theorem tG {t:bq} {N:Int} {w:World} {base pb:Nat} {F:List Nat} {p:aw} (h:gu t N w base pb F p):0≤p.mH∧p.mH≤1200000:=by obtain⟨ob,sb,rb,ov,hv,sv,G,h1,h2,-⟩:=h;have hr:=wO h2;have hh:=yZ h1.hold;rw[ET];split<;>omega
theorem E6 {t:bq} {N:Int} (hN:0≤N) {w:World} {base sb rb rg:Nat} {qv pV:Value} {FP:List Nat} {s:ag} (h:bk t N w base sb rb rg qv pV FP s) (hq:cT s.q≤1000000):Calls prog 64 #[.pointer (some ⟨sb,0,none⟩)] w fun r w'=>r= .returned (.int .i64 s.bj)∧∃m,w'=w.drewN m:=by
 rw[Mu];obtain⟨c0,-,-,T6,-,M8,-,bP,-⟩:=h.cells;simp only[dF] at c0;have hd: ∀n,bk t N (w.drewN n) base sb rb rg qv pV FP s:=fun n=>h.aI ((I.refl [] w).drewN n);have HQ:=hid (fun n=>mN (w.drewN n) sb _ _ _ qv s.q (hd n).q 1 rfl);have HR:=hid (fun n=>j8 (w.drewN n) rb rg 64 s.dj (hd n).ring);have S5:=h.ring.room;have HD:=hid hd;obtain⟨ql,Mo⟩: ∃n,cT s.q=n:=⟨_,rfl⟩
 obtain⟨il,T9⟩: ∃n,s.dj.length=n:=⟨_,rfl⟩
 rw[Mo] at HQ hq⊢;rw[T9] at HR S5⊢;have eK:=da (x:=(il:Int)+ql) (by omega);generalize s.ended=E at M8⊢;cases E with
 |true=>
  clear h hd Mo T9;go_enter func64,ntmps64;go_wp2_with fail
  go_quiet (first|(refine(HR.out _).mono ?_;rintro e w' ⟨rfl,rfl⟩;exact⟨rfl,_,rfl⟩)|(refine(HQ.out _).mono ?_;rintro e w' ⟨rfl,rfl⟩;exact⟨rfl,_,rfl⟩))
  go_wp2_with fail
  go_ret;exact⟨rfl,_,rfl⟩
 |false=>
  cases hp:s.p with
  |none=>
   have oU:=h.pipe;rw[hp] at oU;obtain rfl:pV= .pointer none:=oU.1.resolve_right (by omega);have gU:=da (x:=(il:Int)+ql+2) (by omega);clear h hd Mo T9;go_enter func64,ntmps64;go_wp2_with fail
   go_quiet (first|(refine(HR.out _).mono ?_;rintro e w' ⟨rfl,rfl⟩;exact⟨rfl,_,rfl⟩)|(refine(HQ.out _).mono ?_;rintro e w' ⟨rfl,rfl⟩;exact⟨rfl,_,rfl⟩))
   go_wp2_with fail
   go_ret;exact⟨by simp[Qu],_,rfl⟩
  |some p=>
   have oU:=h.pipe;rw[hp] at oU;obtain⟨pb,bs,rfl,XG,E5⟩:=oU;obtain⟨gv,gW⟩:=tG E5;have HPH:=hid (fun n=>Mm (E5.keeps ((I.refl [] w).drewN n) (by simp) (by simp)));have tr:Qu (some p)=p.mH:=rfl;rw[tr];obtain⟨hn,hhn⟩: ∃n,p.mH=n:=⟨_,rfl⟩
   rw[hhn] at gv gW HPH⊢;simp only[dF] at T6;have gU:=da (x:=(il:Int)+ql+hn) (by omega);have jN:=da (x:=(il:Int)+ql+hn+2) (by omega);clear h hd Mo T9 E5 tr hhn hp;go_enter func64,ntmps64;go_wp2_with fail
   go_quiet (first|(refine(HR.out _).mono ?_;rintro e w' ⟨rfl,rfl⟩;exact⟨rfl,_,rfl⟩)|(refine(HQ.out _).mono ?_;rintro e w' ⟨rfl,rfl⟩;exact⟨rfl,_,rfl⟩))
   go_wp2_with fail
   refine(HPH.out _).mono ?_;rintro e w' ⟨rfl,m,rfl⟩;go_wp2_with fail
   go_ret;exact⟨rfl,_,rfl⟩
theorem XI {t:bq} {N:Int} {w:World} {base sb rb rg:Nat} {qv pV:Value} {FP:List Nat} {s:ag} (h:bk t N w base sb rb rg qv pV FP s) (b:ByteArray) (hb:b.size≤1000000) (room:Int):Calls prog 38 #[.pointer (some ⟨sb,0,none⟩),.string b,.int .i64 room] w fun r w'=>r= .returned (.int .i64 (s.feed b.data.toList room).1)∧bk t N w' base sb rb rg qv pV FP (s.feed b.data.toList room).2∧I [rb,rg] w w':=by
 obtain⟨⟨n,s2⟩,hf⟩: ∃f,s.feed b.data.toList room=f:=⟨_,rfl⟩
 rw[hf];have HF:=hid hf;obtain⟨c0,-,-,-,c11,M8,-,bP,-⟩:=h.cells;simp only[dF] at c0;have H:=hid h;obtain⟨E,hE⟩: ∃E,s.ended=E:=⟨_,rfl⟩
 obtain⟨D,hD⟩: ∃D,s.half=D:=⟨_,rfl⟩
 rw[hE] at M8;rw[hD] at c11;have HE:=hid hE;have HD:=hid hD;cases D with
 |true=>
  clear h hE hD hf;go_enter func38,ntmps38;go_wp2_with fail
  go_ret;have h2:(n,s2)=(0,s):=by rw[←HF.out];unfold ag.feed;rw[if_pos (by simp[HD.out])]
  injection h2 with h2 h3;subst h2 h3;exact⟨rfl,H.out,I.refl _ _⟩
 |false=>
  cases E with
  |true=>
   clear h hE hD hf;go_enter func38,ntmps38;go_wp2_with fail
   go_ret;have h2:(n,s2)=(0,s):=by rw[←HF.out];unfold ag.feed;rw[if_pos (by simp[HE.out])]
   injection h2 with h2 h3;subst h2 h3;exact⟨rfl,H.out,I.refl _ _⟩
  |false=>
   obtain⟨m,hm⟩: ∃m:Nat,m=min b.size room.toNat:=⟨_,rfl⟩
   have Wc:m≤b.size:=by omega
   have gp:=hid (EW w.drew rb rg 64 s.dj (b.extract 0 m) (h.ring.keeps ((I.refl [] w).drew) (by simp) (by simp)) (by rw[ByteArray.size_extract];omega) _ rfl);have hfd:s.feed b.data.toList room=(min m (64-s.dj.length),{s with dj:=s.dj++b.data.toList.take (min m (64-s.dj.length))}):=by
    unfold ag.feed;rw[if_neg (by simp[hE,hD])];have e:b.data.toList.length=b.size:=by rw[Array.length_toList];rfl
    simp only[e,←hm]
   have hex:(b.extract 0 m).size=m:=by rw[ByteArray.size_extract];omega
   rw[hex] at gp;have HFD:=hid (hf.symm.trans hfd);have aaD:(b.extract 0 m).data.toList.take (min m (64-s.dj.length))=b.data.toList.take (min m (64-s.dj.length)):=by rw[Lib.extract_data];simp only[List.drop_zero,Nat.sub_zero,List.take_take];congr 1;omega
   have HL:=hid aaD;have hmi:(m:Int)≤b.size:=by omega
   have hm0:(0:Int)≤m:=by omega
   have hmx:min (b.size:Int) (max room 0)=(m:Int):=by omega
   have Af: ∀W,(Instr.slice 9 (.string b) none (some (.int .i64 (m:Int))) none).run prog W= .ok (.string (b.extract 0 m)) W:=fun W=>by rw[run_slice_string_to_if W 9 b .i64 m underlying9,if_pos (by omega)];simp
   clear h hE hD hf hfd aaD hex hm;go_enter func38,ntmps38;go_wp2_with fail
   go_still_tail 11,(by kernel_rfl);change wpList _ _ _ _ _ w.drew;go_wp2_with fail
   refine gp.out.mono ?_;rintro e w1 ⟨rfl,g1,k1⟩;rw[HL.out] at g1;have fD:=(H.out.aI ((I.refl [] w).drew)).No g1 k1;have BJ:=hid fD;have K1:=hid (((I.refl [rb,rg] w).drew).trans k1);clear g1 k1 fD;go_wp2_with fail
   go_ret;have h3:=HFD.out;injection h3 with h3 h4;subst h3 h4;exact⟨rfl,BJ.out,K1.out⟩
end Go.Proofs.YthffblhdjjbkaaaGreat
