/- The writers take a document's parts; What a session of CBOR tells of a document that lacks its second half; The forms of a part that may be written; The writers' containers; A writer in memory -/
import Derived.Test.YthffblhdjjbkaaaGreatM30
import Derived.Test.YthffblhdjjbkaaaGreatM23
set_option maxHeartbeats 100000000
set_option maxRecDepth 1000000
open Go.Lib (hid)
open Go.Proofs.Tryz
open Or (inl inr)
namespace Go.Tru
structure Pr.Small (T:Pr):Prop where
 num: ∀n m,(T.num n m).length≤30
 RC: ∀l,(T.RC l).length≤6*l.length
theorem kX (v:Nat): ∀ (l:List Nat) (first:Nat),(∀n∈l,n≤8)→(gC first l v).length≤9
 | [],_,_=>by simp[gC]
 |n::r,first,h=>by
  unfold gC;split
  ·have:=h n ms;simp only[List.length_append,bp];omega
  ·exact kX v r (first+1) (fun m hm=>h m (List.mem_cons_of_mem _ hm))
theorem CP (p:Ev):(bZ p).length≤p.text.size+9:=by
 have hd:p.text.data.toList.length=p.text.size:=by rw[Array.length_toList];rfl
 unfold bZ;repeat' split
 all_goals try simp only[List.length_append,List.length_cons,List.length_nil,hd]
 all_goals have h0:=dd 0 p.jM.toNat;have h1:=dd 1 p.jM.toNat;have h2:=dd 2 p.text.size;have h3:=dd 3 p.text.size;omega
theorem CQ (m:Nat):(fc m).1.length≤9:=by
 unfold fc;repeat' split
 all_goals simp[bp]
theorem GH {m:Nat} (h:m≤9223372036854775807):(fc m).2=0:=by
 unfold fc;rw[if_neg (by omega)];repeat' split
 all_goals rfl
theorem CR (p:Ev):(aW p).1.length≤p.text.size+9:=by
 have hd:p.text.data.toList.length=p.text.size:=by rw[Array.length_toList];rfl
 unfold aW;repeat' split
 all_goals try simp only[List.length_append,List.length_cons,List.length_nil,hd,bp]
 all_goals
  first
  |omega
  |(have:=CQ p.jM.toNat;omega)
  |(have:=kX p.jM.toNat [1,2,4,8] 204 (by simp);omega)
  |(have:=kX p.text.size [1,2,4] 217 (by simp);omega)
  |(have:=kX p.text.size [1,2,4] 196 (by simp);omega)
theorem CS (m:Bool) (n:Int):(cl m n).1.length≤9:=by
 unfold cl;repeat' split
 all_goals try simp only[List.length_nil,bp]
 all_goals
  first
  |omega
  |exact kX n.toNat [2,4] _ (by simp)
theorem j4 {T:Pr} (hT:T.Small) (p:Ev):(dM T p).length≤6*p.text.size+30:=by
 have hd:p.text.data.toList.length=p.text.size:=by rw[Array.length_toList];rfl
 have he:=hT.RC p.text.data.toList;have hn:=hT.num p.yes p.jM;rw[hd] at he;unfold dM;repeat' split
 all_goals try simp only[List.length_append,List.length_cons,List.length_nil]
 all_goals omega
theorem vP (w:Wr) (p:Ev):(kg w p).1.length≤p.text.size+9:=by
 unfold kg;split
 ·simp only[];split
  ·simp
  ·have:=dd (if p.kind=6 then 5 else 4) p.count.toNat;omega
 ·exact CP p
theorem vQ (w:Wr) (p:Ev):(kh w p).1.length≤p.text.size+9:=by
 unfold kh;split
 ·have:=CS (decide (p.kind=6)) p.count;split;rename_i o e h;rw[h] at this;split
  ·simp
  ·simp only[] at this⊢;omega
 ·have:=CR p;split;rename_i o e h;rw[h] at this;split
  ·simp
  ·simp only[] at this⊢;omega
theorem vR {T:Pr} (hT:T.Small) (w:Wr) (a:List UInt8) (p:Ev):(ki T w a p).1.length≤a.length+6*p.text.size+30:=by
 unfold ki;split
 ·simp only[List.length_append,List.length_cons,List.length_nil];omega
 ·have:=j4 hT p;simp only[List.length_append];omega
theorem qL {T:Pr} (hT:T.Small) (o:Out) (v:Ev):(o.step T v).1.length≤6*v.text.size+31:=by
 cases o with
 |js w=>
  show(bF T w v).1.length≤_;unfold bF;split
  ·simp
  ·split
   ·unfold lS;repeat' split
    all_goals simp
    all_goals omega
   ·split
    ·have:=vR hT w [] v;simp only[List.length_nil] at this;omega
    ·rename_i c _ _;split
     ·simp
     ·refine Nat.le_trans (vR hT w _ v) ?_;have:(if c.aj then [58] else if 0<c.parts then [44] else([]:List UInt8)).length≤1:=by
       repeat' split
       all_goals simp
      omega
 |cb w=>
  show(bB w v).1.length≤_;unfold bB;split
  ·simp
  ·split
   ·unfold kC;repeat' split
    all_goals simp
    all_goals omega
   ·split
    ·have:=vP w v;omega
    ·repeat' split
     all_goals first|(simp;done)|(have:=vP w v;omega)
 |pk w=>
  show(bC w v).1.length≤_;unfold bC;split
  ·simp
  ·split
   ·repeat' split
    all_goals simp
   ·split
    ·have:=vQ w v;omega
    ·repeat' split
     all_goals first|(simp;done)|(have:=vQ w v;omega)
theorem zQ (T:Pr): ∀ (l:List Ev) (o:Out),o.may T l=true→(o.all T l).2.1=0
 | [],o,_=>rfl
 |v::l,o,h=>by simp only[Out.may,Bool.and_eq_true,decide_eq_true_eq] at h;obtain⟨⟨⟨h1,h2⟩,h3⟩,h4⟩:=h;rw[dJ T l h2];exact zQ T l _ h4
theorem vS (T:Pr): ∀ (a b:List Ev) (o:Out),o.may T (a++b)=(o.may T a&&(o.all T a).2.2.may T b)
 | [],b,o=>by simp[Out.may,Out.all]
 |v::a,b,o=>by
  rw[List.cons_append,Out.may,Out.may,vS T a b];by_cases h:(o.step T v).2.1=0
  ·rw[dJ T a h];simp only[Bool.and_assoc]
  ·simp[h]
theorem oj (T:Pr): ∀ (l:List Ev) (p:aw),p.ns→(∀v∈l,v.loose=false)→p.out.may T l=true→p.gD T l=true
 | [],p,_,_,_=>rfl
 |v::l,p,hp,hl,h=>by have hv:=qP hp (hl v ms);simp only[Out.may,Bool.and_eq_true,decide_eq_true_eq] at h;obtain⟨⟨⟨h1,h2⟩,h3⟩,h4⟩:=h;simp only[aw.gD,hv,Bool.and_eq_true,decide_eq_true_eq,Out.may,h1,h2,h3,and_self,true_and,aw.put,Out.all];simp only[ne_eq,not_true_eq_false,if_false];exact oj T l _ hp (fun x hx=>hl x (List.mem_cons_of_mem _ hx)) h4
theorem uv {T:Pr} (hT:T.Small): ∀ (l:List Ev) (o:Out),(∀v∈l,v.text.size≤200)→(o.all T l).1.length≤1300*l.length
 | [],o,_=>by simp[Out.all]
 |v::l,o,h=>by
  have h1:=qL hT o v;have h2:=h v ms;by_cases k:(o.step T v).2.1=0
  ·have h3:=uv hT l (o.step T v).2.2 (fun x hx=>h x (List.mem_cons_of_mem _ hx));rw[dJ T l k];simp only[List.length_append,List.length_cons];omega
  ·rw[jb T l k];simp only[List.length_cons];omega
theorem tq {T:Pr} (hT:T.Small) {p:aw} {l:List Ev} (he:p.e=0) (hp:p.ns) (hl: ∀v∈l,v.loose=false∧v.text.size≤200) (hm:p.out.may T l=true) (hn:l.length≤18):p.Ww T l=true:=by have h1:=oj T l p hp (fun v hv=>(hl v hv).1) hm;have h2:=uv hT l p.out (fun v hv=>(hl v hv).2);have h3:=nt T l p he hp (fun v hv=>(hl v hv).1);unfold aw.Ww;rw[h1,h3];simp only[Bool.true_and,Bool.and_eq_true,decide_eq_true_eq,List.all_eq_true];refine⟨⟨fun v hv=> ?_,by omega⟩,by omega⟩;have:=(hl v hv).2;omega
theorem yP {T:Pr} (hT:T.Small): ∀ (X:List UInt8) (c:Cb) (p:aw) (N:Int),0≤N→p.bG= .cb c→p.e=0→p.cK=false→c.c.e=0→c.Fit N→p.ns→(∀s,p.hold=some s→s.size=0)→(∀v∈(c.run X).1,v.loose=false∧v.text.size≤200)→p.out.may T (c.run X).1=true→(0≤(c.run X).2∧(c.run X).2≤15)→sj T X p
 | [],c,p,N,hN,hi,he,ho,hc,hf,hp,hz,hl,ha,h15=>by
  refine⟨?_,?_⟩
  ·simp[aw.fE,hi,Rd.fin,aw.may,he,ho,aw.gD,aw.Ww,aw.gZ];simpa[Cb.run] using h15
  ·simp[aw.fin,aw.may,he,ho,hi,Rd.fin,aw.write,aw.gZ]
 |b::r,c,p,N,hN,hi,he,ho,hc,hf,hp,hz,hl,ha,h15=>by
  have dW:p.may=0:=by simp[aw.may,he,ho]
  have Zb:(0:Int)≤(b.toNat:Int):=by omega
  have BE:((b.toNat:Nat):Int)≤255:=by have:=b.toNat_lt;omega
  have hlen:=nQ hf Zb;have U1:=Cb.dN hN hf ⟨Zb,BE⟩;rw[Cb.run] at hl ha h15;by_cases h:(c.step b.toNat).2.c.e=0
  ·have h': ¬ ((c.step b.toNat).2.c.e≠0):=by simp[h]
   rw[if_neg h'] at hl ha h15;simp only[] at hl ha h15;rw[vS,Bool.and_eq_true] at ha;obtain⟨hm,ha⟩:=ha;have ha1:=zQ T _ _ hm;have pg: ∀v∈(c.step b.toNat).1,v.loose=false∧v.text.size≤200:=fun v hv=>hl v (List.mem_append_left _ hv);have hw:=jP T (c.step b.toNat).1 {p with bG:= .cb (c.step b.toNat).2} (c.step b.toNat).2.c.e he hp (fun v hv=>(pg v hv).1) ha1;rw[h] at hw;have dP:p.step T b.toNat=((p.out.all T (c.step b.toNat).1).1,0,{p with bG:= .cb (c.step b.toNat).2,out:=(p.out.all T (c.step b.toNat).1).2.2,e:=0}):=by unfold aw.step;rw[if_neg (by simp[dW]),hi];simp only[Rd.step,h,hw]
   have Lg:=uv hT (c.step b.toNat).1 p.out (fun v hv=>(pg v hv).2);refine⟨?_,by rw[dP];simp only[];omega,fun _=>⟨?_,?_⟩⟩
   ·simp only[aw.fE,hi,Rd.step,dW,decide_true,Bool.true_and,Rd.O5,Bool.and_true];rw[Bool.and_eq_true];exact⟨tq hT he hp pg hm hlen,by rw[h];rfl⟩
   ·rw[dP];have hh:aw.mH {p with bG:= .cb (c.step b.toNat).2,out:=(p.out.all T (c.step b.toNat).1).2.2,e:=0}≤(c.step b.toNat).2.c.held:=by
     unfold aw.mH;rw[if_neg (by simp[aw.may,ho])];simp only[Rd.held];cases tr:p.hold with
     |none=>simp
     |some s=>simp[hz s tr]
    have s5:=U1.core;have fa:(c.step b.toNat).2.c.held≤216:=by have h1:=s5.opens;have h2:=s5.depth;have h3:=s5.aT;unfold Core.held;split<;>omega
    simp only[] at hh⊢;omega
   ·rw[dP];exact yP hT r (c.step b.toNat).2 {p with bG:= .cb (c.step b.toNat).2,out:=(p.out.all T (c.step b.toNat).1).2.2,e:=0} (N+1) (by omega) rfl rfl ho h U1 hp hz (fun v hv=>hl v (List.mem_append_right _ hv)) ha h15
  ·rw[if_pos h] at hl ha h15;simp only[] at hl ha h15;have hw:=jP T (c.step b.toNat).1 {p with bG:= .cb (c.step b.toNat).2} (c.step b.toNat).2.c.e he hp (fun v hv=>(hl v hv).1) (zQ T _ _ ha);have dP:p.step T b.toNat=((p.out.all T (c.step b.toNat).1).1,(c.step b.toNat).2.c.e,{p with bG:= .cb (c.step b.toNat).2,out:=(p.out.all T (c.step b.toNat).1).2.2,e:=(c.step b.toNat).2.c.e}):=by unfold aw.step;rw[if_neg (by simp[dW]),hi];simp only[Rd.step,hw]
   have Lg:=uv hT (c.step b.toNat).1 p.out (fun v hv=>(hl v hv).2);refine⟨?_,by rw[dP];simp only[];omega,fun h2=> ?_⟩
   ·simp only[aw.fE,hi,Rd.step,dW,decide_true,Bool.true_and,Rd.O5,Bool.and_true];rw[Bool.and_eq_true,decide_eq_true_eq];exact⟨tq hT he hp hl ha hlen,h15⟩
   ·rw[dP] at h2;exact absurd h2 h
/-! ### a document's parts -/
theorem yQ {c:af} (hf:CH c) (h:c.parts<eX c):c.filled=false:=by
 obtain⟨m,n,p⟩:=c;have:=hf.count;have:=hf.parts;cases m
 ·simp only[eX,af.filled] at*;simp at*;omega
 ·simp only[eX,af.filled] at*;simp at*;intro _;omega
theorem GI {c:af} (hf:CH c) (h:c.parts=eX c):c.filled=true∧c.aj=false:=by
 obtain⟨m,n,p⟩:=c;have:=hf.count;cases m
 ·simp only[eX,af.filled,af.aj] at*;simp at*;omega
 ·simp only[eX,af.filled,af.aj] at*;simp at*;omega
theorem CT {c:af} (h:c.bg=true→c.parts % 2=1):(c.bg&& !c.aj)=false:=by
 unfold af.aj;cases hp:c.bg with
 |false=>rfl
 |true=>
  have:=h hp;have h2:0<c.parts % 2:=by omega
  simp[h2]
theorem Ju {c:af} {r:List af} {e:Ev} (h:M4 (c::r) e) (h7:e.kind≠7):c.filled=false∧(c.bg&& !c.aj&& !decide (e.kind=3))=false:=by
 obtain⟨-,h⟩:=h;have val:CI (c::r)→c.filled=false∧(c.bg&& !c.aj&& !decide (e.kind=3))=false:=by
  rintro(h|⟨c',r',h1,h2,h3,h4⟩)
  ·cases h
  ·injection h1 with h1 h5;subst h1;exact⟨yQ h2 h3,by rw[CT h4];rfl⟩
 rcases h with⟨-,h⟩|⟨⟨t,-,rfl⟩,c',r',h1,h2,h3,h4,h5⟩|⟨-,h⟩|⟨rfl,-⟩
 ·exact val h
 ·injection h1 with h1 h6;subst h1;exact⟨yQ h2 h3,by simp[ah]⟩
 ·exact val h
 ·exact absurd rfl h7
theorem S7 {c:af} {r:List af} {e:Ev} (h:M4 (c::r) e) (h7:e.kind=7):c.filled=true∧c.aj=false:=by
 obtain⟨-,h⟩:=h;rcases h with⟨h,-⟩|⟨⟨t,-,rfl⟩,-⟩|⟨⟨m,n,-,rfl⟩,-⟩|⟨-,c',r',h1,h2,h3⟩
 ·rcases h with rfl|⟨b,rfl⟩|⟨b,m,_,rfl⟩|⟨t,_,rfl⟩<;>simp[ar,aq,ay,ah] at h7
 ·simp[ah] at h7
 ·cases m<;>simp[aX,aN,aO] at h7
 ·injection h1 with h1 h6;subst h1;exact GI h2 h3
theorem O7 {s:List af} {e:Ev} (h:M4 s e):(e.kind=7∧e=aL)∨((e.kind=5∨e.kind=6)∧0≤e.count∧e.count<16∧e.text.size=0)∨(e.kind≠7∧¬ (e.kind=5∨e.kind=6)∧(aW e).2=0):=by
 obtain⟨-,h⟩:=h;have leaf:px e→e.kind≠7∧¬ (e.kind=5∨e.kind=6)∧(aW e).2=0:=by
  rintro(rfl|⟨b,rfl⟩|⟨b,m,hm,rfl⟩|⟨t,_,rfl⟩)
  ·exact⟨by simp[ar],by simp[ar],by simp[aW,ar]⟩
  ·exact⟨by simp[aq],by simp[aq],by simp[aW,aq]⟩
  ·refine⟨by simp[ay],by simp[ay],?_⟩;have hp:=GH (show m≤9223372036854775807 by omega);cases b
   ·by_cases ly:(m:Int)<128<;>simp[aW,ay,ly]
   ·simp[aW,ay,hp]
  ·exact⟨by simp[ah],by simp[ah],by simp[aW,ah]⟩
 rcases h with⟨h,-⟩|⟨⟨t,ht,rfl⟩,-⟩|⟨⟨m,n,hn,rfl⟩,-⟩|⟨rfl,-⟩
 ·exact inr (inr (leaf h))
 ·exact inr (inr (leaf (inr (inr (inr ⟨t,ht,rfl⟩)))))
 ·refine inr (inl ?_);cases m
  ·exact⟨inl rfl,by show(0:Int)≤(n:Int);omega,by show(n:Int)<16;omega,rfl⟩
  ·exact⟨inr rfl,by show(0:Int)≤(n:Int);omega,by show(n:Int)<16;omega,rfl⟩
 ·exact inl ⟨rfl,rfl⟩
theorem Lh {s:List af} {e:Ev} (h:M4 s e):e.kind=7∨e.text.size+1≤(dm e).length:=by
 obtain⟨-,h⟩:=h;have leaf:px e→e.text.size+1≤(dm e).length:=by
  rintro(rfl|⟨b,rfl⟩|⟨b,m,hm,rfl⟩|⟨t,_,rfl⟩)
  ·decide
  ·cases b<;>decide
  ·rw[show(ay b m).text.size=0 from rfl];have h0:=(dd 0 m).1;have h1:=(dd 1 m).1;cases b
   ·simp[dm,mF,ay];omega
   ·simp[dm,mF,ay];omega
  ·have:=(dd 3 t.size).1;simp[dm,mF,ah];omega
 rcases h with⟨h,-⟩|⟨⟨t,ht,rfl⟩,-⟩|⟨⟨m,n,hn,rfl⟩,-⟩|⟨rfl,-⟩
 ·exact inr (leaf h)
 ·exact inr (leaf (inr (inr (inr ⟨t,ht,rfl⟩))))
 ·right;cases m
  ·rw[show(aX false n).text.size=0 from rfl];have:=(dd 4 n).1;simp[dm,aX,aN];omega
  ·rw[show(aX true n).text.size=0 from rfl];have:=(dd 5 n).1;simp[dm,aX,aO];omega
 ·exact inl rfl
theorem S8 {T:Pr} (hT:T.Small) {o:Out} {s:List af} {e:Ev} (hw:o.wr=⟨s,false⟩) (hs:s≠[]) (h:M4 s e) (hn:fQ s e≠[]):(o.step T e).2.1=0∧(o.step T e).2.2.wr=⟨fQ s e,false⟩∧(o.step T e).1.length+(fQ s e).length≤s.length+40*(dm e).length:=by
 obtain⟨c,r,rfl⟩: ∃c r,s=c::r:=by
  cases s with
  |nil=>exact absurd rfl hs
  |cons c r=>exact⟨c,r,rfl⟩
 have hlen:=qL hT o e;have eI:=Lh h;rcases O7 h with⟨h7,rfl⟩|⟨hk,nN,O8,ht⟩|⟨h7,hk,hpw⟩
 ·obtain⟨f1,f2⟩:=S7 h h7;rw[qI,List.tail_cons] at hn⊢;have hd:decide (r= [])=false:=by simpa using hn
  cases o with
  |js w=>
   simp only[Out.wr] at hw;subst hw;refine⟨?_,?_,?_⟩
   ·simp[Out.step,bF,lS,aL,f2]
   ·simp[Out.step,bF,lS,aL,f2,Out.wr,hn]
   ·simp[Out.step,bF,lS,aL,f2];omega
  |cb w=>
   simp only[Out.wr] at hw;subst hw;refine⟨?_,?_,?_⟩
   ·simp[Out.step,bB,kC,aL,f1,f2]
   ·simp[Out.step,bB,kC,aL,f1,f2,Out.wr,hn]
   ·simp[Out.step,bB,kC,aL,f1,f2];split<;>simp<;>omega
  |pk w=>
   simp only[Out.wr] at hw;subst hw;refine⟨?_,?_,?_⟩
   ·simp[Out.step,bC,aL,f1]
   ·simp[Out.step,bC,aL,f1,Out.wr,hn]
   ·simp[Out.step,bC,aL,f1];omega
 ·have h7:e.kind≠7:=by omega
  have hb:cl (decide (e.kind=6)) e.count=(bf ((if decide (e.kind=6) then 128 else 144)+e.count.toNat) 1,0):=by unfold cl;rw[if_neg (by omega),if_pos O8]
  obtain⟨f1,f2⟩:=Ju h h7;have iy:fQ (c::r) e=⟨decide (e.kind=6),e.count,0⟩::dZ (c::r):=by unfold fQ;rw[if_neg h7,if_pos hk]
  have FM:(fQ (c::r) e).length=(c::r).length+1:=by rw[iy,List.length_cons,gN]
  refine⟨?_,?_,by omega⟩
  ·cases o with
   |js w=>simp only[Out.wr] at hw;subst hw;simp[Out.step,bF,ki,h7,f2,hk]
   |cb w=>simp only[Out.wr] at hw;subst hw;simp[Out.step,bB,kg,h7,f1,f2,hk]
   |pk w=>simp only[Out.wr] at hw;subst hw;simp[Out.step,bC,kh,h7,f1,f2,hk,hb]
  ·cases o with
   |js w=>simp only[Out.wr] at hw;subst hw;rw[iy];simp[Out.step,bF,ki,h7,f2,hk,Out.wr]
   |cb w=>simp only[Out.wr] at hw;subst hw;rw[iy];simp[Out.step,bB,kg,h7,f1,f2,hk,Out.wr]
   |pk w=>simp only[Out.wr] at hw;subst hw;rw[iy];simp[Out.step,bC,kh,h7,f1,f2,hk,hb,Out.wr]
 ·obtain⟨f1,f2⟩:=Ju h h7;have iy:fQ (c::r) e=dZ (c::r):=by unfold fQ;rw[if_neg h7,if_neg hk]
  have FM:(fQ (c::r) e).length=(c::r).length:=by rw[iy,gN]
  refine⟨?_,?_,by omega⟩
  ·cases o with
   |js w=>simp only[Out.wr] at hw;subst hw;simp[Out.step,bF,ki,h7,f2,hk]
   |cb w=>simp only[Out.wr] at hw;subst hw;simp[Out.step,bB,kg,h7,f1,f2,hk]
   |pk w=>simp only[Out.wr] at hw;subst hw;simp only[Out.step,bC,kh,h7,f1,f2,hk,if_false,Bool.false_eq_true];simp[hpw]
  ·cases o with
   |js w=>simp only[Out.wr] at hw;subst hw;rw[iy];simp[Out.step,bF,ki,h7,f2,hk,Out.wr]
   |cb w=>simp only[Out.wr] at hw;subst hw;rw[iy];simp[Out.step,bB,kg,h7,f1,f2,hk,Out.wr]
   |pk w=>simp only[Out.wr] at hw;subst hw;rw[iy];simp only[Out.step,bC,kh,h7,f1,f2,hk,if_false,Bool.false_eq_true,Out.wr];simp[hpw]
def kY (e:Ev):Prop:=e.kind=3→eh e.text.size e.text.data.toList=true
theorem S9 {s:List af} {e:Ev} (h:M4 s e) (hw:kY e):CM e=true:=by
 obtain⟨-,h⟩:=h;have leaf:px e→CM e=true:=by
  rintro(rfl|⟨b,rfl⟩|⟨b,m,hm,rfl⟩|⟨t,ht,rfl⟩)
  ·simp[CM,Ev.alike]
  ·simp[CM,Ev.alike,aq]
  ·simp[CM,Ev.alike,ay,hm]
  ·have h1:=hw rfl;have h2:t.size<32:=by omega
   have h3:(ah t).text=t:=rfl;rw[h3] at h1;simp[CM,Ev.alike,ah,h1,h2]
 rcases h with⟨h,-⟩|⟨⟨t,ht,rfl⟩,-⟩|⟨⟨m,n,hn,rfl⟩,-⟩|⟨rfl,-⟩
 ·exact leaf h
 ·exact leaf (inr (inr (inr ⟨t,ht,rfl⟩)))
 ·cases m
  ·simp[CM,Ev.alike,aX,aN,hn]
  ·simp[CM,Ev.alike,aX,aO,hn]
 ·simp[CM,Ev.alike]
theorem Li {s:List af} {e:Ev} (h:M4 s e) {o:Out} (ho:o.wr=⟨s,false⟩):o.small=true:=by
 unfold Out.small;rw[ho];obtain⟨hl,h⟩:=h;cases s with
 |nil=>rfl
 |cons c r=>
  have hc:CH c:=by
   rcases h with⟨-,h⟩|⟨-,h⟩|⟨-,h⟩|⟨-,h⟩
   ·rcases h with h|⟨c',r',h1,h2,-⟩
    ·cases h
    ·injection h1 with h1 _;exact h1▸h2
   ·obtain⟨c',r',h1,h2,-⟩:=h;injection h1 with h1 _;exact h1▸h2
   ·rcases h with h|⟨c',r',h1,h2,-⟩
    ·cases h
    ·injection h1 with h1 _;exact h1▸h2
   ·obtain⟨c',r',h1,h2,-⟩:=h;injection h1 with h1 _;exact h1▸h2
  have h1:=hc.count;have h2:=hc.parts;simp only[List.length_cons] at hl;simp only[Bool.and_eq_true,decide_eq_true_eq];omega
theorem Wy {T:Pr} (hT:T.Small) {n:Nat} {s t:List af} {es:List Ev} (h:Tr n s es t) (hn:1≤n) (ht:t≠[]) (hw: ∀e∈es,kY e): ∀o:Out,o.wr=⟨s,false⟩→s≠[]→o.may T es=true∧(o.all T es).2.2.wr=⟨t,false⟩∧(o.all T es).1.length+t.length≤s.length+40*(cq es).length:=by
 induction h with
 |nil=>exact fun o ho _=>⟨rfl,ho,by simp[Out.all,cq]⟩
 | @cons s t e r h h2 hr ih=>
  intro o ho hs;have fX:fQ s e≠[]:=by
   intro hx;cases r with
   |nil=>cases hr;exact ht hx
   |cons a b=>have:=h2 (by simp);rw[hx] at this;simp only[List.length_nil] at this;omega
  obtain⟨a1,a2,a3⟩:=S8 hT ho hs h fX;obtain⟨b1,b2,b3⟩:=ih ht (fun x hx=>hw x (List.mem_cons_of_mem _ hx)) _ a2 fX;rw[dJ T r a1,gA];refine⟨?_,b2,?_⟩
  ·simp only[Out.may,S9 h (hw e ms),a1,Li h ho,b1,decide_true,Bool.and_self]
  ·simp only[List.length_append];omega
def qQ (e:Ev):Prop:=e.loose=false∧e.text.size≤200∧kY e
theorem jc {e:Ev} (h:Jh e) (h3:kY e):qQ e:=by obtain⟨_,d2,d3⟩:=h;refine⟨?_,by omega,h3⟩;simp only[Ev.loose,decide_eq_false_iff_not,not_and];intro hk;have:=d2 hk;omega
theorem vT: ∀ (n m:Nat) (l:List UInt8),n≤m→eh n l=true→eh m l=true
 |_,m,[],_,_=>by cases m<;>rfl
 |0,_,_::_,_,h=>by cases h
 |n+1,0,_::_,h,_=>by omega
 |n+1,m+1,b::r,hm,h=>by
  have ih:=fun l=>vT n m l (by omega);unfold eh at h⊢;by_cases h1:b=195
  ·rw[if_pos h1,Bool.and_eq_true] at h;rw[if_pos h1,Bool.and_eq_true];exact⟨h.1,ih _ h.2⟩
  rw[if_neg h1] at h⊢;by_cases h2:b=240
  ·rw[if_pos h2,Bool.and_eq_true] at h;rw[if_pos h2,Bool.and_eq_true];exact⟨h.1,ih _ h.2⟩
  rw[if_neg h2,Bool.and_eq_true] at h⊢;exact⟨h.1,ih _ h.2⟩
theorem Lj (k:Nat) (r:List UInt8) (n:Nat) (h:eh n r=true):eh (n+1) (fZ k++r)=true:=by unfold fZ;split<;>simp[eh,h]
theorem vU (x:Nat): ∀k,eh (fy x k).length (fy x k)=true
 |0=>rfl
 |k+1=>by
  have ih:=vU x k;have h:=Lj (x>>>(k+1) % 8) _ _ ih;rw[fy];refine vT _ _ _ ?_ h;rw[List.length_append];have:1≤(fZ (x>>>(k+1) % 8)).length:=by unfold fZ;split<;>simp
  omega
theorem vV (x:Nat):qQ (ah (cF x)):=
 jc ⟨inr (inr (inr (inl ⟨_,rfl⟩))),by simp[ah],by simpa[ah] using gL x⟩ (fun _=>by
  have h:=vU x (x % 8)
  have e:(cF x).size=(fy x (x % 8)).length:=by unfold cF;simp[ByteArray.size]
  show eh (cF x).size (cF x).data.toList=true
  rw[e]
  simpa[cF] using h)
theorem yR:qQ aL:=jc ⟨inr (inr (inr (inr (inr (inr (inr rfl)))))),by simp[aL],by decide⟩ (by simp[kY,aL])
theorem yS (n:Nat):qQ (aN n):=jc ⟨inr (inr (inr (inr (inr (inl ⟨n,by omega,rfl⟩))))),by simp[aN],by show aY.size≤28;decide⟩ (by simp[kY,aN])
theorem Lk (n:Nat):qQ (aO n):=jc ⟨inr (inr (inr (inr (inr (inr (inl ⟨n,by omega,rfl⟩)))))),by simp[aO],by show aY.size≤28;decide⟩ (by simp[kY,aO])
theorem vW (x:Nat): ∀p∈cE x,qQ p:=by
 intro p hp;have hd:=KH x p hp;unfold cE at hp;repeat' split at hp
 all_goals rw[List.mem_singleton] at hp;subst hp
 ·exact jc hd (by simp[kY,ar])
 ·exact jc hd (by simp[kY,aq])
 ·exact jc hd (by simp[kY,ay])
 ·exact vV x
 ·exact jc hd (fun _=>rfl)
 ·exact jc hd (by simp[kY,ay])
theorem nu: ∀k l,∀p∈(aE k l).1,qQ p
 |0,l=>vW _
 |k+1,l=>by
  intro p hp;unfold aE at hp;by_cases h5:(nx l).1 % 8<5
  ·rw[if_pos h5] at hp;exact vW _ p hp
  rw[if_neg h5] at hp;by_cases h6:(nx l).1 % 8=5
  ·rw[if_pos h6] at hp;simp only[List.cons_append,List.mem_cons,List.mem_append,List.not_mem_nil,or_false] at hp;rcases hp with rfl|hp|rfl
   ·exact yS _
   ·exact rT (fun l=>nu k l) _ _ p hp
   ·exact yR
  ·rw[if_neg h6] at hp;simp only[List.cons_append,List.mem_cons,List.mem_append,List.not_mem_nil,or_false] at hp;rcases hp with rfl|hp|rfl
   ·exact Lk _
   ·refine rT (P:=qQ) (fun l q hq=> ?_) _ _ p hp;simp only[cx,List.mem_cons] at hq;rcases hq with rfl|hq
    ·exact vV _
    ·exact nu k _ q hq
   ·exact yR
def jD (l:List Int):List Ev:=aN 2::doc l 6
def iq (l:List Int):List UInt8:=130::cq (doc l 6)
def j5 (k:Nat):List UInt8×Int:=
 if k=0 then([249,60,0],6) else if k=1 then([250,0,0,0,0],6) else if k=2 then([194,65,5],8) else if k=3 then([247],8) else([248,32],8)
theorem O9 {d:Int} {p:Cb} (h:Idle d [⟨false,2,1⟩] false p) (k:Nat):p.run (j5 k).1=([],(j5 k).2):=by
 have hs: ∀b,p.step b=p.item b:=fun b=>h.step b;have nM:p.c.atKey=false:=by rw[h.key];rfl
 have hd:=h.done;unfold j5;repeat' split
 all_goals simp only[Cb.run];rw[hs];simp[Cb.item,Cb.simple,hd,nM,Cb.put,Core.fail]
theorem Pa (l:List Int):(Cb.new 8).run (iq l)=(jD l,3)∧∀k,(Cb.new 8).run (iq l++(j5 k).1)=(jD l,(j5 k).2):=by
 obtain⟨q,g1,g2⟩:=pQ (d:=8) (st:=[]) Idle.new rfl (by simp) false 2 (by decide) (by decide);obtain⟨q2,g3,g4⟩:=vB 8 6 l [⟨false,2,0⟩] q g2 (by simp) rfl;have hc:aS [⟨false,2,0⟩]=([],[⟨false,2,1⟩],false):=rfl;rw[hc] at g3 g4;simp only[List.append_nil] at g3 g4;have g:=g1.trans g3;have hb:aU (if false=true then 5 else 4) 2++cq (aE 6 l).1=iq l:=rfl;have he: [aX false ((2:Nat):Int)]++(aE 6 l).1=jD l:=rfl;have g:=g.conv hb he;refine⟨?_,fun k=> ?_⟩
 ·have:=g [];rw[List.append_nil] at this;rw[this];simp[Cb.run,Core.cK,g4.e,g4.done]
 ·rw[g,O9 g4 k];simp
theorem GJ (l:List Int): ∀v∈jD l,qQ v:=by
 intro v hv;rcases List.mem_cons.1 hv with rfl|hv
 ·exact yS 2
 ·exact nu 6 l v hv
def nF (to:Nat):Out:=if to=1 then .js Wr.new else if to=2 then .cb Wr.new else .pk Wr.new
theorem Pb {T:Pr} (hT:T.Small) {to:Nat} (pe:to=1∨to=2∨to=3) (l:List Int):(nF to).may T (jD l)=true∧((nF to).all T (jD l)).1.length≤40*(iq l).length:=by
 have h1:((nF to).step T (aN 2)).2.1=0∧((nF to).step T (aN 2)).2.2.wr=⟨[⟨false,2,0⟩],false⟩∧((nF to).step T (aN 2)).1.length=1:=by
  unfold nF;repeat' split
  all_goals exact⟨rfl,rfl,rfl⟩
 have h0:(nF to).small=true:=by rcases pe with rfl|rfl|rfl<;>rfl
 obtain⟨a1,a2,a3⟩:=h1;have ht:Tr 2 [⟨false,2,0⟩] (doc l 6) [⟨false,2,1⟩]:=zM 6 l [⟨false,2,0⟩] (inr ⟨_,_,rfl,⟨by decide,by decide⟩,by decide,by simp⟩) (by decide);obtain⟨b1,b2,b3⟩:=Wy hT ht (by decide) (by simp) (fun e he=>(nu 6 l e he).2.2) _ a2 (by simp);unfold jD;rw[dJ T _ a1];refine⟨?_,?_⟩
 ·simp only[Out.may,a1,h0,b1,decide_true,Bool.and_true];rfl
 ·simp only[List.length_append,iq,List.length_cons,List.length_nil] at b3⊢;omega
theorem GK {to:Nat} (ht:to=1∨to=2∨to=3):(aw.new (nJ to)).bG= .cb (Cb.new 8)∧(aw.new (nJ to)).out=nF to∧(aw.new (nJ to)).ns∧(∀s,(aw.new (nJ to)).hold=some s→s.size=0)∧(aw.new (nJ to)).e=0∧(aw.new (nJ to)).cK=false:=by
 rcases ht with rfl|rfl|rfl
 ·exact⟨rfl,rfl,inl rfl,by simp[aw.new,nJ],rfl,rfl⟩
 ·exact⟨rfl,rfl,inl rfl,by simp[aw.new,nJ],rfl,rfl⟩
 ·refine⟨rfl,rfl,inr ⟨St.new 2000,rfl,rfl,rfl⟩,fun s hs=> ?_,rfl,rfl⟩;have:some (St.new 2000)=some s:=hs;injection this with this;rw[←this];rfl
theorem GL {T:Pr} (hT:T.Small) {to:Nat} (ht:to=1∨to=2∨to=3) {X:List UInt8} {l:List Int} {e:Int} (hX:(Cb.new 8).run X=(jD l,e)) (hl:(iq l).length≤X.length) (h15:0≤e∧e≤15): ∃O,O=((nF to).all T (jD l)).1∧ag.new.fG T (mf to++X)=75::(O++cf e true)∧ag.new.iZ T (mf to++X)∧O.length≤40*X.length:=by
 obtain⟨p1,p2,p3,p4,p5,p6⟩:=GK ht;obtain⟨o1,o2⟩:=Pb hT ht l;have rV:=GJ l;have kA:(aw.new (nJ to)).out.may T ((Cb.new 8).run X).1=true:=by rw[p2,hX];exact o1
 have oh:=pA T X (Cb.new 8) (aw.new (nJ to)) p1 p5 p6 rfl p3 (fun v hv=>by rw[hX] at hv;exact(rV v hv).1) (zQ T _ _ kA);have sh:=yP hT X (Cb.new 8) (aw.new (nJ to)) 0 (by decide) p1 p5 p6 rfl (Cb.eS (by decide)) p3 p4 (fun v hv=>by rw[hX] at hv;obtain⟨h1,h2,h3⟩:=rV v hv;exact⟨h1,h2⟩) kA (by rw[hX];exact h15)
 obtain⟨t1,t2⟩:=tl T ht X 7 0 rfl;refine⟨_,rfl,?_,t2 sh,by omega⟩;have h0:ag.new=ag.begun ((mf to).take 0):=rfl;rw[h0];refine Eq.trans t1 ?_;rw[oh,hX,p2]
theorem kZ {a b:Ev} (h:a.alike b=true):a=b:=by obtain⟨k,y,m,t,c⟩:=a;obtain⟨k2,y2,m2,t2,c2⟩:=b;simp only[Ev.alike,Bool.and_eq_true,decide_eq_true_eq,beq_iff_eq] at h;obtain⟨⟨⟨⟨h1,h2⟩,h3⟩,h4⟩,h5⟩:=h;subst h1 h2 h3 h5;congr;exact ByteArray.ext h4
theorem sk {v:Ev} (h:CM v=true):v=ar∨(∃y,v=aq y)∨(∃ (y:Bool) (m:Nat),m<2147483648∧v=ay y m)∨(∃s:ByteArray,s.size<32∧eh s.size s.data.toList=true∧v=ah s)∨(∃n:Nat,n<16∧v=aN n)∨(∃n:Nat,n<16∧v=aO n)∨v=aL:=by
 simp only[CM,Bool.or_eq_true,Bool.and_eq_true,decide_eq_true_eq] at h;rcases h with(((((h|h)|h)|h)|h)|h)|h
 ·exact inl (kZ h)
 ·exact inr (inl ⟨_,kZ h⟩)
 ·exact inr (inr (inl ⟨_,_,h.2,kZ h.1⟩))
 ·exact inr (inr (inr (inl ⟨_,h.1.2,h.2,kZ h.1.1⟩)))
 ·exact inr (inr (inr (inr (inl ⟨_,h.2,kZ h.1⟩))))
 ·exact inr (inr (inr (inr (inr (inl ⟨_,h.2,kZ h.1⟩)))))
 ·exact inr (inr (inr (inr (inr (inr (kZ h))))))
theorem sq {o:Out} {c:af} {r:List af} {d:Bool} (h:o.small=true) (ho:o.wr=⟨c::r,d⟩):r.length≤1000∧0≤c.count∧(0≤c.parts∧c.parts≤1000000):=by unfold Out.small at h;rw[ho] at h;simp only[Bool.and_eq_true,decide_eq_true_eq] at h;omega
/-! ### packout -/
theorem lU {st:Wr} {p:Ev} (h:(bC st p).2.1=0):st.done=false:=by
 cases hd:st.done with
 |false=>rfl
 |true=>simp[bC,hd] at h
theorem qR {p:Ev} (h7:p.kind≠7) (h5: ¬ (p.kind=5∨p.kind=6)) (h:(bC ⟨[],false⟩ p).2.1=0):(aW p).2=0∧bC ⟨[],false⟩ p=((aW p).1,0,⟨[],true⟩):=by
 simp only[bC,kh,h7,h5,if_false,Bool.false_eq_true] at h⊢;by_cases he:(aW p).2=0
 ·refine⟨he,?_⟩;simp[he,dZ]
 ·simp[he] at h
theorem qS {p:Ev} {c:af} {r:List af} (h7:p.kind≠7) (h5: ¬ (p.kind=5∨p.kind=6)) (h:(bC ⟨c::r,false⟩ p).2.1=0):c.filled=false∧(c.bg=true→c.aj=false→p.kind=3)∧(aW p).2=0∧bC ⟨c::r,false⟩ p=((aW p).1,0,⟨{c with parts:=c.parts+1}::r,false⟩):=by
 simp only[bC,kh,h7,h5,if_false,Bool.false_eq_true] at h⊢;cases hf:c.filled with
 |true=>simp[hf] at h
 |false=>
  simp only[hf,Bool.false_eq_true,if_false] at h⊢;by_cases hk:(c.bg&& !c.aj&& !decide (p.kind=3))=true
  ·rw[if_pos hk] at h;simp at h
  ·rw[if_neg hk] at h⊢;by_cases he:(aW p).2=0
   ·refine⟨trivial,fun h1 h2=> ?_,he,by simp[he,dZ]⟩;simpa[h1,h2] using hk
   ·simp[he] at h
theorem CU {p:Ev} {m:Bool} {n:Nat} (hp:p=aX m n) (hn:n<16):bC ⟨[],false⟩ p=((cl m n).1,0,⟨[⟨m,n,0⟩],false⟩):=by
 have hb:(cl m n).2=0:=by rw[cl,if_neg (by omega),if_pos (by omega)]
 subst hp;cases m<;>simp[bC,kh,aX,aN,aO,hb,dZ]
theorem CV {p:Ev} {m:Bool} {n:Nat} {c:af} {r:List af} (hp:p=aX m n) (hn:n<16) (h:(bC ⟨c::r,false⟩ p).2.1=0):c.filled=false∧(c.bg=true→c.aj=true)∧bC ⟨c::r,false⟩ p=((cl m n).1,0,⟨⟨m,n,0⟩::{c with parts:=c.parts+1}::r,false⟩):=by
 have hb:(cl m n).2=0:=by rw[cl,if_neg (by omega),if_pos (by omega)]
 have h7:p.kind≠7:=by subst hp;cases m<;>simp[aX,aN,aO]
 have h3:p.kind≠3:=by subst hp;cases m<;>simp[aX,aN,aO]
 have h5:p.kind=5∨p.kind=6:=by subst hp;cases m<;>simp[aX,aN,aO]
 have h6:decide (p.kind=6)=m:=by subst hp;cases m<;>simp[aX,aN,aO]
 have hc:p.count=n:=by subst hp;cases m<;>rfl
 simp only[bC,kh,h7,h5,if_true,if_false,Bool.false_eq_true,h6,hc] at h⊢;cases hf:c.filled with
 |true=>simp[hf] at h
 |false=>
  simp only[hf,Bool.false_eq_true,if_false] at h⊢;by_cases hk:(c.bg&& !c.aj&& !decide (p.kind=3))=true
  ·rw[if_pos hk] at h;simp at h
  ·rw[if_neg hk];refine⟨trivial,fun h1=> ?_,by simp[hb,dZ]⟩;cases jy:c.aj with
   |true=>rfl
   |false=>simp[h1,jy,h3] at hk
theorem Ta {st:Wr} (h:(bC st aL).2.1=0): ∃c r,st.open_=c::r∧c.filled=true∧(st.done=false→bC st aL=([],0,⟨r,decide (r= [])⟩)):=by
 obtain⟨o,d⟩:=st;have hd:=lU h;simp only at hd;subst hd;cases o with
 |nil=>simp[bC,aL] at h
 |cons c r=>
  cases hf:c.filled with
  |false=>simp[bC,aL,hf] at h
  |true=>exact⟨c,r,rfl,hf,fun _=>by simp[bC,aL,hf]⟩
/-! ### cborout -/
theorem lV {st:Wr} {p:Ev} (h:(bB st p).2.1=0):st.done=false:=by
 cases hd:st.done with
 |false=>rfl
 |true=>simp[bB,hd] at h
theorem qT {p:Ev} (h7:p.kind≠7) (h5: ¬ (p.kind=5∨p.kind=6)):bB ⟨[],false⟩ p=(bZ p,0,⟨[],true⟩):=by simp[bB,kg,h7,h5,dZ]
theorem qU {p:Ev} {c:af} {r:List af} (h7:p.kind≠7) (h5: ¬ (p.kind=5∨p.kind=6)) (h:(bB ⟨c::r,false⟩ p).2.1=0):c.filled=false∧(c.bg=true→c.aj=false→p.kind=3)∧bB ⟨c::r,false⟩ p=(bZ p,0,⟨{c with parts:=c.parts+1}::r,false⟩):=by
 simp only[bB,kg,h7,h5,if_false,Bool.false_eq_true] at h⊢;cases hf:c.filled with
 |true=>simp[hf] at h
 |false=>
  simp only[hf,Bool.false_eq_true,if_false] at h⊢;by_cases hk:(c.bg&& !c.aj&& !decide (p.kind=3))=true
  ·rw[if_pos hk] at h;simp at h
  ·rw[if_neg hk];refine⟨trivial,fun h1 h2=> ?_,by simp[dZ]⟩;simpa[h1,h2] using hk
theorem CW {p:Ev} {m:Bool} {n:Nat} (hp:p=aX m n):bB ⟨[],false⟩ p=(aU (if m then 5 else 4) n,0,⟨[⟨m,n,0⟩],false⟩):=by
 have hn: ¬ (n:Int)<0:=by omega
 subst hp;cases m<;>simp[bB,kg,aX,aN,aO,dZ,hn]
theorem CX {p:Ev} {m:Bool} {n:Nat} {c:af} {r:List af} (hp:p=aX m n) (h:(bB ⟨c::r,false⟩ p).2.1=0):c.filled=false∧(c.bg=true→c.aj=true)∧bB ⟨c::r,false⟩ p=(aU (if m then 5 else 4) n,0,⟨⟨m,n,0⟩::{c with parts:=c.parts+1}::r,false⟩):=by
 have h7:p.kind≠7:=by subst hp;cases m<;>simp[aX,aN,aO]
 have h3:p.kind≠3:=by subst hp;cases m<;>simp[aX,aN,aO]
 have h5:p.kind=5∨p.kind=6:=by subst hp;cases m<;>simp[aX,aN,aO]
 have h6:decide (p.kind=6)=m:=by subst hp;cases m<;>simp[aX,aN,aO]
 have YE:(p.kind=6)↔m=true:=by rw[←h6];simp
 have h5':p.kind=5∨m=true:=by rw[←YE];exact h5
 have hc:p.count=n:=by subst hp;cases m<;>rfl
 simp only[bB,kg,h7,h5',if_true,if_false,Bool.false_eq_true,YE,hc] at h⊢;cases hf:c.filled with
 |true=>simp[hf] at h
 |false=>
  simp only[hf,Bool.false_eq_true,if_false] at h⊢;by_cases hk:(c.bg&& !c.aj&& !decide (p.kind=3))=true
  ·rw[if_pos hk] at h;simp at h
  ·rw[if_neg hk];refine⟨trivial,fun h1=> ?_,?_⟩
   ·cases jy:c.aj with
    |true=>rfl
    |false=>simp[h1,jy,h3] at hk
   ·have hn: ¬ (n:Int)<0:=by omega
    cases m<;>simp[dZ,hn]
theorem Tb {st:Wr} (h:(bB st aL).2.1=0): ∃c r,st.open_=c::r∧(0≤c.count→c.filled=true∧(st.done=false→bB st aL=([],0,⟨r,decide (r= [])⟩))):=by
 obtain⟨o,d⟩:=st;have hd:=lV h;simp only at hd;subst hd;cases o with
 |nil=>simp[bB,kC,aL] at h
 |cons c r=>
  refine⟨c,r,rfl,fun hc=> ?_⟩;cases hf:c.filled with
  |false=>simp[bB,kC,aL,hf,hc] at h
  |true=>
   refine⟨rfl,fun _=> ?_⟩;have hb:c.aj=false:=by
    cases hb:c.aj with
    |false=>rfl
    |true=>simp[bB,kC,aL,hb] at h
   have hn: ¬c.count<0:=by omega
   simp[bB,kC,aL,hf,hb,hn]
/-! ### jsonout -/
def jQ (c:af):List UInt8:=if c.aj then [58] else if 0<c.parts then [44] else []
theorem lW {T:Pr} {st:Wr} {p:Ev} (h:(bF T st p).2.1=0):st.done=false:=by
 cases hd:st.done with
 |false=>rfl
 |true=>simp[bF,hd] at h
theorem qV {T:Pr} {p:Ev} (h7:p.kind≠7) (h5: ¬ (p.kind=5∨p.kind=6)):bF T ⟨[],false⟩ p=([]++dM T p,0,⟨[],true⟩):=by simp[bF,ki,h7,h5,dZ]
theorem qW {T:Pr} {p:Ev} {c:af} {r:List af} (h7:p.kind≠7) (h5: ¬ (p.kind=5∨p.kind=6)) (h:(bF T ⟨c::r,false⟩ p).2.1=0):(c.bg=true→c.aj=false→p.kind=3)∧bF T ⟨c::r,false⟩ p=(jQ c++dM T p,0,⟨{c with parts:=c.parts+1}::r,false⟩):=by
 simp only[bF,ki,h7,h5,if_false,Bool.false_eq_true] at h⊢;by_cases hk:(c.bg&& !c.aj&& !decide (p.kind=3))=true
 ·rw[if_pos hk] at h;simp at h
 ·rw[if_neg hk];refine⟨fun h1 h2=> ?_,by simp[dZ,jQ]⟩;simpa[h1,h2] using hk
theorem CY {T:Pr} {p:Ev} {m:Bool} {n:Nat} (hp:p=aX m n):bF T ⟨[],false⟩ p=([]++[if m then 123 else 91],0,⟨[⟨m,n,0⟩],false⟩):=by subst hp;cases m<;>simp[bF,ki,aX,aN,aO,dZ]
theorem CZ {T:Pr} {p:Ev} {m:Bool} {n:Nat} {c:af} {r:List af} (hp:p=aX m n) (h:(bF T ⟨c::r,false⟩ p).2.1=0):(c.bg=true→c.aj=true)∧bF T ⟨c::r,false⟩ p=(jQ c++[if m then 123 else 91],0,⟨⟨m,n,0⟩::{c with parts:=c.parts+1}::r,false⟩):=by
 have h7:p.kind≠7:=by subst hp;cases m<;>simp[aX,aN,aO]
 have h3:p.kind≠3:=by subst hp;cases m<;>simp[aX,aN,aO]
 have h5:p.kind=5∨p.kind=6:=by subst hp;cases m<;>simp[aX,aN,aO]
 have h6:decide (p.kind=6)=m:=by subst hp;cases m<;>simp[aX,aN,aO]
 have YE:(p.kind=6)↔m=true:=by rw[←h6];simp
 have h5':p.kind=5∨m=true:=by rw[←YE];exact h5
 have hc:p.count=n:=by subst hp;cases m<;>rfl
 simp only[bF,ki,h7,h5',if_true,if_false,Bool.false_eq_true,YE,hc] at h⊢;by_cases hk:(c.bg&& !c.aj&& !decide (p.kind=3))=true
 ·rw[if_pos hk] at h;simp at h
 ·rw[if_neg hk];refine⟨fun h1=> ?_,?_⟩
  ·cases jy:c.aj with
   |true=>rfl
   |false=>simp[h1,jy,h3] at hk
  ·cases m<;>simp[dZ,jQ]
theorem Tc {T:Pr} {st:Wr} (h:(bF T st aL).2.1=0): ∃c r,st.open_=c::r∧c.aj=false∧(st.done=false→bF T st aL=([if c.bg then 125 else 93],0,⟨r,decide (r= [])⟩)):=by
 obtain⟨o,d⟩:=st;have hd:=lW h;simp only at hd;subst hd;cases o with
 |nil=>simp[bF,lS,aL] at h
 |cons c r=>
  cases hf:c.aj with
  |true=>simp[bF,lS,aL,hf] at h
  |false=>exact⟨c,r,rfl,hf,fun _=>by simp[bF,lS,aL,hf]⟩
end Go.Tru
namespace Go.Proofs.YthffblhdjjbkaaaGreat
open Go.RowKit Go.Tru
theorem ma (m:Bool) (n p:Int) (hp:0≤p∧p≤1000000) (w:World):Calls prog 240 #[.agg #[.bool m,.int .i64 n,.int .i64 p]] w fun e w'=>e= .returned (.bool (af.aj ⟨m,n,p⟩))∧I [] w w':=by
 have xp:p.tmod 2=p % 2:=Int.tmod_eq_emod_of_nonneg hp.1;unfold af.aj;cases m with
 |false=>
  go_enter func240,ntmps240;go_wp2_with fail
  go_ret;exact⟨rfl,(I.refl _ _).alloc _⟩
 |true=>
  rcases(show p % 2=0∨p % 2=1 by omega) with h|h;all_goals
   rw[h] at xp⊢;go_enter func240,ntmps240;go_wp2_with fail
   go_ret;exact⟨rfl,(I.refl _ _).alloc _⟩
open Go.K0 in
theorem kM (m:Bool) (n p:Int) (hp:0≤p∧p≤1000000) (w:World):Calls prog 239 #[.agg #[.bool m,.int .i64 n,.int .i64 p]] w fun e w'=>e= .returned (.bool (af.filled ⟨m,n,p⟩))∧I [] w w':=q21
theorem jJ (m:Bool) (n p:Int) (hp:0≤p∧p≤1000000) (w:World):Calls prog 234 #[.agg #[.bool m,.int .i64 n,.int .i64 p]] w fun e w'=>e= .returned (.bool (af.aj ⟨m,n,p⟩))∧I [] w w':=by
 have xp:p.tmod 2=p % 2:=Int.tmod_eq_emod_of_nonneg hp.1;unfold af.aj;cases m with
 |false=>
  go_enter func234,ntmps234;go_wp2_with fail
  go_ret;exact⟨rfl,(I.refl _ _).alloc _⟩
 |true=>
  rcases(show p % 2=0∨p % 2=1 by omega) with h|h;all_goals
   rw[h] at xp⊢;go_enter func234,ntmps234;go_wp2_with fail
   go_ret;exact⟨rfl,(I.refl _ _).alloc _⟩
open Go.K1 in
theorem kN (m:Bool) (n p:Int) (hp:0≤p∧p≤1000000) (w:World):Calls prog 233 #[.agg #[.bool m,.int .i64 n,.int .i64 p]] w fun e w'=>e= .returned (.bool (af.filled ⟨m,n,p⟩))∧I [] w w':=q21
theorem dy (m:Bool) (n p:Int) (hp:0≤p∧p≤1000000) (w:World):Calls prog 205 #[.agg #[.bool m,.int .i64 p]] w fun e w'=>e= .returned (.bool (af.aj ⟨m,n,p⟩))∧I [] w w':=by
 have xp:p.tmod 2=p % 2:=Int.tmod_eq_emod_of_nonneg hp.1;unfold af.aj;cases m with
 |false=>
  go_enter func205,ntmps205;go_wp2_with fail
  go_ret;exact⟨rfl,(I.refl _ _).alloc _⟩
 |true=>
  rcases(show p % 2=0∨p % 2=1 by omega) with h|h;all_goals
   rw[h] at xp⊢;go_enter func205,ntmps205;go_wp2_with fail
   go_ret;exact⟨rfl,(I.refl _ _).alloc _⟩
end Go.Proofs.YthffblhdjjbkaaaGreat
namespace Go.Tru
structure jd (T E:TypeId) (w:World) (base b:Nat) (ov:Value) (st:Wr):Prop where
 az:Has w b [ov,.bool st.done] T
 bu:ai w base E ov st.open_
 bo:b∉ae ov
theorem jd.keeps {T E:TypeId} {F:List Nat} {w w':World} {base b:Nat} {ov:Value} {st:Wr} (h:jd T E w base b ov st) (k:I F w w') (hb:b∉F) (ho: ∀i∈ae ov,i∉F):jd T E w' base b ov st:=⟨h.az.keeps k hb,ab h.bu k (fun i hi=>ho i (aa.2 hi)),h.bo⟩
theorem jd.cells {T E:TypeId} {w:World} {base b:Nat} {ov:Value} {st:Wr} (h:jd T E w base b ov st):w.cell? ⟨b,0,none⟩=some ov∧w.cell? ⟨b,1,none⟩=some (.bool st.done):=⟨h.az.cell 0,h.az.cell 1⟩
theorem jd.fin {T E:TypeId} {w:World} {base b:Nat} {ov:Value} {st:Wr} (h:jd T E w base b ov st) (d:Bool):jd T E (w.setCell ⟨b,1,none⟩ (.bool d)) base b ov ⟨st.open_,d⟩:=⟨(h.az.set 1 (.bool d)).conv rfl,ab h.bu ((I.refl [b] _).ax _) (fun i hi hm=>h.bo (by rw[List.mem_singleton] at hm;exact hm▸aa.2 hi)),h.bo⟩
theorem jd.fC {T E:TypeId} {w:World} {base b g cap:Nat} {c:af} {r:List af} {d:Bool} (h:jd T E w base b (.slice (some ⟨g,0,none⟩) (r.length+1) cap) ⟨c::r,d⟩) (p:Int):jd T E (w.setCell ⟨g,r.length*3+2,none⟩ (.int .i64 p)) base b (.slice (some ⟨g,0,none⟩) (r.length+1) cap) ⟨{c with parts:=p}::r,d⟩:=⟨h.az.other (fun e=>h.bo (aa.2 (by rw[show b=g from e];rfl))) _,ai.gV h.bu p,h.bo⟩
theorem jd.pop {T E:TypeId} {w:World} {base b g cap:Nat} {c:af} {r:List af} {d d':Bool} (h:jd T E w base b (.slice (some ⟨g,0,none⟩) (r.length+1) cap) ⟨c::r,d⟩):jd T E ((w.setCell ⟨b,0,none⟩ (.slice (some ⟨g,0,none⟩) r.length cap)).setCell ⟨b,1,none⟩ (.bool d')) base b (.slice (some ⟨g,0,none⟩) r.length cap) ⟨r,d'⟩:=⟨((h.az.set 0 (.slice (some ⟨g,0,none⟩) r.length cap)).set 1 (.bool d')).conv rfl,ab (ai.pop h.bu) (((I.refl [b] _).ax _).ax _) (fun i hi hm=>h.bo (by rw[List.mem_singleton] at hm;rw[←hm];exact aa.2 hi)),h.bo⟩
def Jv (T E:TypeId) (w:World) (base b:Nat) (ov:Value) (out:List UInt8) (st:Wr) (r:Ending) (w':World):Prop:=
 r= .returned (.tuple #[.string (bytesOf out),.int .i64 0])∧∃oW,jd T E w' base b oW st∧I (b::ae ov) w w'∧∀i∈ae oW,i∈ae ov∨w.heap.size≤i
end Go.Tru
