/- cborin.Core's Fail; cborin.Core's other methods; truchmanref1.Big; truchmanref1.Head -/
import Derived.Test.YthffblhdjjbkaaaGreatM19
import Derived.BigQuiet
import Derived.Lib.BufferRead
set_option maxHeartbeats 100000000
set_option maxRecDepth 1000000
open Go.Lib (hid)
open Go.Proofs.Tryz
open Or (inl inr)
namespace Go.Tru
def Zy:Value→Nat
 | .slice _ n _=>n
 |_=>0
theorem ownsRow_lit {w:World} {base g n:Nat} {e:TypeId} {size:Nat} {xs:List Value} (h:Has w g xs e) (hb:base≤g) (hl:xs.length=n*size) (hn:n≤maxLen):w.ownsRow base e size (.slice (some ⟨g,0,none⟩) n n) n xs:=⟨hl,inr ⟨g,n,xs.toArray,rfl,hb,h,Nat.le_refl _,hn,by simp[hl],by simp[←hl]⟩⟩
theorem n8 {p:Ev} {pv:Value} (oU:p.part=pv) {w:World} {base g:Nat} (hg:g=w.heap.size) (hb:base≤g):aP (w.alloc (.cells #[pv] 20)) base (.slice (some ⟨g,0,none⟩) 1 1) [p]:=by subst oU hg;exact ownsRow_lit (Has.new w ([p].map Ev.part) 20) hb rfl (by simp[maxLen])
theorem N9 {p:Ev} {pv:Value} (oU:p.part=pv) {w:World} {t:TypeId} {g:Nat} (hg:g=w.heap.size): ∀ (j:Nat) (u:Value),([p].map Ev.part)[j]? =some u→(w.alloc (.cells #[pv] t)).cell? ((⟨g,0,none⟩:Addr).add j)=some u:=by subst oU;exact aA ([p].map Ev.part) hg
end Go.Tru
namespace Go.Proofs.YthffblhdjjbkaaaGreat
open Go.RowKit Go.Tru
theorem KP (p:Ev):p.part= .nilIface∨∃T v,p.part= .iface T v:=by
 unfold Ev.part;repeat' split
 all_goals first|exact inl rfl|exact inr ⟨_,_,rfl⟩
theorem SN (c:af) (w:World) (h:0≤c.parts) (h2:c.parts≤4611686018427387904):Calls prog 191 #[c.val] w fun r w'=>r= .returned (.bool c.met)∧I [] w w':=by
 obtain⟨p,n,k⟩:=c;simp only[af.val,af.cells] at*;cases p
 ·go_enter func191,ntmps191;go_wp2;go_ret;exact⟨dA (by rw[Bool.eq_iff_iff];simp[af.met]),(I.refl _ _).alloc _⟩
 ·have hk:(k % 2==0)=true∨(k % 2==0)=false:=by cases(k % 2==0)<;>simp
  rcases hk with hk|hk;all_goals go_enter func191,ntmps191;go_wp2;go_ret;refine⟨dA ?_,(I.refl _ _).alloc _⟩;simp only[beq_iff_eq,beq_eq_false_iff_ne,ne_eq] at hk;rw[Bool.eq_iff_iff];simp[af.met,hk]
theorem Oa (e:Int) (k:Core) (w:World) (base b:Nat) (T:TypeId) (rest:List Value) (ov sv:Value) (h:a8 w base b T rest ov sv k):Calls prog 176 #[.pointer (some ⟨b,0,none⟩),.int .i64 e] w fun r w'=>r= .returned (.slice none 0 0)∧w'=w.setCell ⟨b,3,none⟩ (.int .i64 e):=by obtain⟨f1,f2,f3,f4,f5,f6,f7,bP⟩:=fu h;obtain⟨g0,g1,g2,g3,g4,g5,g6,g7⟩:=bU h;clear h;go_enter func176,ntmps176;go_wp2;go_ret;exact⟨rfl,rfl⟩
def aV (w:World) (base b:Nat) (T:TypeId) (rest:List Value) (ov sv:Value) (t:List Ev×Core) (r:Ending) (w':World):Prop:=
 ∃v,r= .returned v∧aP w' w.heap.size v t.1∧gY w base b T rest ov sv t.2 w'
theorem gx (e:Int) (k:Core) (w:World) (base b:Nat) (T:TypeId) (rest:List Value) (ov sv:Value) (h:a8 w base b T rest ov sv k):Calls prog 176 #[.pointer (some ⟨b,0,none⟩),.int .i64 e] w (aV w base b T rest ov sv (k.fail e)):=by refine(Oa e k w base b T rest ov sv h).mono ?_;rintro r w' ⟨rfl,rfl⟩;exact⟨_,rfl,aP.nil _ _,gY.same (h.put (by omega) rfl rfl rfl) ((I.refl _ _).dO (aD _ _ _) _)⟩
def Wm (N:Int) (w:World) (base b:Nat) (T:TypeId) (rest:List Value) (ov sv:Value) (k:Core) (p:Ev) (v:Value) (wr:World):Prop:=
 ∃ (es:List Ev) (l:List af) (o':Option Addr) (c':Nat),aP wr w.heap.size v (p::es)∧a8 wr base b T rest (.slice o' l.length c') sv {k with open_:=l}∧(Value.slice o' l.length c').ownBlock=ov.ownBlock∧
  aS k.open_=(es++(aS l).1,(aS l).2)∧I (cz b ov sv) w wr∧es.length+l.length=k.open_.length∧∀c∈l,0≤c.parts∧c.parts≤N
theorem KQ (N:Int) (hN:N≤1000000000) (k:Core) (p:Ev) (w:World) (base b:Nat) (T:TypeId) (rest:List Value) (ov sv:Value) (h:a8 w base b T rest ov sv k) (hl:k.open_.length≤100) (hp: ∀c∈k.open_,0≤c.parts∧c.parts≤N):Calls prog 183 #[.pointer (some ⟨b,0,none⟩),p.part] w (aV w base b T rest ov sv (k.value p)):=by
 obtain⟨oo,oc,rfl⟩:=h.bu.shape;have H:=hid h;have HP:=hid hp;have sZ:=KP p;obtain⟨pv,oU⟩: ∃pv,p.part=pv:=⟨_,rfl⟩
 rw[oU] at sZ⊢;have Rm:=hid oU;clear h hp oU;rcases sZ with rfl|⟨T',v',rfl⟩;all_goals
  go_enter func183,ntmps183;go_wp2_with fail
  go_loopw [5] (fun v wr=>Wm N w base b T rest (.slice oo k.open_.length oc) sv k p v wr) (fun v _=>k.open_.length+1-Zy v);case atStart=>exact⟨[],k.open_,oo,oc,n8 Rm.out rfl (Nat.le_refl _),H.out.aI ((I.refl _ _).alloc _),rfl,by simp,(I.refl _ _).alloc _,by simp,HP.out⟩
  case round=>
   obtain⟨es,l,o',c',au,s5,mE,Ob,hK,hlen,rV⟩:=hrel;have U3: ∀i,(Value.slice oo k.open_.length oc).ownBlock=some i→i<w.heap.size:=fun i hi=>(World.ownsRow.lt H.out.bu i hi).2;have adD:=H.out.az.lt;obtain⟨a5,c5,rfl⟩:=au.shape;obtain⟨g0,g1,g2,g3,g4,g5,g6,g7⟩:=bU s5;obtain⟨f1,f2,f3,f4,f5,f6,f7,bP⟩:=fu s5;simp only[] at g0 g1 g2 g3 g4 g5 g6 g7;have hzw:=hK.size;have cO:=hid au;have HC:=hid s5;have HK:=hid hK;have qj:=hid Ob;have HB:=hid mE;have Oc: ∀i∈ae (.slice a5 (p::es).length c5),w.heap.size≤i:=fun i hi=>(World.ownsRow.lt cO.out i (aa.1 hi)).1;have CA:=hid Oc;have HOV:=hid U3;clear au s5 hK Ob mE Oc U3;cases l with
   |nil=>
    simp only[List.length_nil] at g1;go_wp2_with fail
    go_ret;have nf:k.value p=(p::es,{k with open_:=[],done:=true}):=by unfold Core.value;rw[qj.out];simp[aS]
    rw[nf];refine⟨_,rfl,ab cO.out ((I.refl [b] _).ax _) (fun i hi hm=>by have:=CA.out i (aa.2 hi);rw[List.mem_singleton] at hm;omega),⟨_,_,HC.out.put (i:=2) (by omega) rfl rfl rfl,HK.out.dO (aD _ _ _) _,fun i hi=>inl ?_⟩⟩;rcases List.mem_cons.1 hi with rfl|hi
    ·exact aD _ _ _
    ·rcases List.mem_append.1 hi with hi|hi
     ·exact iC (by rw[aa,←HB.out];exact aa.1 hi)
     ·exact kH hi
   |cons c r=>
    obtain⟨g,cap,he,gb,gl,gr,gm,q0,q1,q2,gf⟩:=ai.some_ HC.out.bu;simp only[List.length_cons,Value.slice.injEq,true_and] at he;obtain⟨rfl,rfl⟩:=he;simp only[List.length_cons] at*;have hcp:=rV c ms;have hpr: ∀x∈r,0≤x.parts∧x.parts≤N:=fun x hx=>rV x (List.mem_cons_of_mem _ hx);have HPR:=hid hpr;have hgw:g<w.heap.size:=HOV.out g (by rw[←HB.out];rfl);have gf2:=gf (r.length*3+2);unfold maxLen at gm;have cY:b≠g:=fun e=>HC.out.bo (by rw[aa,e];rfl);clear rV hpr gf;go_wp2_with fail
    obtain⟨w2,gU⟩: ∃w2,wr.setCell ⟨g,r.length*3+2,none⟩ (.int .i64 (c.parts+1))=w2:=⟨_,rfl⟩
    have Od:=a8.fC HC.out rfl (c.parts+1);have Rp:I [g] wr w2:=by rw[←gU];exact(I.refl _ _).ax _
    rw[gU] at Od⊢;have cI:=ab cO.out Rp (fun i hi hm=>by have:=CA.out i (aa.2 hi);rw[List.mem_singleton] at hm;omega);have hK2:I (cz b (.slice oo k.open_.length oc) sv) w w2:=HK.out.trans (Rp.mono (fun i hi=>iC (by rw[List.mem_singleton] at hi;rw[hi,aa,←HB.out];rfl)));clear gU Rp g0 g1 g2 g3 g4 g5 g6 g7 f1 f2 f3 f4 f5 f6 f7 q0 q1 q2 gf2;have Wn:=SN {c with parts:=c.parts+1} w2 (by simp only[];omega) (by simp only[];omega);simp only[af.val,af.cells] at Wn;refine Wn.mono ?_;clear Wn;rintro e w3 ⟨rfl,k3⟩;have BG:=hid (Od.aI k3);have Jk:=hid (ab cI k3 (by simp));have Oe:=hid (hK2.trans (k3.mono (by simp)));have Wo:=Oe.out.size;obtain⟨g0,g1,g2,g3,g4,g5,g6,g7⟩:=bU BG.out;obtain⟨f1,f2,f3,f4,f5,f6,f7,Kh⟩:=fu BG.out;simp only[] at g0 g1 g2 g3 g4 g5 g6 g7;obtain⟨g',fB,he,gb',gl',gr',gm',q0,q1,q2,gf'⟩:=ai.some_ BG.out.bu;simp only[Value.slice.injEq,Option.some.injEq,Addr.mk.injEq,and_true,true_and] at he;obtain⟨rfl,rfl⟩:=he;clear Od cI hK2 k3 gb' gr' gm' gf';cases hm:({c with parts:=c.parts+1}:af).met with
    |false=>
     have HM:=hid hm;clear hm;go_wp2_with fail
     go_ret;have nf:k.value p=(p::es,{k with open_:={c with parts:=c.parts+1}::r}):=by unfold Core.value;rw[qj.out];unfold aS;simp[HM.out]
     rw[nf];refine⟨_,rfl,Jk.out,⟨_,_,BG.out,Oe.out,fun i hi=>inl ?_⟩⟩;rcases List.mem_cons.1 hi with rfl|hi
     ·exact aD _ _ _
     ·rcases List.mem_append.1 hi with hi|hi
      ·exact iC (by rw[aa,←HB.out];exact aa.1 hi)
      ·exact kH hi
    |true=>
     have HM:=hid hm;have adE:=hid (ai.pop BG.out.bu);clear hm;have bn:=a8.vy BG.out adE.out (I.refl _ _) (inl rfl);have iJ:=hid bn;have dx:=ab Jk.out (((I.refl [b] w3).ax (i:=1) (.slice (some ⟨g,0,none⟩) r.length c')).alloc (.cells #[.iface 218 (.agg #[])] 20)) (fun i hi hm=>by have:=CA.out i (aa.2 hi);rw[List.mem_singleton] at hm;omega);have Zz:=hid dx;clear bn dx;go_wp2_with (at_builtin;go_must (refine nj rfl _ _ rfl w.heap.size _ (p::es) rfl Zz.out ⟨_,0,none⟩ 1 1 [aL] rfl rfl (N9 iQ (by simp)) (by simp only[List.length_cons];omega) (by simp;omega) ?_))
     intro v5 w5 de qp _ yl;obtain⟨a6,c6,rfl⟩:=de.shape;have rJ:I (ae (.slice a5 (p::es).length c5)) (w3.setCell ⟨b,1,none⟩ (.slice (some ⟨g,0,none⟩) r.length c')) w5:=((I.refl _ _).alloc _).trans qp;have HC5:=hid (iJ.out.1.keeps rJ (fun i hi hm=>by
      have h1:=CA.out i hm;rcases List.mem_cons.1 hi with rfl|hi
      ·omega
      ·rcases List.mem_append.1 hi with hi|hi
       ·rw[aa] at hi;simp only[Value.ownBlock,Option.some.injEq] at hi;omega
       ·have:=(World.ownsRow.lt H.out.s i (aa.1 hi)).2;omega))
     have I6:=hid ((Oe.out.dO (aD _ _ _) _).trans' rJ (fun i hi=>inr (CA.out i hi)));have ZA:=hid de;clear de qp yl rJ;go_wp2_with fail
     go_roundw;case rel=>
      refine⟨es++[aL],r,_,_,ZA.out,HC5.out,HB.out,?_,I6.out,by simp;omega,HPR.out⟩;rw[qj.out];conv=>lhs;unfold aS
      simp[HM.out]
     case measure=>simp[Zy];omega
theorem iW {w:World} {base:Nat} {v:Value} {l:List UInt8} (h:bz w base v l) {src dst:TypeId} (hs:Tryz.prog.underlying src=some (.slice 5)) (hd:Tryz.prog.underlying dst=some .string):(convert src dst v).run prog w= .ok (.string (bytesOf l)) w:=by
 rcases h.2 with⟨rfl,h0⟩|⟨g,cap,cur,rfl,hb,hg,hr⟩
 ·obtain rfl:l= []:=List.length_eq_zero_iff.1 h0;exact Lib.run_convert_nil_bytes w src dst 5 0 hs underlying5 hd
 ·refine run_convert_bytes_back w src dst 5 ⟨g,0,none⟩ cap l hs underlying5 hd (fun j hj=> ?_);refine World.ownsRow.cells h (g:=g) rfl j _ ?_;simp[bS,hj]
theorem nm:(Tryz.prog.info? 5).map (fun i=>(i.zero,i.size,i.bytes))=some (some (.int .u8 0),1,1):=by kernel_rfl
theorem yD (l:List UInt8): ∀u∈bS l,u.oneCell'=true:=by intro u hu;obtain⟨b,_,rfl⟩:=List.mem_map.1 hu;rfl
theorem Of {ops:Array Oper} {rest:List Oper} {o:Oper} {a:Act} {w:World} {Q:Exit→Act→World→Prop} (sU:o.guard=none) (s x:Operand) (ho:o.op= .call {callee:= .builtin .append,args:= #[s,x],argTypes:= #[63,63]}) (base:Nat) (v:Value) (es:List UInt8) (hs:a.eval s=v) (au:bz w base v es) (ad:Addr) (m c:Nat) (ds:List UInt8) (hx:a.eval x= .slice (some ad) m c) (hl:ds.length=m) (fO: ∀ (j:Nat) (u:Value),(bS ds)[j]? =some u→w.cell? (ad.add j)=some u) (hlen:es.length+m≤1000000000) (ak:base≤w.heap.size) (h: ∀v' w',bz w' base v' (es++ds)→I (ae v) w w'→(v'= .slice none 0 0↔v= .slice none 0 0∧m=0)→(v'.ownBlock=v.ownBlock∨v'.ownBlock=some w.heap.size)→wpList prog ops Q rest (a.put o.dst v') w'):wpList prog ops Q (o::rest) a w:=by obtain⟨i0,hi,ko,gv,gW⟩:=info_parts nm;subst hl;refine wpList_append_own_at w sU s x 63 ho base 5 i0 (.int .u8 0) 1 1 underlying63 hi ko gv gW rfl (by decide) v es.length (bS es) hs au ad ds.length c (bS ds) hx (by simp[bS]) fO (yD ds) (by unfold maxLen;omega) (by omega) ak ?_;intro v' w' h2 h3 h4 h5;refine h v' w' ?_ (cD h3) h4 h5;unfold bz bS;rw[List.length_append,List.map_append];exact h2
theorem Kr (k:Core) (w:World) (base b:Nat) (T:TypeId) (rest:List Value) (ov sv:Value) (h:a8 w base b T rest ov sv k) (hl:k.open_.length≤100) (hp: ∀c∈k.open_,0≤c.parts∧c.parts≤1000000000):Calls prog 188 #[.pointer (some ⟨b,0,none⟩)] w fun r w'=>r= .returned (.bool k.atKey)∧w=w':=by
 obtain⟨g0,g1,g2,g3,g4,g5,g6,g7⟩:=bU h;obtain⟨oo,oc,rfl⟩:=h.bu.shape;have fj:=h.bu;clear h;unfold Core.atKey;generalize k.open_=l at g1 fj hl hp;cases l with
 |nil=>simp only[List.length_nil] at g1;clear fj hl hp;go_enter func188,ntmps188;go_wp2;go_ret;exact⟨rfl,rfl⟩
 |cons c r=>
  obtain⟨g,cap,he,gb,gl,gr,gm,q0,q1,q2,gf⟩:=ai.some_ fj;simp only[List.length_cons,Value.slice.injEq,true_and] at he;obtain⟨rfl,rfl⟩:=he;simp only[List.length_cons] at*;unfold maxLen at gm;clear gf fj;have Rn:=hp c ms;clear hp;obtain⟨pr,ct,ps⟩:=c;simp only[] at q0 q1 q2 Rn⊢;cases pr with
  |false=>go_enter func188,ntmps188;go_wp2;go_ret;exact⟨rfl,rfl⟩
  |true=>go_enter func188,ntmps188;go_wp2;go_ret;exact⟨dA (by rw[Bool.eq_iff_iff];simp),rfl⟩
theorem zy (k:Core) (w:World) (base b:Nat) (T:TypeId) (rest:List Value) (ov sv:Value) (h:a8 w base b T rest ov sv k):Calls prog 190 #[.pointer (some ⟨b,0,none⟩)] w fun r w'=>r= .returned (.bool k.full)∧I [] w w':=by
 obtain⟨g0,g1,g2,g3,g4,g5,g6,g7⟩:=bU h;obtain⟨oo,oc,rfl⟩:=h.bu.shape;clear h;go_enter func190,ntmps190;go_wp2_with fail
 go_quiet (fail)
 go_wp2_with fail
 go_ret;exact⟨rfl,(I.refl _ _).drewN _⟩
theorem zx (k:Core) (w:World) (base b:Nat) (T:TypeId) (rest:List Value) (ov sv:Value) (h:a8 w base b T rest ov sv k):Calls prog 186 #[.pointer (some ⟨b,0,none⟩)] w fun r w'=>r= .returned (.bool k.done)∧w=w':=by obtain⟨g0,g1,g2,g3,g4,g5,g6,g7⟩:=bU h;clear h;go_enter func186,ntmps186;go_wp2;go_ret;exact⟨rfl,rfl⟩
theorem Kv (k:Core) (w:World) (base b:Nat) (T:TypeId) (rest:List Value) (ov sv:Value) (h:a8 w base b T rest ov sv k):Calls prog 171 #[.pointer (some ⟨b,0,none⟩)] w fun r w'=>r= .returned (.bool (decide (0<k.aT)))∧w=w':=by obtain⟨g0,g1,g2,g3,g4,g5,g6,g7⟩:=bU h;clear h;go_enter func171,ntmps171;go_wp2;go_ret;exact⟨rfl,rfl⟩
theorem Og (k:Core) (w:World) (base b:Nat) (T:TypeId) (rest:List Value) (ov sv:Value) (h:a8 w base b T rest ov sv k):Calls prog 110 #[.pointer (some ⟨b,0,none⟩)] w fun r w'=>r= .returned (.int .i64 k.cK)∧w=w':=by
 obtain⟨g0,g1,g2,g3,g4,g5,g6,g7⟩:=bU h;clear h;unfold Core.cK;by_cases he:k.e=0
 ·have UO:(k.e==0)=true:=by simp[he]
  cases hd:k.done with
  |false=>rw[hd] at g2;rw[if_pos ⟨he,rfl⟩];clear he;go_enter func110,ntmps110;go_wp2;go_ret;exact⟨rfl,rfl⟩
  |true=>rw[hd] at g2;rw[if_neg (by simp)];clear he;go_enter func110,ntmps110;go_wp2;go_ret;exact⟨rfl,rfl⟩
 ·have UO:(k.e==0)=false:=by simp[he]
  rw[if_neg (fun h=>he h.1)];clear he;go_enter func110,ntmps110;go_wp2;go_ret;exact⟨rfl,rfl⟩
end Go.Proofs.YthffblhdjjbkaaaGreat
namespace Go.Tru
def bf (v:Nat):Nat→List UInt8
 |0=>[]
 |m+1=>UInt8.ofNat (v/256^m % 256)::bf v m
theorem bp (v:Nat): ∀m,(bf v m).length=m
 |0=>rfl
 |m+1=>by rw[bf,List.length_cons,bp v m]
end Go.Tru
namespace Go.Proofs.YthffblhdjjbkaaaGreat
open Go.RowKit Go.Tru
def Wp (v:Nat) (n g:Nat) (w:World) (vv i:Value) (wr:World):Prop:=
 ∃k:Nat,k≤n∧i= .int .i64 ((k:Int)-1)∧vv= .int .u64 ((v/256^(n-k):Nat):Int)∧Has wr g (bS (List.replicate k 0++bf v (n-k))) 5∧I [] w wr
theorem Jl (j:Nat) (L:List UInt8):(bS (List.replicate (j+1) 0++L))[j]? =some (.int .u8 0):=by
 have:(List.replicate (j+1) (0:UInt8)++L)[j]? =some 0:=by rw[List.getElem?_append_left (by simp)];simp
 rw[bS,List.getElem?_map,this];rfl
theorem Jm (j b:Nat) (L:List UInt8) (hb:b<256):(bS (List.replicate (j+1) 0++L)).set j (.int .u8 (b:Int))=bS (List.replicate j 0++UInt8.ofNat b::L):=by
 have h1:bS (List.replicate (j+1) 0++L)=List.replicate j (.int .u8 0)++ .int .u8 0::bS L:=by rw[List.replicate_succ',List.append_assoc];simp[bS]
 have h2:bS (List.replicate j 0++UInt8.ofNat b::L)=List.replicate j (.int .u8 0)++ .int .u8 (b:Int)::bS L:=by
  have h3:(UInt8.ofNat b).toNat=b:=by simp;omega
  simp only[bS,List.map_append,List.map_cons,List.map_replicate,h3];rfl
 rw[h1,h2,List.set_append_right _ _ (by simp)];simp
theorem Gh (n:Nat) (hn:n≤8):(madeCells (Value.int .u8 0).cells (n*1)).toList=bS (List.replicate n 0):=by rcases(show n=0∨n=1∨n=2∨n=3∨n=4∨n=5∨n=6∨n=7∨n=8 by omega) with rfl|rfl|rfl|rfl|rfl|rfl|rfl|rfl|rfl<;>kernel_rfl
theorem vz (n:Nat) (hn:n≤8) (W:World): ∃W',(Instr.makeSlice 63 (.int .i64 n) (.int .i64 n)).run prog W= .ok (.slice (some ⟨W.heap.size,0,none⟩) n n) W'∧Has W' W.heap.size (bS (List.replicate n 0)) 5∧I [] W W':=by obtain⟨i0,hi,ko,gv,gW⟩:=info_parts nm;have hr:=run_makeSlice (P:=prog) W 63 5 i0 (.int .u8 0) underlying63 hi ko .i64 .i64 n n (by omega) (by omega) (by rw[gv];simp only[Int.toNat_natCast];omega) (by rw[gW];omega) (by omega);rw[gv] at hr;simp only[Int.toNat_natCast] at hr;refine⟨_,hr,?_,(I.refl _ _).alloc _⟩;have h:=Has.aC W (madeCells (Value.int .u8 0).cells (n*1)) 5 rfl;rw[Gh n hn] at h;exact h
theorem dw (v n:Nat) (hv:v≤18446744073709551615) (hn:1≤n∧n≤8) (w:World):Calls prog 57 #[.int .u64 v,.int .i64 n] w fun r w'=>r= .returned (.string (bytesOf (bf v n)))∧I [] w w':=by
 have h1: ¬ (n:Int)<1:=by omega
 have h2: ¬8<(n:Int):=by omega
 go_enter func57,ntmps57;go_wp2_with fail
 obtain⟨w1,ZB,aJ,k1⟩:=vz n hn.2 w;rw[ZB];have CB:=hid aJ;have K1:=hid k1;have gv:=aJ.lt;clear ZB aJ k1;go_wp2_with fail
 go_loopw [0,6] (fun vv i wr=>Wp v n w.heap.size w vv i wr) (fun _ i _=>(intOf i+1).toNat);case atStart=>exact⟨n,Nat.le_refl _,rfl,by simp,by simpa[bf] using CB.out,K1.out⟩
 case round=>
  obtain⟨k,hk,rfl,rfl,oX,hK⟩:=hrel;have bP:=oX.lt;have HK:=hid hK;clear hK;cases k with
  |zero=>
   have kq:bz wr w.heap.size (.slice (some ⟨w.heap.size,0,none⟩) n n) (bf v n):=by unfold bz;rw[bp];exact ownsRow_lit (by simpa using oX) (Nat.le_refl _) (by simp[bS,bp]) (by unfold maxLen;omega)
   have aH:=iW kq underlying63 underlying9;have Ft: ¬ (0:Int)≤((0:Nat):Int)-1:=by omega
   clear oX kq;go_wp2_with fail
   go_ret;exact⟨rfl,HK.out⟩
  |succ j=>
   have hi:(((j+1:Nat):Int)-1)=(j:Int):=by omega
   rw[hi];obtain⟨q,hq⟩: ∃q,v/256^(n- (j+1))=q:=⟨_,rfl⟩
   have hqv:q≤v:=by rw[←hq];exact Nat.div_le_self _ _
   have hnj:n-j=n- (j+1)+1:=by omega
   have qh:v/256^(n-j)=q/256:=by rw[hnj,Nat.pow_succ,←Nat.div_div_eq_div_mul,hq]
   have KR:bf v (n-j)=UInt8.ofNat (q % 256)::bf v (n- (j+1)):=by rw[hnj,bf,hq]
   rw[hq];have hand:bits .and .u64 (q:Int) 255=((q % 256:Nat):Int):=by rw[u64_and _ _ (by omega) (by omega) (by omega) (by omega),show(255:Int).toNat=2^8-1 from rfl,Int.toNat_natCast,Nat.and_two_pow_sub_one_eq_mod]
   obtain⟨y,hy⟩: ∃y,q % 256=y:=⟨_,rfl⟩
   have hy1:y<256:=by omega
   rw[hy] at hand KR;have nW:wr.cell? ⟨w.heap.size,j,none⟩=some (.int .u8 0):=by rw[oX.cell,Jl]
   have ZC:=oX.free j;have bn:=oX.set j (.int .u8 (y:Int));rw[Jm j y _ hy1,←KR] at bn;have iJ:=hid bn;have HQ2:=hid qh;have hjn:(j:Int)<(n:Int):=by omega
   have Ft:(0:Int)≤(j:Int):=by omega
   clear oX bn qh KR hq hy hnj hi;go_wp2_with fail
   go_roundw;case rel=>exact⟨j,by omega,rfl,by rw[HQ2.out];rfl,iJ.out,HK.out.setCell (inr (Nat.le_refl _)) _⟩
   case measure=>simp[intOf]
open Go.K5 in
theorem Oh (v:Nat) (h2:v<24) (w:World):Calls prog 23 #[.int .i64 0,.int .u64 v] w fun r w'=>r= .returned (.string (bytesOf [UInt8.ofNat (0+v)]))∧I [] w w':=YC
theorem Oi (v:Nat) (h1:24≤v) (h2:v<256) (w:World):Calls prog 23 #[.int .i64 0,.int .u64 v] w fun r w'=>r= .returned (.string (⟨#[24]⟩++bytesOf (bf v 1)))∧I [] w w':=by
 have aH: ∀ (W:World) (g:Nat),W.cell? ⟨g,0,none⟩=some (.int .u8 24)→(convert 63 9 (.slice (some ⟨g,0,none⟩) 1 1)).run prog W= .ok (.string ⟨#[24]⟩) W:=fun W g hg=>
  run_convert_bytes_back W 63 9 5 ⟨g,0,none⟩ 1 [24] underlying63 underlying5 underlying9 (fun j hj=>by
   obtain rfl:j=0:=by simp at hj;omega
   exact hg)
 have eE: ∀ (W:World) (t:TypeId),(convert 63 9 (.slice (some ⟨W.heap.size,0,none⟩) 1 1)).run prog (W.alloc (.cells #[.int .u8 24] t))= .ok (.string ⟨#[24]⟩) (W.alloc (.cells #[.int .u8 24] t)):=fun W t=>aH _ _ ((Has.aC W #[.int .u8 24] t rfl).cell 0)
 have eF: ∀ (W:World) (t:TypeId),(convert 63 9 (.slice (some ⟨W.heap.size,0,none⟩) 1 1)).run prog (W.alloc (.cells #[.int .u8 24] t)).drew= .ok (.string ⟨#[24]⟩) (W.alloc (.cells #[.int .u8 24] t)).drew:=fun W t=>aH _ _ ((Has.aC W #[.int .u8 24] t rfl).cell 0)
 have pI:IntKind.u8.wrap 24=24:=by decide
 have cW:=hid aH;have ey:=hid (fun W=>dw v 1 (by omega) (by omega) W);have f0: ¬ (v:Int)<24:=by omega
 have f1:(v:Int)<256:=by omega
 clear aH h1 h2;go_enter func23,ntmps23;go_wp2_with fail
 clear f0 f1;go_region_held (fun _=>True) (trivial) ((go_at_call 57;refine(ey.out _).mono ?_;rintro e w4 ⟨rfl,k4⟩;try have c4:=cW.out w4 w.heap.size (k4.cell ((Has.aC w #[.int .u8 24] _ rfl).cell 0) (by simp))))
 all_goals
  go_wp2_with fail
  go_ret;refine⟨rfl,?_⟩;first
   |exact(((I.refl [] w).alloc _).drew).trans k4
   |exact(((I.refl [] w).drew).trans k4).alloc _
   |exact(((I.refl [] w).drew).alloc _).trans k4
   |exact((((I.refl [] w).drew).trans k4).alloc _).drew
theorem Oj (v:Nat) (h1:256≤v) (h2:v<65536) (w:World):Calls prog 23 #[.int .i64 0,.int .u64 v] w fun r w'=>r= .returned (.string (⟨#[25]⟩++bytesOf (bf v 2)))∧I [] w w':=by
 have aH: ∀ (W:World) (g:Nat),W.cell? ⟨g,0,none⟩=some (.int .u8 25)→(convert 63 9 (.slice (some ⟨g,0,none⟩) 1 1)).run prog W= .ok (.string ⟨#[25]⟩) W:=fun W g hg=>
  run_convert_bytes_back W 63 9 5 ⟨g,0,none⟩ 1 [25] underlying63 underlying5 underlying9 (fun j hj=>by
   obtain rfl:j=0:=by simp at hj;omega
   exact hg)
 have eE: ∀ (W:World) (t:TypeId),(convert 63 9 (.slice (some ⟨W.heap.size,0,none⟩) 1 1)).run prog (W.alloc (.cells #[.int .u8 25] t))= .ok (.string ⟨#[25]⟩) (W.alloc (.cells #[.int .u8 25] t)):=fun W t=>aH _ _ ((Has.aC W #[.int .u8 25] t rfl).cell 0)
 have eF: ∀ (W:World) (t:TypeId),(convert 63 9 (.slice (some ⟨W.heap.size,0,none⟩) 1 1)).run prog (W.alloc (.cells #[.int .u8 25] t)).drew= .ok (.string ⟨#[25]⟩) (W.alloc (.cells #[.int .u8 25] t)).drew:=fun W t=>aH _ _ ((Has.aC W #[.int .u8 25] t rfl).cell 0)
 have pI:IntKind.u8.wrap 25=25:=by decide
 have cW:=hid aH;have ey:=hid (fun W=>dw v 2 (by omega) (by omega) W);have f0: ¬ (v:Int)<24:=by omega
 have f1: ¬ (v:Int)<256:=by omega
 have f2:(v:Int)<65536:=by omega
 clear aH h1 h2;go_enter func23,ntmps23;go_wp2_with fail
 clear f0 f1 f2;go_region_held (fun _=>True) (trivial) ((go_at_call 57;refine(ey.out _).mono ?_;rintro e w4 ⟨rfl,k4⟩;try have c4:=cW.out w4 w.heap.size (k4.cell ((Has.aC w #[.int .u8 25] _ rfl).cell 0) (by simp))))
 all_goals
  go_wp2_with fail
  go_ret;refine⟨rfl,?_⟩;first
   |exact(((I.refl [] w).alloc _).drew).trans k4
   |exact(((I.refl [] w).drew).trans k4).alloc _
   |exact(((I.refl [] w).drew).alloc _).trans k4
   |exact((((I.refl [] w).drew).trans k4).alloc _).drew
theorem Ol (v:Nat) (h1:65536≤v) (h2:v<4294967296) (w:World):Calls prog 23 #[.int .i64 0,.int .u64 v] w fun r w'=>r= .returned (.string (⟨#[26]⟩++bytesOf (bf v 4)))∧I [] w w':=by
 have aH: ∀ (W:World) (g:Nat),W.cell? ⟨g,0,none⟩=some (.int .u8 26)→(convert 63 9 (.slice (some ⟨g,0,none⟩) 1 1)).run prog W= .ok (.string ⟨#[26]⟩) W:=fun W g hg=>
  run_convert_bytes_back W 63 9 5 ⟨g,0,none⟩ 1 [26] underlying63 underlying5 underlying9 (fun j hj=>by
   obtain rfl:j=0:=by simp at hj;omega
   exact hg)
 have eE: ∀ (W:World) (t:TypeId),(convert 63 9 (.slice (some ⟨W.heap.size,0,none⟩) 1 1)).run prog (W.alloc (.cells #[.int .u8 26] t))= .ok (.string ⟨#[26]⟩) (W.alloc (.cells #[.int .u8 26] t)):=fun W t=>aH _ _ ((Has.aC W #[.int .u8 26] t rfl).cell 0)
 have eF: ∀ (W:World) (t:TypeId),(convert 63 9 (.slice (some ⟨W.heap.size,0,none⟩) 1 1)).run prog (W.alloc (.cells #[.int .u8 26] t)).drew= .ok (.string ⟨#[26]⟩) (W.alloc (.cells #[.int .u8 26] t)).drew:=fun W t=>aH _ _ ((Has.aC W #[.int .u8 26] t rfl).cell 0)
 have pI:IntKind.u8.wrap 26=26:=by decide
 have cW:=hid aH;have ey:=hid (fun W=>dw v 4 (by omega) (by omega) W);have f0: ¬ (v:Int)<24:=by omega
 have f1: ¬ (v:Int)<256:=by omega
 have f2: ¬ (v:Int)<65536:=by omega
 have f3:(v:Int)<4294967296:=by omega
 clear aH h1 h2;go_enter func23,ntmps23;go_wp2_with fail
 clear f0 f1 f2 f3;go_region_held (fun _=>True) (trivial) ((go_at_call 57;refine(ey.out _).mono ?_;rintro e w4 ⟨rfl,k4⟩;try have c4:=cW.out w4 w.heap.size (k4.cell ((Has.aC w #[.int .u8 26] _ rfl).cell 0) (by simp))))
 all_goals
  go_wp2_with fail
  go_ret;refine⟨rfl,?_⟩;first
   |exact(((I.refl [] w).alloc _).drew).trans k4
   |exact(((I.refl [] w).drew).trans k4).alloc _
   |exact(((I.refl [] w).drew).alloc _).trans k4
   |exact((((I.refl [] w).drew).trans k4).alloc _).drew
theorem Om (v:Nat) (h1:4294967296≤v) (h2:v<18446744073709551616) (w:World):Calls prog 23 #[.int .i64 0,.int .u64 v] w fun r w'=>r= .returned (.string (⟨#[27]⟩++bytesOf (bf v 8)))∧I [] w w':=by
 have aH: ∀ (W:World) (g:Nat),W.cell? ⟨g,0,none⟩=some (.int .u8 27)→(convert 63 9 (.slice (some ⟨g,0,none⟩) 1 1)).run prog W= .ok (.string ⟨#[27]⟩) W:=fun W g hg=>
  run_convert_bytes_back W 63 9 5 ⟨g,0,none⟩ 1 [27] underlying63 underlying5 underlying9 (fun j hj=>by
   obtain rfl:j=0:=by simp at hj;omega
   exact hg)
 have eE: ∀ (W:World) (t:TypeId),(convert 63 9 (.slice (some ⟨W.heap.size,0,none⟩) 1 1)).run prog (W.alloc (.cells #[.int .u8 27] t))= .ok (.string ⟨#[27]⟩) (W.alloc (.cells #[.int .u8 27] t)):=fun W t=>aH _ _ ((Has.aC W #[.int .u8 27] t rfl).cell 0)
 have eF: ∀ (W:World) (t:TypeId),(convert 63 9 (.slice (some ⟨W.heap.size,0,none⟩) 1 1)).run prog (W.alloc (.cells #[.int .u8 27] t)).drew= .ok (.string ⟨#[27]⟩) (W.alloc (.cells #[.int .u8 27] t)).drew:=fun W t=>aH _ _ ((Has.aC W #[.int .u8 27] t rfl).cell 0)
 have pI:IntKind.u8.wrap 27=27:=by decide
 have cW:=hid aH;have ey:=hid (fun W=>dw v 8 (by omega) (by omega) W);have f0: ¬ (v:Int)<24:=by omega
 have f1: ¬ (v:Int)<256:=by omega
 have f2: ¬ (v:Int)<65536:=by omega
 have f3: ¬ (v:Int)<4294967296:=by omega
 clear aH h1 h2;go_enter func23,ntmps23;go_wp2_with fail
 clear f0 f1 f2 f3;go_region_held (fun _=>True) (trivial) ((go_at_call 57;refine(ey.out _).mono ?_;rintro e w4 ⟨rfl,k4⟩;try have c4:=cW.out w4 w.heap.size (k4.cell ((Has.aC w #[.int .u8 27] _ rfl).cell 0) (by simp))))
 all_goals
  go_wp2_with fail
  go_ret;refine⟨rfl,?_⟩;first
   |exact(((I.refl [] w).alloc _).drew).trans k4
   |exact(((I.refl [] w).drew).trans k4).alloc _
   |exact(((I.refl [] w).drew).alloc _).trans k4
   |exact((((I.refl [] w).drew).trans k4).alloc _).drew
open Go.K2 in
theorem On (v:Nat) (h2:v<24) (w:World):Calls prog 23 #[.int .i64 1,.int .u64 v] w fun r w'=>r= .returned (.string (bytesOf [UInt8.ofNat (32+v)]))∧I [] w w':=YC
theorem Oo (v:Nat) (h1:24≤v) (h2:v<256) (w:World):Calls prog 23 #[.int .i64 1,.int .u64 v] w fun r w'=>r= .returned (.string (⟨#[56]⟩++bytesOf (bf v 1)))∧I [] w w':=by
 have aH: ∀ (W:World) (g:Nat),W.cell? ⟨g,0,none⟩=some (.int .u8 56)→(convert 63 9 (.slice (some ⟨g,0,none⟩) 1 1)).run prog W= .ok (.string ⟨#[56]⟩) W:=fun W g hg=>
  run_convert_bytes_back W 63 9 5 ⟨g,0,none⟩ 1 [56] underlying63 underlying5 underlying9 (fun j hj=>by
   obtain rfl:j=0:=by simp at hj;omega
   exact hg)
 have eE: ∀ (W:World) (t:TypeId),(convert 63 9 (.slice (some ⟨W.heap.size,0,none⟩) 1 1)).run prog (W.alloc (.cells #[.int .u8 56] t))= .ok (.string ⟨#[56]⟩) (W.alloc (.cells #[.int .u8 56] t)):=fun W t=>aH _ _ ((Has.aC W #[.int .u8 56] t rfl).cell 0)
 have eF: ∀ (W:World) (t:TypeId),(convert 63 9 (.slice (some ⟨W.heap.size,0,none⟩) 1 1)).run prog (W.alloc (.cells #[.int .u8 56] t)).drew= .ok (.string ⟨#[56]⟩) (W.alloc (.cells #[.int .u8 56] t)).drew:=fun W t=>aH _ _ ((Has.aC W #[.int .u8 56] t rfl).cell 0)
 have pI:IntKind.u8.wrap 56=56:=by decide
 have cW:=hid aH;have ey:=hid (fun W=>dw v 1 (by omega) (by omega) W);have f0: ¬ (v:Int)<24:=by omega
 have f1:(v:Int)<256:=by omega
 clear aH h1 h2;go_enter func23,ntmps23;go_wp2_with fail
 clear f0 f1;go_region_held (fun _=>True) (trivial) ((go_at_call 57;refine(ey.out _).mono ?_;rintro e w4 ⟨rfl,k4⟩;try have c4:=cW.out w4 w.heap.size (k4.cell ((Has.aC w #[.int .u8 56] _ rfl).cell 0) (by simp))))
 all_goals
  go_wp2_with fail
  go_ret;refine⟨rfl,?_⟩;first
   |exact(((I.refl [] w).alloc _).drew).trans k4
   |exact(((I.refl [] w).drew).trans k4).alloc _
   |exact(((I.refl [] w).drew).alloc _).trans k4
   |exact((((I.refl [] w).drew).trans k4).alloc _).drew
theorem Oq (v:Nat) (h1:256≤v) (h2:v<65536) (w:World):Calls prog 23 #[.int .i64 1,.int .u64 v] w fun r w'=>r= .returned (.string (⟨#[57]⟩++bytesOf (bf v 2)))∧I [] w w':=by
 have aH: ∀ (W:World) (g:Nat),W.cell? ⟨g,0,none⟩=some (.int .u8 57)→(convert 63 9 (.slice (some ⟨g,0,none⟩) 1 1)).run prog W= .ok (.string ⟨#[57]⟩) W:=fun W g hg=>
  run_convert_bytes_back W 63 9 5 ⟨g,0,none⟩ 1 [57] underlying63 underlying5 underlying9 (fun j hj=>by
   obtain rfl:j=0:=by simp at hj;omega
   exact hg)
 have eE: ∀ (W:World) (t:TypeId),(convert 63 9 (.slice (some ⟨W.heap.size,0,none⟩) 1 1)).run prog (W.alloc (.cells #[.int .u8 57] t))= .ok (.string ⟨#[57]⟩) (W.alloc (.cells #[.int .u8 57] t)):=fun W t=>aH _ _ ((Has.aC W #[.int .u8 57] t rfl).cell 0)
 have eF: ∀ (W:World) (t:TypeId),(convert 63 9 (.slice (some ⟨W.heap.size,0,none⟩) 1 1)).run prog (W.alloc (.cells #[.int .u8 57] t)).drew= .ok (.string ⟨#[57]⟩) (W.alloc (.cells #[.int .u8 57] t)).drew:=fun W t=>aH _ _ ((Has.aC W #[.int .u8 57] t rfl).cell 0)
 have pI:IntKind.u8.wrap 57=57:=by decide
 have cW:=hid aH;have ey:=hid (fun W=>dw v 2 (by omega) (by omega) W);have f0: ¬ (v:Int)<24:=by omega
 have f1: ¬ (v:Int)<256:=by omega
 have f2:(v:Int)<65536:=by omega
 clear aH h1 h2;go_enter func23,ntmps23;go_wp2_with fail
 clear f0 f1 f2;go_region_held (fun _=>True) (trivial) ((go_at_call 57;refine(ey.out _).mono ?_;rintro e w4 ⟨rfl,k4⟩;try have c4:=cW.out w4 w.heap.size (k4.cell ((Has.aC w #[.int .u8 57] _ rfl).cell 0) (by simp))))
 all_goals
  go_wp2_with fail
  go_ret;refine⟨rfl,?_⟩;first
   |exact(((I.refl [] w).alloc _).drew).trans k4
   |exact(((I.refl [] w).drew).trans k4).alloc _
   |exact(((I.refl [] w).drew).alloc _).trans k4
   |exact((((I.refl [] w).drew).trans k4).alloc _).drew
theorem Ot (v:Nat) (h1:65536≤v) (h2:v<4294967296) (w:World):Calls prog 23 #[.int .i64 1,.int .u64 v] w fun r w'=>r= .returned (.string (⟨#[58]⟩++bytesOf (bf v 4)))∧I [] w w':=by
 have aH: ∀ (W:World) (g:Nat),W.cell? ⟨g,0,none⟩=some (.int .u8 58)→(convert 63 9 (.slice (some ⟨g,0,none⟩) 1 1)).run prog W= .ok (.string ⟨#[58]⟩) W:=fun W g hg=>
  run_convert_bytes_back W 63 9 5 ⟨g,0,none⟩ 1 [58] underlying63 underlying5 underlying9 (fun j hj=>by
   obtain rfl:j=0:=by simp at hj;omega
   exact hg)
 have eE: ∀ (W:World) (t:TypeId),(convert 63 9 (.slice (some ⟨W.heap.size,0,none⟩) 1 1)).run prog (W.alloc (.cells #[.int .u8 58] t))= .ok (.string ⟨#[58]⟩) (W.alloc (.cells #[.int .u8 58] t)):=fun W t=>aH _ _ ((Has.aC W #[.int .u8 58] t rfl).cell 0)
 have eF: ∀ (W:World) (t:TypeId),(convert 63 9 (.slice (some ⟨W.heap.size,0,none⟩) 1 1)).run prog (W.alloc (.cells #[.int .u8 58] t)).drew= .ok (.string ⟨#[58]⟩) (W.alloc (.cells #[.int .u8 58] t)).drew:=fun W t=>aH _ _ ((Has.aC W #[.int .u8 58] t rfl).cell 0)
 have pI:IntKind.u8.wrap 58=58:=by decide
 have cW:=hid aH;have ey:=hid (fun W=>dw v 4 (by omega) (by omega) W);have f0: ¬ (v:Int)<24:=by omega
 have f1: ¬ (v:Int)<256:=by omega
 have f2: ¬ (v:Int)<65536:=by omega
 have f3:(v:Int)<4294967296:=by omega
 clear aH h1 h2;go_enter func23,ntmps23;go_wp2_with fail
 clear f0 f1 f2 f3;go_region_held (fun _=>True) (trivial) ((go_at_call 57;refine(ey.out _).mono ?_;rintro e w4 ⟨rfl,k4⟩;try have c4:=cW.out w4 w.heap.size (k4.cell ((Has.aC w #[.int .u8 58] _ rfl).cell 0) (by simp))))
 all_goals
  go_wp2_with fail
  go_ret;refine⟨rfl,?_⟩;first
   |exact(((I.refl [] w).alloc _).drew).trans k4
   |exact(((I.refl [] w).drew).trans k4).alloc _
   |exact(((I.refl [] w).drew).alloc _).trans k4
   |exact((((I.refl [] w).drew).trans k4).alloc _).drew
theorem Ou (v:Nat) (h1:4294967296≤v) (h2:v<18446744073709551616) (w:World):Calls prog 23 #[.int .i64 1,.int .u64 v] w fun r w'=>r= .returned (.string (⟨#[59]⟩++bytesOf (bf v 8)))∧I [] w w':=by
 have aH: ∀ (W:World) (g:Nat),W.cell? ⟨g,0,none⟩=some (.int .u8 59)→(convert 63 9 (.slice (some ⟨g,0,none⟩) 1 1)).run prog W= .ok (.string ⟨#[59]⟩) W:=fun W g hg=>
  run_convert_bytes_back W 63 9 5 ⟨g,0,none⟩ 1 [59] underlying63 underlying5 underlying9 (fun j hj=>by
   obtain rfl:j=0:=by simp at hj;omega
   exact hg)
 have eE: ∀ (W:World) (t:TypeId),(convert 63 9 (.slice (some ⟨W.heap.size,0,none⟩) 1 1)).run prog (W.alloc (.cells #[.int .u8 59] t))= .ok (.string ⟨#[59]⟩) (W.alloc (.cells #[.int .u8 59] t)):=fun W t=>aH _ _ ((Has.aC W #[.int .u8 59] t rfl).cell 0)
 have eF: ∀ (W:World) (t:TypeId),(convert 63 9 (.slice (some ⟨W.heap.size,0,none⟩) 1 1)).run prog (W.alloc (.cells #[.int .u8 59] t)).drew= .ok (.string ⟨#[59]⟩) (W.alloc (.cells #[.int .u8 59] t)).drew:=fun W t=>aH _ _ ((Has.aC W #[.int .u8 59] t rfl).cell 0)
 have pI:IntKind.u8.wrap 59=59:=by decide
 have cW:=hid aH;have ey:=hid (fun W=>dw v 8 (by omega) (by omega) W);have f0: ¬ (v:Int)<24:=by omega
 have f1: ¬ (v:Int)<256:=by omega
 have f2: ¬ (v:Int)<65536:=by omega
 have f3: ¬ (v:Int)<4294967296:=by omega
 clear aH h1 h2;go_enter func23,ntmps23;go_wp2_with fail
 clear f0 f1 f2 f3;go_region_held (fun _=>True) (trivial) ((go_at_call 57;refine(ey.out _).mono ?_;rintro e w4 ⟨rfl,k4⟩;try have c4:=cW.out w4 w.heap.size (k4.cell ((Has.aC w #[.int .u8 59] _ rfl).cell 0) (by simp))))
 all_goals
  go_wp2_with fail
  go_ret;refine⟨rfl,?_⟩;first
   |exact(((I.refl [] w).alloc _).drew).trans k4
   |exact(((I.refl [] w).drew).trans k4).alloc _
   |exact(((I.refl [] w).drew).alloc _).trans k4
   |exact((((I.refl [] w).drew).trans k4).alloc _).drew
end Go.Proofs.YthffblhdjjbkaaaGreat
