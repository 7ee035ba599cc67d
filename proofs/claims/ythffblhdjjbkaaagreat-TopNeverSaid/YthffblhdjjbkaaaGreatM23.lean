/- truchmanref1.plain for CBOR: its contract.; A document; truchmanref1.Writer.Step at a part within a container; truchmanref1.Writer.Step at a container's end; cborin.Core's Text; cborin.Core's Begin; c -/
import Derived.Test.YthffblhdjjbkaaaGreatM22
import Derived.Test.YthffblhdjjbkaaaGreatM17
import Derived.Laws.AppendOwnNone
set_option maxHeartbeats 100000000
set_option maxRecDepth 1000000
open Go.Lib (hid)
open Go.Proofs.Tryz
open Or (inl inr)
namespace Go.Tru
def OV (e:Ev):Prop:=e=ar∨(∃b,e=aq b)∨(∃b,∃m:Nat,m<18446744073709551616∧e=ay b m)∨(∃t:ByteArray,t.size≤1000∧e=ah t)∨(∃t:ByteArray,t.size≤1000∧e=dv t)
def mF (e:Ev):List UInt8:=
 if e.kind=0 then [246]
 else if e.kind=1 then [if e.yes then 245 else 244]
 else if e.kind=2 then aU (if e.yes then 1 else 0) e.jM.toNat
 else aU (if e.kind=3 then 3 else 2) e.text.size++e.text.data.toList
theorem rW (l:List UInt8) (t:ByteArray):bytesOf l++t=bytesOf (l++t.data.toList):=by apply ByteArray.ext;rw[ByteArray.data_append];simp[bytesOf]
theorem an (l:List UInt8):(bytesOf l).size=l.length:=by simp[bytesOf,ByteArray.size]
end Go.Tru
namespace Go.Proofs.YthffblhdjjbkaaaGreat
open Go.RowKit Go.Tru
theorem CC (w:World):Calls prog 25 #[.int .i64 2,ar.val] w fun r w'=>r= .returned (.tuple #[.string (bytesOf [246]),.int .i64 0])∧I [] w w':=by
 simp only[Ev.val,Ev.cells,ar,aY];go_enter func25,ntmps25;go_wp2_with fail
 go_ret2;exact⟨rfl,(I.refl _ _).alloc _⟩
theorem CD (b:Bool) (w:World):Calls prog 25 #[.int .i64 2,(aq b).val] w fun r w'=>r= .returned (.tuple #[.string (bytesOf [if b then 245 else 244]),.int .i64 0])∧I [] w w':=by
 simp only[Ev.val,Ev.cells,aq,aY];cases b;all_goals
  go_enter func25,ntmps25;go_wp2_with fail
  go_ret2;exact⟨rfl,(I.refl _ _).alloc _⟩
theorem Gk (b:Bool) (m:Nat) (hm:m<18446744073709551616) (w:World):Calls prog 25 #[.int .i64 2,(ay b m).val] w fun r w'=>r= .returned (.tuple #[.string (bytesOf (aU (if b then 1 else 0) m)),.int .i64 0])∧I [] w w':=by
 simp only[Ev.val,Ev.cells,ay,aY];cases b
 ·have H:=hid (fun W=>jS 0 m (by omega) hm W);clear hm;go_enter func25,ntmps25;go_wp2_with fail
  refine(H.out _).mono ?_;rintro e w1 ⟨rfl,k1⟩;have K1:=hid (((I.refl [] w).alloc _).trans k1);clear k1;go_wp2_with fail
  go_ret2;exact⟨rfl,K1.out⟩
 ·have H:=hid (fun W=>jS 1 m (by omega) hm W);clear hm;go_enter func25,ntmps25;go_wp2_with fail
  refine(H.out _).mono ?_;rintro e w1 ⟨rfl,k1⟩;have K1:=hid (((I.refl [] w).alloc _).trans k1);clear k1;go_wp2_with fail
  go_ret2;exact⟨rfl,K1.out⟩
open Go.K1 in
theorem CE (t:ByteArray) (ht:t.size≤1000) (w:World):Calls prog 25 #[.int .i64 2,(ah t).val] w fun r w'=>r= .returned (.tuple #[.string (bytesOf (aU 3 t.size)++t),.int .i64 0])∧I [] w w':=q23
open Go.K0 in
theorem zK (t:ByteArray) (ht:t.size≤1000) (w:World):Calls prog 25 #[.int .i64 2,(dv t).val] w fun r w'=>r= .returned (.tuple #[.string (bytesOf (aU 2 t.size)++t),.int .i64 0])∧I [] w w':=q23
theorem Gl (e:Ev) (he:OV e) (w:World):Calls prog 25 #[.int .i64 2,e.val] w fun r w'=>r= .returned (.tuple #[.string (bytesOf (mF e)),.int .i64 0])∧I [] w w':=by
 rcases he with rfl|⟨b,rfl⟩|⟨b,m,hm,rfl⟩|⟨t,ht,rfl⟩|⟨t,ht,rfl⟩
 ·exact CC w
 ·exact CD b w
 ·exact Gk b m hm w
 ·have:=CE t ht w;rw[rW] at this;exact this
 ·have:=zK t ht w;rw[rW] at this;exact this
end Go.Proofs.YthffblhdjjbkaaaGreat
namespace Go.Tru
def dm (e:Ev):List UInt8:=
 if e.kind=5 then aU 4 e.count.toNat
 else if e.kind=6 then aU 5 e.count.toNat
 else if e.kind=7 then []
 else mF e
def cq (l:List Ev):List UInt8:=l.flatMap dm
theorem fV (a b:List Ev):cq (a++b)=cq a++cq b:=by simp[cq]
theorem gA (e:Ev) (b:List Ev):cq (e::b)=dm e++cq b:=by simp[cq]
def Cb.jv (p:Cb) (l:List UInt8) (es:List Ev) (q:Cb):Prop:=∀rest,p.run (l++rest)=(es++(q.run rest).1,(q.run rest).2)
theorem Cb.jv.trans {p q r:Cb} {l m:List UInt8} {es fs:List Ev} (h:p.jv l es q) (k:q.jv m fs r):p.jv (l++m) (es++fs) r:=fun rest=>by
 rw[List.append_assoc,h,k]
 simp[List.append_assoc]
theorem Cb.jv.conv {p q:Cb} {l m:List UInt8} {es fs:List Ev} (h:p.jv l es q) (hl:l=m) (he:es=fs):p.jv m fs q:=hl▸he▸h
structure Idle (d:Int) (st:List af) (dn:Bool) (p:Cb):Prop where
 depth:p.c.depth=d
 bu:p.c.open_=st
 done:p.c.done=dn
 e:p.c.e=0
 aT:p.c.aT=0
 s:p.c.s= []
 chunks:p.c.chunks=false
 begun:p.begun=false
def n9 (st:List af):Bool:=match st with| []=>false|c::_=>c.bg&&decide (c.parts % 2=0)
theorem Idle.new {d:Int}:Idle d [] false (Cb.new d):=⟨rfl,rfl,rfl,rfl,rfl,rfl,rfl,rfl⟩
theorem Idle.key {d:Int} {st:List af} {dn:Bool} {p:Cb} (h:Idle d st dn p):p.c.atKey=n9 st:=by unfold Core.atKey n9;rw[h.bu];cases st<;>rfl
theorem Idle.step {d:Int} {st:List af} {dn:Bool} {p:Cb} (h:Idle d st dn p) (b:Int):p.step b=p.item b:=by unfold Cb.step;rw[if_neg (by simp[h.e]),if_neg (by simp[h.aT]),if_neg (by simp[h.begun]),if_neg (by simp[h.chunks])]
theorem Idle.told {d:Int} {st:List af} {p q:Cb} (h:Idle d st false p) (hc:q.c=p.c) (hb:q.begun=false) (ev:Ev):Idle d (aS st).2.1 (aS st).2.2 (q.put (q.c.value ev)).2:=by
 refine⟨?_,?_,?_,?_,?_,?_,?_,hb⟩
 ·simp only[Cb.put,Core.value,hc,h.depth]
 ·simp only[Cb.put,Core.value,hc,h.bu]
 ·simp only[Cb.put,Core.value,hc,h.bu,h.done,Bool.false_or]
 ·simp only[Cb.put,Core.value,hc,h.e]
 ·simp only[Cb.put,Core.value,hc,h.aT]
 ·simp only[Cb.put,Core.value,hc,h.s]
 ·simp only[Cb.put,Core.value,hc,h.chunks]
theorem Idle.U4 {d:Int} {st:List af} {p:Cb} (h:Idle d st false p) {ev:Ev} {b:UInt8} (hs:p.item b.toNat=p.put (p.c.value ev)): ∃q,p.jv [b] (ev::(aS st).1) q∧Idle d (aS st).2.1 (aS st).2.2 q:=by refine⟨(p.put (p.c.value ev)).2,fun rest=> ?_,h.told rfl h.begun ev⟩;rw[List.cons_append,List.nil_append,jY,h.step,hs,ik (by exact h.e)];simp only[Cb.put,Core.value,h.bu]
/-! ### a leaf -/
theorem Gm {d:Int} {st:List af} {p:Cb} (h:Idle d st false p) (hk:n9 st=false): ∃q,p.jv [246] (ar::(aS st).1) q∧Idle d (aS st).2.1 (aS st).2.2 q:=by refine h.U4 ?_;show p.item 246=_;unfold Cb.item Cb.simple;simp[h.done,h.key,hk]
theorem Gn {d:Int} {st:List af} {p:Cb} (h:Idle d st false p) (hk:n9 st=false) (y:Bool): ∃q,p.jv [if y then 245 else 244] (aq y::(aS st).1) q∧Idle d (aS st).2.1 (aS st).2.2 q:=by
 refine h.U4 ?_;cases y
 ·show p.item 244=_;unfold Cb.item Cb.simple;simp[h.done,h.key,hk]
 ·show p.item 245=_;unfold Cb.item Cb.simple;simp[h.done,h.key,hk]
theorem Idle.head {d:Int} {st:List af} {p:Cb} (h:Idle d st false p) {M v:Nat} (hM:M≤5) (hv:v<18446744073709551616) (hk:n9 st=true→M=3) (hf:M=4∨M=5→(st.length:Int)<d) (rest:List UInt8):
    p.run (aU M v++rest)=Cb.cont (Cb.told {p with h:=Hd.zero,begun:=false} M v false) rest:=
 OU hM hv h.e (by simp[h.aT]) rest (fun low SV=>Gi hM SV h.e (by simp[h.aT]) h.begun h.chunks h.done (fun hh=>hk (by rw[←h.key];exact hh)) (fun hh=>by
  have:=hf hh
  unfold Core.full
  rw[h.depth,h.bu]
  simp;omega))
theorem yF {d:Int} {st:List af} {p:Cb} (h:Idle d st false p) (hk:n9 st=false) (neg:Bool) (m:Nat) (hm:m<2147483648): ∃q,p.jv (aU (if neg then 1 else 0) m) (ay neg m::(aS st).1) q∧Idle d (aS st).2.1 (aS st).2.2 q:=by
 refine⟨(Cb.put {p with h:=Hd.zero,begun:=false} (p.c.value (ay neg m))).2,fun rest=> ?_,h.told (q:={p with h:=Hd.zero,begun:=false}) rfl rfl _⟩;rw[h.head (by split<;>omega) (by omega) (by rw[hk];intro hh;cases hh) (by intro hh;split at hh<;>omega)];have ht:Cb.told {p with h:=Hd.zero,begun:=false} ((if neg=true then 1 else 0:Nat):Int) m false=Cb.put {p with h:=Hd.zero,begun:=false} (p.c.value (ay neg m)):=by unfold Cb.told;cases neg<;>simp
 rw[ht,ik (by exact h.e)];simp only[Cb.put,Core.value,h.bu]
theorem CF (all rest:List UInt8) (hu:(cm.zero.run all).whole=true): ∀ (l pre:List UInt8) (p:Cb),all=pre++l→l≠[]→p.c.e=0→p.c.word=true→p.c.chunks=false→p.c.aT=l.length→p.c.s=pre→p.c.c=cm.zero.run pre→p.run (l++rest)=Cb.cont (p.put (Core.text {p.c with s:=all,aT:=0,c:=cm.zero.run all})) rest
 | [],_,_,_,h,_,_,_,_,_,_=>absurd rfl h
 |b::l,pre,p,kA,_,he,hw,hc,hl,hs,Nz=>by
  have hb:UInt8.ofNat ((b.toNat:Int)).toNat=b:=by simp
  have dP:p.step (b.toNat:Int)=p.put (p.c.byte b.toNat):=by unfold Cb.step;rw[if_neg (by simp[he]),if_pos (by rw[hl];simp only[List.length_cons];omega)]
  rw[List.cons_append,jY,dP];have Jo:all=(pre++[b])++l:=by rw[kA];simp
  have hcz:p.c.c.step b.toNat=cm.zero.run (pre++[b]):=by rw[Nz,cm.kW];rfl
  have Nk:(cm.zero.run (pre++[b])).bad=false:=by
   cases oY:(cm.zero.run (pre++[b])).bad with
   |false=>rfl
   |true=>rw[Jo,cm.kW,cm.zH oY] at hu;simp[cm.whole,oY] at hu
  have hlen:p.c.aT-1=(l.length:Int):=by rw[hl];simp only[List.length_cons];omega
  have uR:p.c.byte b.toNat=if 0<(l.length:Int) then([],{p.c with s:=pre++[b],aT:=l.length,c:=cm.zero.run (pre++[b])}) else Core.text {p.c with s:=pre++[b],aT:=l.length,c:=cm.zero.run (pre++[b])}:=by
   unfold Core.byte;simp only[hw,if_true,hcz,hs,hb,hlen];rw[if_neg (by
    rintro⟨_,h1|⟨h1,h2⟩⟩
    ·rw[Nk] at h1;cases h1
    ·have h3:l= []:=List.length_eq_zero_iff.1 (by omega);rw[Jo,h3,List.append_nil] at hu;rw[hu] at h2;cases h2)]
   simp[hc]
  rw[uR];cases l with
  |nil=>rw[if_neg (by simp),List.nil_append,Jo,List.append_nil];rfl
  |cons b2 l=>rw[if_pos (by simp only[List.length_cons];omega)];show Cb.cont ([],{p with c:={p.c with s:=pre++[b],aT:=((b2::l).length:Nat),c:=cm.zero.run (pre++[b])}}) _=_;rw[ky (by exact he)];exact CF all rest hu (b2::l) (pre++[b]) {p with c:={p.c with s:=pre++[b],aT:=((b2::l).length:Nat),c:=cm.zero.run (pre++[b])}} Jo (by simp) he hw hc rfl rfl rfl
theorem pP {d:Int} {st:List af} {p:Cb} (h:Idle d st false p) (t:ByteArray) (ht:t.size<32) (hu:(cm.zero.run t.data.toList).whole=true): ∃q,p.jv (aU 3 t.size++t.data.toList) (ah t::(aS st).1) q∧Idle d (aS st).2.1 (aS st).2.2 q:=by
 have hlen:t.data.toList.length=t.size:=by rw[Array.length_toList];rfl
 have jy:bytesOf t.data.toList=t:=by unfold bytesOf;apply ByteArray.ext;simp
 have Gp:me true t.data.toList=ah t:=by unfold me;rw[if_pos rfl,jy]
 have CG:=fun rest=>h.head (M:=3) (v:=t.size) (by omega) (by omega) (fun _=>rfl) (by intro hh;omega) rest;have ZD:Cb.told {p with h:=Hd.zero,begun:=false} ((3:Nat):Int) (t.size:Int) false=Cb.put {p with h:=Hd.zero,begun:=false} (p.c.length true (t.size:Int)):=by unfold Cb.told;simp
 rw[ZD] at CG;by_cases h0:t.size=0
 ·have rX:t.data.toList= []:=List.length_eq_zero_iff.1 (by omega);have hl:p.c.length true (t.size:Int)=Core.text {p.c with word:=true,aT:=0,c:=cm.zero}:=by unfold Core.length;rw[if_neg (by rw[h.s];simp;omega)];simp only[h0,h.chunks];simp
  rw[hl] at CG;refine⟨(Cb.put {p with h:=Hd.zero,begun:=false} (Core.text {p.c with word:=true,aT:=0,c:=cm.zero})).2,fun rest=> ?_,?_⟩
  ·rw[rX,List.append_nil,CG,ik (by exact h.e)];have:me true p.c.s=ah t:=by rw[h.s,←rX];exact Gp
   simp only[Cb.put,Core.text,Core.value,h.bu,this]
  ·refine⟨h.depth,?_,?_,h.e,rfl,rfl,rfl,rfl⟩
   ·simp only[Cb.put,Core.text,Core.value,h.bu]
   ·simp only[Cb.put,Core.text,Core.value,h.bu,h.done,Bool.false_or]
 ·have hl:p.c.length true (t.size:Int)=([],{p.c with word:=true,aT:=(t.size:Int),c:=cm.zero}):=by unfold Core.length;rw[if_neg (by rw[h.s];simp;omega)];simp only[];rw[if_pos (inl (by omega))]
  rw[hl] at CG;have fX:t.data.toList≠[]:=fun hh=>h0 (by rw[←hlen,hh];rfl);refine⟨(Cb.put {p with h:=Hd.zero,begun:=false} (Core.text {p.c with word:=true,s:=t.data.toList,aT:=0,c:=cm.zero.run t.data.toList})).2,fun rest=> ?_,?_⟩
  ·rw[List.append_assoc,CG];show Cb.cont ([],{p with h:=Hd.zero,begun:=false,c:={p.c with word:=true,aT:=(t.size:Int),c:=cm.zero}}) _=_;rw[ky (by exact h.e)];rw[CF t.data.toList rest hu t.data.toList [] {p with h:=Hd.zero,begun:=false,c:={p.c with word:=true,aT:=(t.size:Int),c:=cm.zero}} rfl fX h.e rfl h.chunks (by simp only[];rw[hlen]) h.s rfl];rw[ik (by exact h.e)];simp only[Cb.put,Core.text,Core.value,h.bu,Gp]
  ·refine⟨h.depth,?_,?_,h.e,rfl,rfl,rfl,rfl⟩
   ·simp only[Cb.put,Core.text,Core.value,h.bu]
   ·simp only[Cb.put,Core.text,Core.value,h.bu,h.done,Bool.false_or]
/-! ### containers, documents -/
theorem pQ {d:Int} {st:List af} {p:Cb} (h:Idle d st false p) (hk:n9 st=false) (hd:(st.length:Int)<d) (m:Bool) (n:Nat) (hn:0<n) (ju:n<16): ∃q,p.jv (aU (if m then 5 else 4) n) [aX m n] q∧Idle d (⟨m,n,0⟩::st) false q:=by
 refine⟨(Cb.put {p with h:=Hd.zero,begun:=false} ([aX m n],{p.c with open_:=⟨m,n,0⟩::st})).2,fun rest=> ?_,⟨h.depth,rfl,h.done,h.e,h.aT,h.s,h.chunks,rfl⟩⟩;rw[h.head (by split<;>omega) (by omega) (by rw[hk];intro hh;cases hh) (fun _=>hd)];have ht:Cb.told {p with h:=Hd.zero,begun:=false} ((if m=true then 5 else 4:Nat):Int) n false=Cb.put {p with h:=Hd.zero,begun:=false} ([aX m n],{p.c with open_:=⟨m,n,0⟩::st}):=by
  have h1: ¬ (1000000:Int)<n:=by omega
  have h2: ¬ (n:Int)=0:=by omega
  have h3: ¬n=0:=by omega
  unfold Cb.told Core.begin;cases m<;>simp[h1,h.bu,h3]
 rw[ht,ik (by exact h.e)];rfl
theorem s6 {d:Int} {st:List af} {p:Cb} (h:Idle d st false p) (hk:n9 st=false) (hd:(st.length:Int)<d) (m:Bool): ∃q,p.jv (aU (if m then 5 else 4) 0) (aX m (0:Nat)::aL::(aS st).1) q∧Idle d (aS st).2.1 (aS st).2.2 q:=by
 refine⟨(Cb.put {p with h:=Hd.zero,begun:=false} (p.c.value aL)).2,fun rest=> ?_,h.told (q:={p with h:=Hd.zero,begun:=false}) rfl rfl _⟩;rw[h.head (by split<;>omega) (by omega) (by rw[hk];intro hh;cases hh) (fun _=>hd)];have ht:Cb.told {p with h:=Hd.zero,begun:=false} ((if m=true then 5 else 4:Nat):Int) ((0:Nat):Int) false=Cb.put {p with h:=Hd.zero,begun:=false} (aX m 0::(p.c.value aL).1,(p.c.value aL).2):=by unfold Cb.told Core.begin;cases m<;>simp
 rw[ht,ik (by exact h.e)];simp only[Cb.put,Core.value,h.bu];rfl
theorem zL (n:Nat) {c:cm} (h:c.whole=true):(c.run (fZ n)).whole=true:=by obtain⟨la,lo,hi,bd⟩:=c;simp only[cm.whole,Bool.and_eq_true,Bool.not_eq_true',decide_eq_true_eq] at h;obtain⟨rfl,rfl⟩:=h;unfold fZ;split<;>rfl
theorem nr (x:Nat): ∀ (k:Nat) {c:cm},c.whole=true→(c.run (fy x k)).whole=true
 |0,_,h=>h
 |k+1,_,h=>by rw[fy,cm.kW];exact nr x k (zL _ h)
theorem vA {d:Int} {st:List af} {p:Cb} (h:Idle d st false p) (hk:n9 st=false) {x:Nat} (hx:x<65536): ∃q,p.jv (cq (cE x)) (cE x++(aS st).1) q∧Idle d (aS st).2.1 (aS st).2.2 q:=by
 unfold cE;by_cases h0:x % 8=0
 ·rw[if_pos h0];obtain⟨q,h1,h2⟩:=Gm h hk;exact⟨q,h1.conv (by simp[cq,dm,mF,ar]) rfl,h2⟩
 rw[if_neg h0];by_cases h1:x % 8=1
 ·rw[if_pos h1];obtain⟨q,h1,h2⟩:=Gn h hk (decide (x/8 % 2=1));exact⟨q,h1.conv (by simp[cq,dm,mF,aq]) rfl,h2⟩
 rw[if_neg h1];by_cases h2:x % 8=2∨x % 8=3
 ·rw[if_pos h2];have hm:(x*x)>>>(x % 8)<2147483648:=by have oV:x*x<65536*65536:=Nat.mul_lt_mul_of_lt_of_lt hx hx;rw[Nat.shiftRight_eq_div_pow];rcases h2 with h2|h2<;>rw[h2]<;>omega
  obtain⟨q,h1,h2⟩:=yF h hk (decide (x/8 % 2=1)) ((x*x)>>>(x % 8)) hm;exact⟨q,h1.conv (by simp only[cq,List.flatMap_cons,List.flatMap_nil,List.append_nil];rfl) rfl,h2⟩
 rw[if_neg h2];by_cases h3:x % 8=4
 ·rw[if_pos h3];obtain⟨q,h1,h2⟩:=pP h (cF x) (by have:=gL x;omega) (by exact nr x _ rfl);exact⟨q,h1.conv (by simp[cq,dm,mF,ah]) rfl,h2⟩
 rw[if_neg h3];by_cases h4:x % 8=5
 ·rw[if_pos h4];obtain⟨q,h1,h2⟩:=pP h aY (by decide) (by rfl);exact⟨q,h1.conv (by simp[cq,dm,mF,ah]) rfl,h2⟩
 rw[if_neg h4];obtain⟨q,h1,h2⟩:=yF h hk false x (by omega);exact⟨q,h1.conv (by simp only[cq,List.flatMap_cons,List.flatMap_nil,List.append_nil];rfl) rfl,h2⟩
theorem pR {c:af} {r:List af} (h:({c with parts:=c.parts+1}:af).met=false):aS (c::r)=([],{c with parts:=c.parts+1}::r,false):=by unfold aS;rw[if_neg (by simp[h])]
theorem s7 {c:af} {r:List af} (h:({c with parts:=c.parts+1}:af).met=true):aS (c::r)=(aL::(aS r).1,(aS r).2.1,(aS r).2.2):=by rw[aS,if_pos h]
def rY (d:Int) (k:Nat):Prop:=∀ (l:List Int) (st:List af) (p:Cb),Idle d st false p→(st.length:Int)+k≤d→n9 st=false→
 ∃q,p.jv (cq (aE k l).1) ((aE k l).1++(aS st).1) q∧Idle d (aS st).2.1 (aS st).2.2 q
theorem yG {d:Int} {k:Nat} (ih:rY d k) (st:List af) (hd:(st.length:Int)+(k+1)≤d) (n:Nat): ∀ (m j:Nat) (l:List Int) (p:Cb),j+(m+1)=n→Idle d (⟨false,n,j⟩::st) false p→∃q,p.jv (cq (rep (aE k) (m+1) l).1) ((rep (aE k) (m+1) l).1++aL::(aS st).1) q∧Idle d (aS st).2.1 (aS st).2.2 q
 |0,j,l,p,hj,h=>by obtain⟨q,h1,h2⟩:=ih l (⟨false,n,j⟩::st) p h (by simp only[List.length_cons];omega) rfl;rw[s7 (by simp[af.met];omega)] at h1 h2;exact⟨q,h1.conv (by simp[rep]) (by simp[rep]),h2⟩
 |m+1,j,l,p,hj,h=>by
  obtain⟨q,h1,h2⟩:=ih l (⟨false,n,j⟩::st) p h (by simp only[List.length_cons];omega) rfl;rw[pR (by simp[af.met];omega)] at h1 h2;obtain⟨r,h3,h4⟩:=yG ih st hd n m (j+1) (aE k l).2 q (by omega) (by simpa using h2);have er:(rep (aE k) (m+1+1) l).1=(aE k l).1++(rep (aE k) (m+1) (aE k l).2).1:=rfl;refine⟨r,(h1.trans h3).conv ?_ ?_,h4⟩
  ·rw[er,fV]
  ·rw[er];simp
theorem yH {d:Int} {k:Nat} (ih:rY d k) (st:List af) (hd:(st.length:Int)+(k+1)≤d) (n:Nat): ∀ (m j:Nat) (l:List Int) (p:Cb),j+(m+1)=n→Idle d (⟨true,n,2*j⟩::st) false p→∃q,p.jv (cq (rep (cx (aE k)) (m+1) l).1) ((rep (cx (aE k)) (m+1) l).1++aL::(aS st).1) q∧Idle d (aS st).2.1 (aS st).2.2 q
 |m,j,l,p,hj,h=>by
  obtain⟨q0,g1,g2⟩:=pP h (cF (nx l).1) (by have:=gL (nx l).1;omega) (by exact nr _ _ rfl);rw[pR (by simp[af.met]<;>omega)] at g1 g2;have g2':Idle d (⟨true,n,2*j+1⟩::st) false q0:=by simpa using g2
  obtain⟨q,h1,h2⟩:=ih (nx l).2 (⟨true,n,2*j+1⟩::st) q0 g2' (by simp only[List.length_cons];omega) (by simp[n9]<;>omega);have e1:cq (cx (aE k) l).1=(aU 3 (cF (nx l).1).size++(cF (nx l).1).data.toList)++cq (aE k (nx l).2).1:=by simp[cx,gA,dm,mF,ah]
  cases m with
  |zero=>
   rw[s7 (by simp[af.met]<;>omega)] at h1 h2;refine⟨q,(g1.trans h1).conv ?_ ?_,h2⟩
   ·rw[←e1];simp[rep]
   ·simp[rep,cx]
  |succ m=>
   rw[pR (by simp[af.met]<;>omega)] at h1 h2;obtain⟨r,h3,h4⟩:=yH ih st hd n m (j+1) (cx (aE k) l).2 q (by omega) (by
    have e:((2*(j+1:Nat):Nat):Int)=2*(j:Int)+1+1:=by omega
    have e':(2*((j+1:Nat):Int))=2*(j:Int)+1+1:=by omega
    rw[e'];simpa using h2)
   have er:(rep (cx (aE k)) (m+1+1) l).1=(cx (aE k) l).1++(rep (cx (aE k)) (m+1) (cx (aE k) l).2).1:=rfl;refine⟨r,((g1.trans h1).trans h3).conv ?_ ?_,h4⟩
   ·rw[←e1,er,fV]
   ·rw[er];simp[cx]
theorem vB (d:Int): ∀k,rY d k
 |0=>fun l st p h hd hk=>vA h hk (kP l)
 |k+1=>fun l st p h hd hk=>by
  have ih:=vB d k;unfold aE;by_cases h5:(nx l).1 % 8<5
  ·rw[if_pos h5];exact vA h hk (kP l)
  rw[if_neg h5];have U5:(st.length:Int)<d:=by omega
  have Zp:(st.length:Int)+(k+1)≤d:=by omega
  by_cases h6:(nx l).1 % 8=5
  ·rw[if_pos h6];obtain⟨n,hn⟩: ∃n,(nx l).1/8 % 4=n:=⟨_,rfl⟩
   have fW:n<4:=by omega
   rw[hn];have eb:dm (aN (n:Int))=aU (if false=true then 5 else 4) n:=by simp[dm,aN]
   have ee:dm aL= []:=by simp[dm,aL]
   cases n with
   |zero=>
    obtain⟨q,h1,h2⟩:=s6 h hk U5 false;refine⟨q,h1.conv ?_ ?_,h2⟩
    ·simp only[rep,List.cons_append,List.nil_append,gA,eb,ee];simp[cq]
    ·simp[rep,aX]
   |succ m=>
    obtain⟨q,h1,h2⟩:=pQ h hk U5 false (m+1) (by omega) (by omega);obtain⟨r,h3,h4⟩:=yG ih st Zp (m+1) m 0 (nx l).2 q (by omega) (by simpa using h2);refine⟨r,(h1.trans h3).conv ?_ ?_,h4⟩
    ·simp only[List.cons_append,gA,fV,eb,ee];simp[cq]
    ·simp[aX]
  ·rw[if_neg h6];obtain⟨n,hn⟩: ∃n,(nx l).1/8 % 3=n:=⟨_,rfl⟩
   have fW:n<3:=by omega
   rw[hn];have eb:dm (aO (n:Int))=aU (if true=true then 5 else 4) n:=by simp[dm,aO]
   have ee:dm aL= []:=by simp[dm,aL]
   cases n with
   |zero=>
    obtain⟨q,h1,h2⟩:=s6 h hk U5 true;refine⟨q,h1.conv ?_ ?_,h2⟩
    ·simp only[rep,List.cons_append,List.nil_append,gA,eb,ee];simp[cq]
    ·simp[rep,aX]
   |succ m=>
    obtain⟨q,h1,h2⟩:=pQ h hk U5 true (m+1) (by omega) (by omega);obtain⟨r,h3,h4⟩:=yH ih st Zp (m+1) m 0 (nx l).2 q (by omega) (by simpa using h2);refine⟨r,(h1.trans h3).conv ?_ ?_,h4⟩
    ·simp only[List.cons_append,gA,fV,eb,ee];simp[cq]
    ·simp[aX]
/-! ### cut -/
end Go.Tru
namespace Go.Proofs.YthffblhdjjbkaaaGreat
open Go.RowKit Go.Tru
open Go.K1 in
theorem tO {to:Int} (pe:to=2∨to=3) (e:Ev) (hk:0≤e.kind∧e.kind≤4) {bs:ByteArray} (CK:bs.size≤1000000) (HP: ∀W,Calls prog 25 #[.int .i64 to,e.val] W fun r w'=>r= .returned (.tuple #[.string bs,.int .i64 0])∧I [] W w') {w:World} {base b:Nat} {ov:Value} {cc cpt:Int} {s:List af} (h:eJ w base b to ov (⟨false,cc,cpt⟩::s) false) (hs:s.length≤100) (Ng:0≤cpt) (mo:cpt≤3000000) (hr:0≤cc∧cc≤1000000) (YF:cpt<cc) (ak:base≤w.heap.size):Calls prog 6 #[.pointer (some ⟨b,0,none⟩),e.val] w (iX w base b to ov bs (⟨false,cc,cpt+1⟩::s) false):=q4
open Go.K0 in
theorem oZ {to:Int} (pe:to=2∨to=3) (e:Ev) (hk:0≤e.kind∧e.kind≤4) {bs:ByteArray} (CK:bs.size≤1000000) (HP: ∀W,Calls prog 25 #[.int .i64 to,e.val] W fun r w'=>r= .returned (.tuple #[.string bs,.int .i64 0])∧I [] W w') {w:World} {base b:Nat} {ov:Value} {cc cpt:Int} {s:List af} (h:eJ w base b to ov (⟨true,cc,cpt⟩::s) false) (hs:s.length≤100) (Ng:0≤cpt) (mo:cpt≤3000000) (hr:0≤cc∧cc≤1000000) (YF:cpt<2*cc) (l7:cpt % 2=1) (ak:base≤w.heap.size):Calls prog 6 #[.pointer (some ⟨b,0,none⟩),e.val] w (iX w base b to ov bs (⟨true,cc,cpt+1⟩::s) false):=q4
open Go.K2 in
theorem oa {to:Int} (pe:to=2∨to=3) (e:Ev) (hk:0≤e.kind∧e.kind≤4) {bs:ByteArray} (CK:bs.size≤1000000) (HP: ∀W,Calls prog 25 #[.int .i64 to,e.val] W fun r w'=>r= .returned (.tuple #[.string bs,.int .i64 0])∧I [] W w') {w:World} {base b:Nat} {ov:Value} {cc cpt:Int} {s:List af} (h:eJ w base b to ov (⟨true,cc,cpt⟩::s) false) (hs:s.length≤100) (Ng:0≤cpt) (mo:cpt≤3000000) (hr:0≤cc∧cc≤1000000) (YF:cpt<2*cc) (l7:cpt % 2=0) (xh:e.kind=3) (ak:base≤w.heap.size):Calls prog 6 #[.pointer (some ⟨b,0,none⟩),e.val] w (iX w base b to ov bs (⟨true,cc,cpt+1⟩::s) false):=q4
theorem _root_.Go.Tru.eJ.put {w w2:World} {base b:Nat} {to:Int} {ov v2:Value} {Gr l:List af} {dn:Bool} (h:eJ w base b to ov Gr dn) (au:ai w2 base 61 v2 l) (k:I [] w w2) (hb: ∀m,v2.ownBlock=some m→w.heap.size≤m):eJ (w2.setCell ⟨b,1,none⟩ v2) base b to v2 l dn∧I [b] w (w2.setCell ⟨b,1,none⟩ v2)∧(∀i∈ae v2,w.heap.size≤i)∧w2.cell? ⟨b,1,none⟩=some ov∧w2.frozen? ⟨b,1,none⟩=false∧b<w2.heap.size:=by
 have bP:=h.az.lt;have mE:=h.az.keeps k (by simp);have bn:I [b] w2 (w2.setCell ⟨b,1,none⟩ v2):=(I.refl _ _).ax _;have Ft: ∀i∈ae v2,w.heap.size≤i:=fun i hi=>hb i (aa.1 hi);refine⟨⟨(mE.set 1 _).conv rfl,ab au bn (fun i hi KT=> ?_),fun KT=> ?_⟩,(k.mono (by simp)).trans bn,Ft,mE.cell 1,mE.free 1,mE.lt⟩
 ·rw[List.mem_singleton] at KT;have:=Ft i (aa.2 hi);omega
 ·have:=Ft b KT;omega
theorem _root_.Go.Tru.eJ.fin {w:World} {base b:Nat} {to:Int} {ov:Value} {Gr:List af} {dn:Bool} (h:eJ w base b to ov Gr dn) (d:Bool):eJ (w.setCell ⟨b,2,none⟩ (.bool d)) base b to ov Gr d:=⟨(h.az.set 2 (.bool d)).conv rfl,ab h.bu ((I.refl [b] _).ax _) (fun i hi hm=>h.bo (by rw[List.mem_singleton] at hm;exact hm▸aa.2 hi)),h.bo⟩
open Go.K1 in
theorem OZ {to:Int} (pe:to=2∨to=3) {w:World} {base b:Nat} {ov:Value} {cc:Int} {s:List af} (h:eJ w base b to ov (⟨false,cc,cc⟩::s) false) (hs:s.length≤100) (hr:0≤cc∧cc≤1000000) (ak:base≤w.heap.size):Calls prog 6 #[.pointer (some ⟨b,0,none⟩),aL.val] w (iX w base b to ov ⟨#[]⟩ s s.isEmpty):=q8
open Go.K0 in
theorem O0 {to:Int} (pe:to=2∨to=3) {w:World} {base b:Nat} {ov:Value} {cc:Int} {s:List af} (h:eJ w base b to ov (⟨true,cc,2*cc⟩::s) false) (hs:s.length≤100) (hr:0≤cc∧cc≤1000000) (ak:base≤w.heap.size):Calls prog 6 #[.pointer (some ⟨b,0,none⟩),aL.val] w (iX w base b to ov ⟨#[]⟩ s s.isEmpty):=q8
end Go.Proofs.YthffblhdjjbkaaaGreat
namespace Go.Tru
theorem D8 (word:Bool) (l:List UInt8):(me word l).part=if word then .iface 226 (.string (bytesOf l)) else .iface 230 (.string (bytesOf l)):=by cases word<;>rfl
end Go.Tru
namespace Go.Proofs.YthffblhdjjbkaaaGreat
open Go.RowKit Go.Tru
structure aG (N:Int) (w:World) (base b:Nat) (T:TypeId) (rest:List Value) (ov sv:Value) (k:Core):Prop where
 bG:a8 w base b T rest ov sv k
 fit:k.Fit N
 sR:N≤100000000
 gQ:base≤w.heap.size
theorem aG.opens {N:Int} {w:World} {base b:Nat} {T:TypeId} {rest:List Value} {ov sv:Value} {k:Core} (h:aG N w base b T rest ov sv k):k.open_.length≤100:=by have:=h.fit.opens;have:=h.fit.depth;omega
theorem aG.parts {N:Int} {w:World} {base b:Nat} {T:TypeId} {rest:List Value} {ov sv:Value} {k:Core} (h:aG N w base b T rest ov sv k): ∀c∈k.open_,0≤c.parts∧c.parts≤N:=fun c hc=>⟨(h.fit.parts c hc).1,(h.fit.parts c hc).2.1⟩
theorem aG.text {N:Int} {w:World} {base b:Nat} {T:TypeId} {rest:List Value} {ov sv:Value} {k:Core} (h:aG N w base b T rest ov sv k):k.s.length≤200:=by have:=h.fit.aT;omega
theorem aV.trans {w w1 w2:World} {base b:Nat} {T:TypeId} {rest:List Value} {ov sv Cz xm:Value} {t:List Ev×Core} {r:Ending} (kp:I (cz b ov sv) w w1) (hs: ∀i∈cz b Cz xm,i∈cz b ov sv∨w.heap.size≤i) (h:aV w1 base b T rest Cz xm t r w2):aV w base b T rest ov sv t r w2:=by obtain⟨v,h1,h2,h3⟩:=h;exact⟨v,h1,gM h2 kp.size,gY.trans kp hs h3 rfl⟩
theorem mA {N:Int} {w:World} {base b:Nat} {T:TypeId} {rest:List Value} {ov sv:Value} {k:Core} (h:aG N w base b T rest ov sv k) (p:Ev):Calls prog 183 #[.pointer (some ⟨b,0,none⟩),p.part] w (aV w base b T rest ov sv (k.value p)):=KQ N (by have:=h.sR;omega) k p w base b T rest ov sv h.bG h.opens h.parts
theorem qD {N:Int} {w:World} {base b:Nat} {T:TypeId} {rest:List Value} {ov sv:Value} {k:Core} (h:aG N w base b T rest ov sv k):Calls prog 177 #[.pointer (some ⟨b,0,none⟩)] w (aV w base b T rest ov sv k.text):=by
 have aH:=fun W (kp:I [b] w W)=>iW (ab h.bG.s kp (fun i hi hm=>h.bG.bs (by rw[List.mem_singleton] at hm;exact hm▸aa.2 hi))) underlying63 underlying9;have aex:=aH w (I.refl _ _);obtain⟨oo,oc,rfl⟩:=h.bG.bu.shape;obtain⟨so,sc,rfl⟩:=bz.shape h.bG.s;obtain⟨g0,g1,g2,g3,g4,g5,g6,g7⟩:=bU h.bG;obtain⟨f1,f2,f3,f4,f5,f6,f7,bP⟩:=fu h.bG;have bn:=a8.Zx h.bG (bz.nil w base) (I.refl _ _) (inr (inl rfl));have lB:=bn.1.put (i:=5) (u:= .bool false) (k':={k with s:=[],chunks:=false}) (by omega) rfl rfl rfl;have eN:=hid h;have It:=hid lB;have iJ:=hid bn;clear h aH bn lB;have Gp:k.text=Core.value {k with s:=[],chunks:=false} (me k.word k.s):=rfl;have YO:=hid Gp;clear Gp;have Tm:=D8 k.word k.s
 have Ea:aG N ((w.setCell ⟨b,7,none⟩ (.slice none 0 0)).setCell ⟨b,5,none⟩ (.bool false)) base b T rest (.slice oo k.open_.length oc) (.slice none 0 0) {k with s:=[],chunks:=false}:=⟨It.out,⟨eN.out.fit.depth,eN.out.fit.opens,eN.out.fit.parts,by have:=eN.out.fit.aT;simp only[List.length_nil];omega,eN.out.fit.FZ⟩,eN.out.sR,by simpa[World.setCell] using eN.out.gQ⟩
 have hv:=mA Ea (me k.word k.s);have HK:=hid (iJ.out.2.1.dO (i:=5) (aD _ _ _) (.bool false));clear Ea;rw[Tm] at hv;cases hw:k.word with
 |false=>
  rw[hw] at g4;simp only[hw,Bool.false_eq_true,if_false] at hv;clear Tm;go_enter func177,ntmps177;go_wp2_with fail
  refine(hv.mono ?_);rintro e w2 ⟨v,rfl,au,aM⟩;obtain⟨av,cv,rfl⟩:=au.shape;have cO:=hid au;have cj:=hid aM;clear au aM hv;go_wp2_with fail
  go_ret;rw[YO.out,hw];exact aV.trans HK.out iJ.out.2.2 ⟨_,rfl,cO.out,cj.out⟩
 |true=>
  rw[hw] at g4;simp only[hw,if_true] at hv;clear Tm;go_enter func177,ntmps177;go_wp2_with fail
  refine(hv.mono ?_);rintro e w2 ⟨v,rfl,au,aM⟩;obtain⟨av,cv,rfl⟩:=au.shape;have cO:=hid au;have cj:=hid aM;clear au aM hv;go_wp2_with fail
  go_ret;rw[YO.out,hw];exact aV.trans HK.out iJ.out.2.2 ⟨_,rfl,cO.out,cj.out⟩
end Go.Proofs.YthffblhdjjbkaaaGreat
namespace Go.Tru
theorem rq (bg:Bool) (count:Int):(aX bg count).part= .iface 215 (.agg #[.bool bg,.int .i64 count]):=by cases bg<;>rfl
end Go.Tru
namespace Go.Proofs.YthffblhdjjbkaaaGreat
open Go.RowKit Go.Tru
theorem Eb {ops:Array Oper} {rest:List Oper} {o:Oper} {a:Act} {w:World} {Q:Exit→Act→World→Prop} (sU:o.guard=none) (s x:Operand) (ho:o.op= .call {callee:= .builtin .append,args:= #[s,x],argTypes:= #[146,146]}) (base aad:Nat) (v vx:Value) (es ds:List Ev) (hs:a.eval s=v) (au:aP w base v es) (hx:a.eval x=vx) (ZT:aP w aad vx ds) (hlen:es.length+ds.length≤1000000000) (ak:base≤w.heap.size) (h: ∀v' w',aP w' base v' (es++ds)→I (ae v) w w'→(v'= .slice none 0 0↔v= .slice none 0 0∧ds.length=0)→(v'.ownBlock=v.ownBlock∨v'.ownBlock=some w.heap.size)→wpList prog ops Q rest (a.put o.dst v') w'):wpList prog ops Q (o::rest) a w:=by
 rcases ZT.2 with⟨rfl,h0⟩|⟨g,cap,cur,rfl,hb,hg,hr⟩
 ·obtain⟨i0,hi,ko,gv,gW⟩:=info_parts Cr;obtain rfl:ds= []:=List.length_eq_zero_iff.1 h0;refine wpList_append_own_none sU s x 146 ho base 20 i0 1 underlying146 hi v es.length (es.map Ev.part) hs au hx ?_;exact h v w (by rw[List.append_nil];exact au) (I.refl _ _) (by simp) (inl rfl)
 ·refine nj sU s x ho base v es hs au ⟨g,0,none⟩ ds.length cap ds hx rfl (World.ownsRow.cells ZT (g:=g) rfl) hlen ak h
theorem P8:(Tryz.prog.info? 270).map (fun i=>(i.zero,i.size,i.bytes))=some (some (.agg #[.bool false,.int .i64 0,.int .i64 0]),3,24):=by kernel_rfl
theorem TR {ops:Array Oper} {rest:List Oper} {o:Oper} {a:Act} {w:World} {Q:Exit→Act→World→Prop} (sU:o.guard=none) (s x:Operand) (ho:o.op= .call {callee:= .builtin .append,args:= #[s,x],argTypes:= #[195,195]}) (base:Nat) (v:Value) (l:List af) (hs:a.eval s=v) (au:ai w base 270 v l) (ad:Addr) (c:af) (hx:a.eval x= .slice (some ad) 1 1) (fO: ∀ (j:Nat) (u:Value),c.cells[j]? =some u→w.cell? (ad.add j)=some u) (hlen:l.length≤1000000) (ak:base≤w.heap.size) (h: ∀v' w',ai w' base 270 v' (c::l)→I (ae v) w w'→(v'.ownBlock=v.ownBlock∨v'.ownBlock=some w.heap.size)→wpList prog ops Q rest (a.put o.dst v') w'):wpList prog ops Q (o::rest) a w:=by obtain⟨i0,hi,ko,gv,gW⟩:=info_parts P8;refine wpList_append_own_at w sU s x 195 ho base 270 i0 (.agg #[.bool false,.int .i64 0,.int .i64 0]) 3 24 underlying195 hi ko gv gW rfl (by decide) v l.length (bJ l) hs au ad 1 1 c.cells hx rfl fO (ve c) (by unfold maxLen;omega) (by omega) ak ?_;intro v' w' h2 h3 _ h5;exact h v' w' (ai.push h2 rfl) (cD h3) h5
theorem oJ {N:Int} {w:World} {base b:Nat} {T:TypeId} {rest:List Value} {ov sv:Value} {k:Core} (h:aG N w base b T rest ov sv k) (bg:Bool) (count:Int):Calls prog 185 #[.pointer (some ⟨b,0,none⟩),.bool bg,.int .i64 count] w (aV w base b T rest ov sv (k.begin bg count)):=by
 have hb:=h.gQ;have eN:=hid h;have jW:=h.opens;unfold Core.begin;by_cases hc:count=0
 ·rw[if_pos hc];subst hc;clear h;go_enter func185,ntmps185;go_wp2_with fail
  have k1:I [] w (w.alloc (.cells #[.bool bg,.int .i64 0] 215)):=(I.refl _ _).alloc _;have aJ:Has (w.alloc (.cells #[.bool bg,.int .i64 0] 215)) w.heap.size [.bool bg,.int .i64 0] 215:=Has.aC _ _ _ rfl;obtain⟨w1,eK⟩: ∃w1,w.alloc (.cells #[.bool bg,.int .i64 0] 215)=w1:=⟨_,rfl⟩
  rw[eK] at k1 aJ⊢;clear eK;have gv:w.heap.size<w1.heap.size:=aJ.lt;have AD:aG N w1 base b T rest ov sv k:=⟨eN.out.bG.aI k1,eN.out.fit,eN.out.sR,by omega⟩
  have hv:=mA AD aL;rw[iQ] at hv;have dD:=oL eN.out.bG;have hvl:(aS k.open_).1.length≤100:=by
   have lu: ∀l:List af,(aS l).1.length≤l.length:=by
    intro l;induction l with
    |nil=>simp[aS]
    |cons c r ih=>unfold aS;split<;>simp;omega
   have:=lu k.open_;omega
  have di:(k.value aL).1.length≤101:=by simp only[Core.value,List.length_cons];omega
  have K1:=hid k1;clear AD hvl;refine hv.mono ?_;clear hv;rintro e w2 ⟨v,rfl,au,aM⟩;obtain⟨av,cv,rfl⟩:=au.shape;obtain⟨nL,xl,Xv,UK,rN⟩:=aM;have q0:=(aJ.keeps UK (fun hm=>by have:=dD _ hm;omega)).cell 0;have q1:=(aJ.keeps UK (fun hm=>by have:=dD _ hm;omega)).cell 1;have Xw:=oL Xv;have z2:=UK.size;have cO:=hid au;have HCO:=hid Xv;have ZI:=hid UK;have HBL:=hid rN;clear au Xv UK rN aJ k1;simp only[List.getElem?_cons_zero,List.getElem?_cons_succ] at q0 q1;go_wp2_with (at_builtin;go_must (refine Eb rfl _ _ rfl w2.heap.size w1.heap.size _ _ [aX bg 0] (k.value aL).1 rfl (n8 (rq bg 0) rfl (Nat.le_refl _)) rfl (ab cO.out ((I.refl [] _).alloc _) (by simp)) (by simp;omega) (by simp) ?_))
  intro v3 w3 P9 xh _ Nh;obtain⟨a3,c3,rfl⟩:=P9.shape;have JD:I [] w2 w3:=((I.refl [] w2).alloc _).trans' xh (fun i hi=>by rw[aa] at hi;simp only[Value.ownBlock,Option.some.injEq] at hi;exact inr (by omega));have Jk:=hid P9;have K23:=hid JD;clear P9 xh Nh JD;go_wp2_with fail
  go_ret;refine⟨_,rfl,gM Jk.out (by omega),nL,xl,HCO.out.aI K23.out,(K1.out.mono (by simp)).trans (ZI.out.trans (K23.out.mono (by simp))),fun i hi=> ?_⟩;rcases HBL.out i hi with h1|h1
  ·exact inl h1
  ·exact inr (by omega)
 ·rw[if_neg hc];have Nx:(count==0)=false:=by simpa using hc
  obtain⟨oo,oc,rfl⟩:=h.bG.bu.shape;obtain⟨g0,g1,g2,g3,g4,g5,g6,g7⟩:=bU h.bG;obtain⟨f1,f2,f3,f4,f5,f6,f7,bP⟩:=fu h.bG;have rN:b<w.heap.size+1:=by omega
  have Kh:b<w.heap.size+1+1:=by omega
  clear h hc;go_enter func185,ntmps185;go_wp2_with (at_builtin;go_must (refine TR rfl _ _ rfl base _ k.open_ rfl (ab eN.out.bG.bu (((I.refl [] _).alloc _).alloc _) (by simp)) ⟨_,0,none⟩ ⟨bg,count,0⟩ rfl (aA (af.cells ⟨bg,count,0⟩) (by simp)) (by omega) (by simp;omega) ?_))
  intro v2 w2 cI iA fT;obtain⟨a2,c2,rfl⟩:=ai.shape cI;have aJ:Has ((w.alloc (.cells #[.bool bg,.int .i64 count] 215)).alloc (.cells #[.bool bg,.int .i64 count,.int .i64 0] 270)) w.heap.size [.bool bg,.int .i64 count] 215:=(Has.aC w _ _ rfl).alloc _;have dD:=oL eN.out.bG;have JN:=aJ.keeps iA (fun hm=>by have:=dD _ (iC hm);omega);have jq:=((((I.refl (ae (.slice oo k.open_.length oc)) w).alloc (.cells #[.bool bg,.int .i64 count] 215)).alloc (.cells #[.bool bg,.int .i64 count,.int .i64 0] 270))).trans iA;have bn:=a8.vy eN.out.bG cI jq (fT.imp id (fun h=>⟨_,h,by omega⟩));have jF:=eN.out.bG.az.keeps jq eN.out.bG.bo;have f1':=jF.free 1;have pK:=jF.lt;have z2:=JN.lt;have q0:=(JN.other (p:=⟨b,1,none⟩) (by show w.heap.size≠b;omega) (.slice a2 (af.mk bg count 0::k.open_).length c2)).cell 0;have q1:=(JN.other (p:=⟨b,1,none⟩) (by show w.heap.size≠b;omega) (.slice a2 (af.mk bg count 0::k.open_).length c2)).cell 1;have g1':=jF.cell 1;have iJ:=hid bn;clear bn cI iA fT aJ JN jq jF g0 g1 g2 g3 g4 g5 g6 g7 f1 f2 f3 f4 f5 f6 f7
  simp only[List.getElem?_cons_zero,List.getElem?_cons_succ,kG,List.cons_append,List.length_cons] at q0 q1 g1';simp only[List.length_cons];go_wp2_with fail
  go_ret;exact⟨_,rfl,n8 (rq bg count) (by simp[World.setCell]) (by omega),_,_,iJ.out.1.aI ((I.refl [] _).alloc _),iJ.out.2.1.alloc _,iJ.out.2.2⟩
theorem uP {N:Int} {w:World} {base b:Nat} {T:TypeId} {rest:List Value} {ov sv:Value} {k:Core} (h:aG N w base b T rest ov sv k) (word:Bool) (n:Int) (hn:0≤n) (ju:n≤18446744073709551615):Calls prog 184 #[.pointer (some ⟨b,0,none⟩),.bool word,.int .u64 n] w (aV w base b T rest ov sv (k.length word n)):=by
 have hs:=h.text;obtain⟨oo,oc,rfl⟩:=h.bG.bu.shape;obtain⟨so,sc,rfl⟩:=bz.shape h.bG.s;obtain⟨g0,g1,g2,g3,g4,g5,g6,g7⟩:=bU h.bG;obtain⟨f1,f2,f3,f4,f5,f6,f7,bP⟩:=fu h.bG;have g8:w.cell? ⟨b,8,none⟩=some (.int .i64 k.c.aT):=h.bG.az.cell 8;have g9:w.cell? ⟨b,9,none⟩=some (.int .u8 k.c.low):=h.bG.az.cell 9;have g10:w.cell? ⟨b,10,none⟩=some (.int .u8 k.c.high):=h.bG.az.cell 10;have g11:w.cell? ⟨b,11,none⟩=some (.bool k.c.bad):=h.bG.az.cell 11;have e8:=h.bG.az.free 8;have e9:=h.bG.az.free 9;have e10:=h.bG.az.free 10;have e11:=h.bG.az.free 11;have eN:=hid h;clear h;by_cases hl:(200- (k.s.length:Int))<n
 ·rw[show k.length word n=k.fail 5 by unfold Core.length;rw[if_pos hl]];go_enter func184,ntmps184;go_wp2_with fail
  refine(gx 5 k w base b T rest _ _ eN.out.bG).mono ?_;rintro e w2 ⟨v,rfl,au,aM⟩;obtain⟨av,cv,rfl⟩:=au.shape;have cO:=hid au;have cj:=hid aM;clear au aM;go_wp2_with fail
  go_ret;exact⟨_,rfl,cO.out,cj.out⟩
 ·have ahN:n≤200:=by omega
  obtain⟨k',xj⟩: ∃k':Core,k'={k with word:=word,aT:=n,c:=cm.zero}:=⟨_,rfl⟩
  rw[show k.length word n=if 0<n∨k.chunks=true then([],k') else k'.text by subst xj;unfold Core.length;rw[if_neg hl]];have kq:a8 ((((((w.setCell ⟨b,4,none⟩ (.bool word)).setCell ⟨b,6,none⟩ (.int .i64 n)).setCell ⟨b,8,none⟩ (.int .i64 0)).setCell ⟨b,9,none⟩ (.int .u8 0)).setCell ⟨b,10,none⟩ (.int .u8 0)).setCell ⟨b,11,none⟩ (.bool false)) base b T rest (.slice oo k.open_.length oc) (.slice so k.s.length sc) k':=by subst xj;exact(((((eN.out.bG.put (i:=4) (u:= .bool word) (k':={k with word:=word}) (by omega) rfl rfl rfl).put (i:=6) (u:= .int .i64 n) (k':={k with word:=word,aT:=n}) (by omega) rfl rfl rfl).put (i:=8) (u:= .int .i64 0) (k':={k with word:=word,aT:=n,c:={k.c with aT:=0}}) (by omega) rfl rfl rfl).put (i:=9) (u:= .int .u8 0) (k':={k with word:=word,aT:=n,c:={k.c with aT:=0,low:=0}}) (by omega) rfl rfl rfl).put (i:=10) (u:= .int .u8 0) (k':={k with word:=word,aT:=n,c:={k.c with aT:=0,low:=0,high:=0}}) (by omega) rfl rfl rfl).put (i:=11) (u:= .bool false) (k':={k with word:=word,aT:=n,c:=cm.zero}) (by omega) rfl rfl rfl
  have hkp:I (cz b (.slice oo k.open_.length oc) (.slice so k.s.length sc)) w ((((((w.setCell ⟨b,4,none⟩ (.bool word)).setCell ⟨b,6,none⟩ (.int .i64 n)).setCell ⟨b,8,none⟩ (.int .i64 0)).setCell ⟨b,9,none⟩ (.int .u8 0)).setCell ⟨b,10,none⟩ (.int .u8 0)).setCell ⟨b,11,none⟩ (.bool false)):=((((((I.refl _ _).dO (aD _ _ _) _).dO (aD _ _ _) _).dO (aD _ _ _) _).dO (aD _ _ _) _).dO (aD _ _ _) _).dO (aD _ _ _) _;have tM:k'.Fit N:=by subst xj;exact⟨eN.out.fit.depth,eN.out.fit.opens,eN.out.fit.parts,by simp only[];omega,cm.n7⟩
  have Ss:=hid kq;have RG:=hid hkp;have rQ:=hid tM;clear kq hkp tM;have HK':=hid xj;clear xj;by_cases h0:0<n
  ·rw[if_pos (inl h0)];go_enter func184,ntmps184;go_wp2_with fail
   go_ret;exact⟨_,rfl,aP.nil _ _,gY.same Ss.out RG.out⟩
  ·cases hc:k.chunks with
   |true=>
    rw[hc] at g5;rw[if_pos (inr rfl)];go_enter func184,ntmps184;go_wp2_with fail
    go_ret;exact⟨_,rfl,aP.nil _ _,gY.same Ss.out RG.out⟩
   |false=>
    rw[hc] at g5;rw[if_neg (by simp;omega)];have xO:(.slice oo k.open_.length oc:Value)= .slice oo k'.open_.length oc:=by rw[HK'.out]
    have Ea:aG N _ base b T rest _ _ k':=⟨Ss.out,rQ.out,eN.out.sR,Nat.le_trans eN.out.gQ RG.out.size⟩
    have hv:=qD Ea;clear Ea xO;go_enter func184,ntmps184;go_wp2_with fail
    refine hv.mono ?_;rintro e w2 ⟨v,rfl,au,aM⟩;obtain⟨av,cv,rfl⟩:=au.shape;have cO:=hid au;have cj:=hid aM;clear au aM hv;go_wp2_with fail
    go_ret;exact aV.trans RG.out (fun i hi=>inl hi) ⟨_,rfl,cO.out,cj.out⟩
end Go.Proofs.YthffblhdjjbkaaaGreat
