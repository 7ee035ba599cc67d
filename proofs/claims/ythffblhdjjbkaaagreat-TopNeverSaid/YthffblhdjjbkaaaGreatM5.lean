/- truchmanbook.Doc in memory; A part that is made; utf.Check; truchmanref1.May; Kinds of parts that are free of anything else (where event.Check is not there).; The stage as plain data.; A strings.Build -/
import Derived.Test.YthffblhdjjbkaaaGreatM4
set_option maxHeartbeats 100000000
set_option maxRecDepth 1000000
open Go.Lib (hid)
open Go.Proofs.Tryz
open Or (inl inr)
namespace Go.Tru
structure Wk (w0:World) (bL bD bO bA bN bI:Nat):Prop where
 h0:w0.heap.size≤bL
 h1:bL<bD
 h2:bD<bO
 h3:bO<bA
 h4:bA<bN
 h5:bN<bI
structure fP (w0 w:World) (bL bD bO bA bN bI:Nat) (o:Option Addr) (n c:Nat) (xs:List Int) (dep:Int) (at_:Nat) (es:List Ev) (v:Value):Prop where
 lay:Wk w0 bL bD bO bA bN bI
 l:Has w bL [.slice o n c] 22
 d:Has w bD [.int .i64 dep] 3
 out:Has w bO [v] 30
 own:fM w (bI+1) v es
 a:Has w bA [.int .i64 at_] 3
 nx:Has w bN [.func (.func 19) #[] #[.pointer (some ⟨bA,0,none⟩),.pointer (some ⟨bL,0,none⟩)]] 55
 it:Has w bI [.func (.func 20) #[] #[.pointer (some ⟨bN,0,none⟩),.pointer (some ⟨bO,0,none⟩),.pointer (some ⟨bD,0,none⟩),.pointer (some ⟨bI,0,none⟩)]] 56
 ints:ni w0 o n c xs
 keep:I [] w0 w
theorem fP.az {w0 w:World} {bL bD bO bA bN bI:Nat} {o:Option Addr} {n c:Nat} {xs:List Int} {dep:Int} {at_:Nat} {es:List Ev} {v:Value} (h:fP w0 w bL bD bO bA bN bI o n c xs dep at_ es v): ∀i∈ae v,bI<i:=by intro i hi;have:=(World.ownsRow.lt h.own i (aa.1 hi)).1;omega
theorem fP.aI {w0 w w':World} {bL bD bO bA bN bI:Nat} {o:Option Addr} {n c:Nat} {xs:List Int} {dep:Int} {at_:Nat} {es:List Ev} {v:Value} (h:fP w0 w bL bD bO bA bN bI o n c xs dep at_ es v) (k:I [] w w'):fP w0 w' bL bD bO bA bN bI o n c xs dep at_ es v:=⟨h.lay,h.l.keeps k (by simp),h.d.keeps k (by simp),h.out.keeps k (by simp),ab h.own k (by simp),h.a.keeps k (by simp),h.nx.keeps k (by simp),h.it.keeps k (by simp),h.ints,h.keep.trans k⟩
theorem fP.setAt {w0 w:World} {bL bD bO bA bN bI:Nat} {o:Option Addr} {n c:Nat} {xs:List Int} {dep:Int} {at_:Nat} {es:List Ev} {v:Value} (h:fP w0 w bL bD bO bA bN bI o n c xs dep at_ es v) (m:Nat) {x:Int} (hx:x=m):fP w0 (w.setCell ⟨bA,0,none⟩ (.int .i64 x)) bL bD bO bA bN bI o n c xs dep m es v:=by subst hx;obtain⟨h0,h1,h2,h3,h4,h5⟩:=h.lay;have bn:I [bA] w (w.setCell ⟨bA,0,none⟩ (.int .i64 (m:Int))):=(I.refl _ _).ax _;exact⟨h.lay,h.l.keeps bn (by simp;omega),h.d.keeps bn (by simp;omega),h.out.keeps bn (by simp;omega),ab h.own bn (fun i hi hm=>by rw[List.mem_singleton] at hm;have:=h.az i (aa.2 hi);omega),h.a.set 0 _,h.nx.keeps bn (by simp;omega),h.it.keeps bn (by simp;omega),h.ints,h.keep.trans' bn (by intro i hi;rw[List.mem_singleton] at hi;right;omega)⟩
theorem fP.push {w0 w w2:World} {bL bD bO bA bN bI:Nat} {o:Option Addr} {n c:Nat} {xs:List Int} {dep:Int} {at_:Nat} {es es2:List Ev} {v v2:Value} (h:fP w0 w bL bD bO bA bN bI o n c xs dep at_ es v) (au:fM w2 (bI+1) v2 es2) (k:I (ae v) w w2):fP w0 (w2.setCell ⟨bO,0,none⟩ v2) bL bD bO bA bN bI o n c xs dep at_ es2 v2:=by
 obtain⟨h0,h1,h2,h3,h4,h5⟩:=h.lay;have hb:=h.az;have bn:I [bO] w2 (w2.setCell ⟨bO,0,none⟩ v2):=(I.refl _ _).ax _;have hk: ∀b,b≤bI→b∉ae v:=fun b fT hm=>by have:=hb b hm;omega
 exact⟨h.lay,(h.l.keeps k (hk _ (by omega))).keeps bn (by simp;omega),(h.d.keeps k (hk _ (by omega))).keeps bn (by simp;omega),(h.out.keeps k (hk _ (by omega))).set 0 _,ab au bn (fun i hi hm=>by rw[List.mem_singleton] at hm;have:=(World.ownsRow.lt au i hi).1;omega),(h.a.keeps k (hk _ (by omega))).keeps bn (by simp;omega),(h.nx.keeps k (hk _ (by omega))).keeps bn (by simp;omega),(h.it.keeps k (hk _ (by omega))).keeps bn (by simp;omega),h.ints,(h.keep.trans' k (fun i hi=>inr (by have:=hb i hi;omega))).trans' bn (by intro i hi;rw[List.mem_singleton] at hi;right;omega)⟩
end Go.Tru
namespace Go.Proofs.YthffblhdjjbkaaaGreat
open Go.RowKit Go.Tru
theorem jU {w0 w:World} {bL bD bO bA bN bI:Nat} {o:Option Addr} {n c:Nat} {xs:List Int} {dep:Int} {at_:Nat} {es:List Ev} {v:Value} (h:fP w0 w bL bD bO bA bN bI o n c xs dep at_ es v) (nM:at_≤1000000):Calls prog 19 #[.pointer (some ⟨bA,0,none⟩),.pointer (some ⟨bL,0,none⟩)] w fun e w'=>e= .returned (.int .i64 (Go.Tru.nx (xs.drop at_)).1)∧fP w0 w' bL bD bO bA bN bI o n c xs dep (at_+1) es v∧(Go.Tru.nx (xs.drop at_)).2=xs.drop (at_+1):=by
 have H:=hid h;have hl:=h.ints.len;have hr:=h.ints.room;have hm:=h.ints.nV;unfold maxLen at hm;have g0:w.cell? ⟨bA,0,none⟩=some (.int .i64 at_):=h.a.cell 0;have f0:=h.a.free 0;have g1:w.cell? ⟨bL,0,none⟩=some (.slice o n c):=h.l.cell 0;have adB:bA≠bL:=by have:=h.lay.h1;have:=h.lay.h2;have:=h.lay.h3;omega
 have FH:bL≠bA:=fun e=>adB e.symm;have eB:at_<n∨n≤at_:=by omega
 have HS:=hid (h.setAt (at_+1) (x:=(at_:Int)+1) (by simp));have L:=hid hl;rcases eB with dD|Ft
 ·have hx:at_<xs.length:=by omega
  obtain⟨b1,f1,rfl,g2⟩:=(h.ints.keeps h.keep).get dD hx;have yo:xs.drop at_=xs[at_]::xs.drop (at_+1):=List.drop_eq_getElem_cons hx;have BE:b1≠bA:=by
   intro e;rcases h.ints.at_ with h0|⟨b,off,e1,e2,_⟩
   ·omega
   ·simp only[Option.some.injEq,Addr.mk.injEq,and_true] at e1;have:=h.lay.h0;have:=h.lay.h1;have:=h.lay.h2;have:=h.lay.h3;omega
  have fT:bA≠b1:=fun e=>BE e.symm;have hand:bits .and .i64 xs[at_] 65535=((nx (xs.drop at_)).1:Int):=by rw[zE,yo];simp only[nx];omega
  have h2:(nx (xs.drop at_)).2=xs.drop (at_+1):=by rw[yo];rfl
  have H2:=hid h2;generalize (nx (xs.drop at_)).1=y at hand⊢;clear h hl yo h2;go_enter func19,ntmps19;go_wp2_with fail
  go_ret;exact⟨rfl,HS.out,H2.out⟩
 ·have h1:nx (xs.drop at_)=(0,[]):=by rw[List.drop_of_length_le (by omega)];rfl
  have h2:xs.drop (at_+1)= []:=List.drop_of_length_le (by omega);rw[h1,h2];clear h hl h1 h2;go_enter func19,ntmps19;go_wp2_with fail
  go_ret;exact⟨rfl,HS.out,by first|trivial|rfl⟩
theorem iO (e:Ev) {w:World} {t:TypeId} {g:Nat} (hg:g=w.heap.size): ∀ (j:Nat) (u:Value),([e].flatMap Ev.cells)[j]? =some u→(w.alloc (.cells #[.int .i64 e.kind,.bool e.yes,.int .u64 e.jM,.string e.text,.int .i64 e.count] t)).cell? ((⟨g,0,none⟩:Addr).add j)=some u:=aA ([e].flatMap Ev.cells) hg
def uu (w:World) (b:Nat) (pre post:List Value) (t:TypeId) (c':cm) (w':World):Prop:=
 Has w' b (pre++c'.cells++post) t∧I [b] w w'
theorem nk {w:World} {b:Nat} {pre post:List Value} {t:TypeId} {c':cm} {w':World} (h:Has w' b (pre++c'.cells++post) t) (k:I [b] w w'):uu w b pre post t c' w':=⟨h,k⟩
theorem Cw (b:Nat) (pre post:List Value) (t:TypeId) (c:cm) (x:Int) (w:World) (h:Has w b (pre++c.cells++post) t) (off:Nat) (bK:off=pre.length) (hx:0≤x) (akb:x≤255):Calls prog 166 #[.pointer (some ⟨b,off,none⟩),.int .u8 x] w fun e w'=>e= .returned (.bool (Gc x))∧uu w b pre post t (c.begin x) w':=by
 have H:=hid h;have g0:=bR h bK 0 (by simp[cm.cells]);have g1:=bR h bK 1 (by simp[cm.cells]);have g2:=bR h bK 2 (by simp[cm.cells]);have f0:=h.free off;have f1:=h.free (off+1);have f2:=h.free (off+2);have HO:=hid bK;simp only[cm.cells,Nat.add_zero,List.getElem?_cons_zero,List.getElem?_cons_succ] at g0 g1 g2;clear h bK;go_enter func166,ntmps166;go_wp2;all_goals go_ret
 all_goals
  go_tidy;simp only[beq_iff_eq,beq_eq_false_iff_ne,ne_eq] at*;refine⟨dA ?_,nk ?_ ?_⟩
  ·simp only[Gc];simp;try omega
  ·apply Has.conv
   ·repeat with_reducible (first|exact H.out|apply cd (ho:=HO.out)|apply kU (ho:=HO.out))
    all_goals simp[cm.cells]
   ·simp[cm.cells,cm.begin,vj,Jj,Cv];repeat' (first|omega|split|apply And.intro|intro _)
  ·repeat with_reducible (first|exact I.refl _ _|refine I.ax ?_ _)
theorem N8 {w:World} {b:Nat} {cs:List Value} {t:TypeId} (h:Has w b cs t) (off:Nat):w.frozen? ⟨b,off,none⟩=false∧w.frozen? ⟨b,off+1,none⟩=false∧w.frozen? ⟨b,off+2,none⟩=false∧w.frozen? ⟨b,off+3,none⟩=false:=⟨h.free _,h.free _,h.free _,h.free _⟩
theorem Cx {w:World} {b:Nat} {pre post:List Value} {t:TypeId} {c:cm} {off:Nat} (h:Has w b (pre++c.cells++post) t) (ho:off=pre.length):w.cell? ⟨b,off,none⟩=some (.int .i64 c.aT)∧w.cell? ⟨b,off+1,none⟩=some (.int .u8 c.low)∧w.cell? ⟨b,off+2,none⟩=some (.int .u8 c.high)∧w.cell? ⟨b,off+3,none⟩=some (.bool c.bad):=⟨bR h ho 0 (by simp[cm.cells]),bR h ho 1 (by simp[cm.cells]),bR h ho 2 (by simp[cm.cells]),bR h ho 3 (by simp[cm.cells])⟩
theorem vw (b:Nat) (pre post:List Value) (t:TypeId) (c:cm) (x:Int) (w:World) (h:Has w b (pre++c.cells++post) t) (off:Nat) (bK:off=pre.length) (hx:0≤x) (dE:x≤255) (hf:c.Fit):Calls prog 161 #[.pointer (some ⟨b,off,none⟩),.int .u8 x] w fun e w'=>e= .returned (.bool (!(c.step x).bad))∧uu w b pre post t (c.step x) w':=by
 have H:=hid h;obtain⟨g0,g1,g2,g3⟩:=Cx h bK;obtain⟨f0,f1,f2,f3⟩:=N8 h off;have HO:=hid bK;obtain⟨KO,U1⟩:=hf;clear h bK;by_cases hb:c.bad=true
 ·rw[hb] at g3;go_enter func161,ntmps161;go_wp2;go_ret;refine⟨dA (by simp[cm.step,hb]),nk (H.out.conv (by simp[cm.step,hb])) (I.refl _ _)⟩
 simp only[Bool.not_eq_true] at hb;by_cases hl:c.aT=0
 ·have Wi:(c.aT==0)=true:=by simp[hl]
  rw[hb] at g3;have HL:=hid hl;have HB:=hid hb;clear hl hb;go_enter func161,ntmps161;go_wp2_with fail
  refine(Cw b pre post t c x w H.out off HO.out hx dE).mono ?_;rintro e w1 ⟨rfl,h1,k1⟩;have H1:=hid h1;have K1:=hid k1;have f4:=h1.free (off+3);have g4:=bR h1 HO.out 3 (by simp[cm.cells]);simp only[cm.cells,List.getElem?_cons_zero,List.getElem?_cons_succ] at g4;clear h1 k1;go_wp2_with fail
  go_ret;refine⟨dA ?_,nk ?_ ?_⟩
  ·simp[cm.step,HL.out,HB.out,cm.begin]
  ·refine(cd H1.out HO.out 3 _ (by simp[cm.cells])).conv ?_
   simp[cm.step,HL.out,HB.out,cm.begin,cm.cells]
  ·exact K1.out.ax _
 ·have Wi:(c.aT==0)=false:=by simp[hl]
  rw[hb] at g3;have HL:=hid hl;have HB:=hid hb;clear hb;go_enter func161,ntmps161;go_wp2;all_goals go_ret
  all_goals
   go_tidy;refine⟨dA ?_,nk ?_ ?_⟩
   ·simp only[cm.step,HL.out,HB.out,if_false,Bool.false_eq_true];repeat' (first|rfl|omega|split)
   ·apply Has.conv
    ·repeat with_reducible (first|exact H.out|apply cd (ho:=HO.out)|apply kU (ho:=HO.out))
     all_goals simp[cm.cells]
    ·simp[cm.step,cm.cells,HL.out,HB.out];repeat' (first|rfl|omega|split|apply And.intro|intro _)
   ·repeat with_reducible (first|exact I.refl _ _|refine I.ax ?_ _)
theorem sY (b:Nat) (pre post:List Value) (t:TypeId) (c:cm) (w:World) (h:Has w b (pre++c.cells++post) t) (off:Nat) (bK:off=pre.length):Calls prog 153 #[.pointer (some ⟨b,off,none⟩)] w fun e w'=>e= .returned (.bool c.whole)∧w=w':=by
 obtain⟨g0,g1,g2,g3⟩:=Cx h bK;clear h bK;cases hb:c.bad<;>rw[hb] at g3
 ·go_enter func153,ntmps153;go_wp2;go_ret;exact⟨dA (by rw[Bool.eq_iff_iff];simp[cm.whole,hb]),rfl⟩
 ·go_enter func153,ntmps153;go_wp2;go_ret;exact⟨dA (by simp[cm.whole,hb]),rfl⟩
theorem kr (e:Ev) (h:(0≤e.kind∧e.kind≤7∧e.kind≠5∧e.kind≠6)∨((e.kind=5∨e.kind=6)∧ -1≤e.count)) (w:World):Calls prog 22 #[e.val] w fun r w'=>r= .returned (.bool true)∧I [] w w':=by
 obtain⟨k,y,m,t,c⟩:=e;simp only[Ev.val,Ev.cells] at*;rcases h with⟨h0,h7,h5,h6⟩|⟨rfl|rfl,h⟩
 ·have h5':(k != 5)=true:=by simpa using h5
  have YE:(k != 6)=true:=by simpa using h6
  go_enter func22,ntmps22;go_wp2_with fail
  go_ret;exact⟨rfl,(I.refl _ _).alloc _⟩
 all_goals
  go_enter func22,ntmps22;go_wp2_with fail
  go_ret;exact⟨rfl,(I.refl _ _).alloc _⟩
end Go.Proofs.YthffblhdjjbkaaaGreat
namespace Go.Tru
def bQ (p:Ev):Bool:=decide (p.kind=5∨p.kind=6)
def af.of (p:Ev):af:=⟨decide (p.kind=6),p.count,0⟩
end Go.Tru
namespace Go.Proofs.YthffblhdjjbkaaaGreat
open Go.RowKit Go.Tru
theorem yI {p:Ev} (h:Clear p) (h7:p.kind=7):p=aL:=by rcases h with rfl|⟨b,rfl⟩|⟨n,m,rfl⟩|⟨s,rfl⟩|⟨s,rfl⟩|⟨n,hn,rfl⟩|⟨n,hn,rfl⟩|rfl<;>first|rfl|(simp[ar,aq,ay,ah,dv,aN,aO] at h7)
theorem pS {p:Ev} (h:Clear p) (h7:p.kind=3): ∃s,p=ah s:=by rcases h with rfl|⟨b,rfl⟩|⟨n,m,rfl⟩|⟨s,rfl⟩|⟨s,rfl⟩|⟨n,hn,rfl⟩|⟨n,hn,rfl⟩|rfl<;>first|exact⟨_,rfl⟩|(simp[ar,aq,ay,aL,dv,aN,aO] at h7)
theorem Gw {p:Ev} (h:Clear p) (h7:bQ p=true): ∃m n,-1≤n∧p.part= .iface 215 (.agg #[.bool m,.int .i64 n])∧af.of p=⟨m,n,0⟩:=by
 rcases h with rfl|⟨b,rfl⟩|⟨n,m,rfl⟩|⟨s,rfl⟩|⟨s,rfl⟩|⟨n,hn,rfl⟩|⟨n,hn,rfl⟩|rfl
 ·simp[bQ,ar] at h7
 ·simp[bQ,aq] at h7
 ·simp[bQ,ay] at h7
 ·simp[bQ,ah] at h7
 ·simp[bQ,dv] at h7
 ·exact⟨false,n,hn,eC n,by simp[af.of,aN]⟩
 ·exact⟨true,n,hn,eD n,by simp[af.of,aO]⟩
 ·simp[bQ,aL] at h7
end Go.Proofs.YthffblhdjjbkaaaGreat
namespace Go.Tru
structure mq where
 at_:Nat
 parts:Int
structure St where
 cN:Int
 held:List Ev
 size:Int
 open_:List mq
 e:Int
def St.new (cN:Int):St:=⟨cN,[],0,[],0⟩
def py:St:=⟨0,[],0,[],10⟩
def St.hold (s:St) (v:Ev):St:=
 if s.cN<s.size+v.size then py else{s with held:=s.held++[v],size:=s.size+v.size}
def Ev.loose (p:Ev):Bool:=decide ((p.kind=5∨p.kind=6)∧p.count<0)
def Ev.kB (p:Ev) (parts:Int):Ev:=if p.loose then{p with count:=if p.kind=6 then parts/2 else parts} else p
def dV (l:List Ev) (i:Nat) (parts:Int):List Ev:=
 match l[i]? with
 |none=>l
 |some p=>l.set i (p.kB parts)
def St.close (s:St) (c:mq) (r:List mq):List Ev×Int×St:=
 match r with
 | []=>(dV s.held c.at_ c.parts++[aL],0,{s with held:=[],size:=0,open_:=[]})
 |_::_=>
  let t:=St.hold {s with held:=dV s.held c.at_ c.parts,open_:=r} aL
  ([],t.e,t)
def fC:List mq→List mq
 | []=>[]
 |c::r=>⟨c.at_,c.parts+1⟩::r
def St.step (s:St) (p:Ev):List Ev×Int×St:=
 if s.e≠0 then([],s.e,s)
 else match s.open_ with
  | []=>
   if p.loose then
    let t:=St.hold {s with open_:=[⟨s.held.length,0⟩]} p
    ([],t.e,t)
   else([p],0,s)
  |c::r=>
   if p.kind=7 then s.close c r
   else
    let t:=St.hold {s with open_:=if bQ p then⟨s.held.length,0⟩::fC (c::r) else fC (c::r)} p
    ([],t.e,t)
structure St.Fit (s:St):Prop where
 lK:0≤s.cN∧s.cN≤2000
 size:s.held.length≤s.size∧s.size≤s.cN
 opens: ∀c∈s.open_,(∃p,s.held[c.at_]? =some p∧Clear p∧bQ p=true)∧0≤c.parts∧c.parts≤s.held.length
 cnt:s.open_.length≤s.held.length
 none_:s.open_= []→s.held= []
 err:0≤s.e∧s.e≤10
theorem eS {x:Int} (h:0≤x∧x≤2000):(St.new x).Fit:=⟨h,⟨by simp[St.new],h.1⟩,by simp[St.new],by simp[St.new],fun _=>rfl,by simp[St.new]⟩
theorem SY:py.Fit:=⟨by simp[py],by simp[py],by simp[py],by simp[py],fun _=>rfl,by simp[py]⟩
theorem size_pos (p:Ev):1≤p.size:=by unfold Ev.size;omega
theorem vE {s:St} (h1:0≤s.cN∧s.cN≤2000) (h2:s.held.length≤s.size) (he:0≤s.e∧s.e≤10) (p:Ev) (ho: ∀c∈s.open_,(∃q,(s.held++[p])[c.at_]? =some q∧Clear q∧bQ q=true)∧0≤c.parts∧c.parts≤s.held.length+1) (hc:s.open_.length≤s.held.length+1) (hn:s.open_≠[]):(s.hold p).Fit:=by
 unfold St.hold;by_cases h:s.cN<s.size+p.size
 ·rw[if_pos h];exact SY
 ·rw[if_neg h];have:=size_pos p;exact⟨h1,⟨by simp;omega,by simp only[];omega⟩,fun c Nx=>by obtain⟨a,b,d⟩:=ho c Nx;exact⟨a,b,by simp only[List.length_append,List.length_singleton];omega⟩,by simp only[List.length_append,List.length_singleton];exact hc,fun e=>absurd e hn,he⟩
theorem qJ {p:Ev} (hc:Clear p) (ho:bQ p=true) {n:Int} (hn:0≤n):Clear (p.kB n)∧bQ (p.kB n)=true:=by
 unfold Ev.kB;split
 ·rcases hc with rfl|⟨b,rfl⟩|⟨n,m,rfl⟩|⟨s,rfl⟩|⟨s,rfl⟩|⟨k,hk,rfl⟩|⟨k,hk,rfl⟩|rfl
  ·simp[bQ,ar] at ho
  ·simp[bQ,aq] at ho
  ·simp[bQ,ay] at ho
  ·simp[bQ,ah] at ho
  ·simp[bQ,dv] at ho
  ·exact⟨inr (inr (inr (inr (inr (inl ⟨n,by omega,by simp[aN]⟩))))),by simp[bQ,aN]⟩
  ·refine⟨inr (inr (inr (inr (inr (inr (inl ⟨n/2,?_,by simp[aO]⟩)))))),by simp[bQ,aO]⟩;omega
  ·simp[bQ,aL] at ho
 ·exact⟨hc,ho⟩
theorem dI (l:List Ev) (i:Nat) (n:Int):(dV l i n).length=l.length:=by unfold dV;split<;>simp
theorem zN {l:List Ev} {i:Nat} {n:Int} (hn:0≤n) {j:Nat} (h: ∃p,l[j]? =some p∧Clear p∧bQ p=true): ∃p,(dV l i n)[j]? =some p∧Clear p∧bQ p=true:=by
 obtain⟨p,h1,h2,h3⟩:=h;unfold dV;split
 ·exact⟨p,h1,h2,h3⟩
 ·rename_i q hq;by_cases e:i=j
  ·subst e;rw[hq] at h1;injection h1 with h1;subst h1;have hl:=(List.getElem?_eq_some_iff.1 hq).1;exact⟨_,by rw[List.getElem?_set_self hl],(qJ h2 h3 hn).1,(qJ h2 h3 hn).2⟩
  ·exact⟨p,by rw[List.getElem?_set_ne e];exact h1,h2,h3⟩
theorem vF {l:List Ev} {p q:Ev} {i:Nat} (h:l[i]? =some q):(l++[p])[i]? =some q:=by rw[List.getElem?_append_left (List.getElem?_eq_some_iff.1 h).1];exact h
theorem dN {s:St} (h:s.Fit) {p:Ev} (hp:Clear p):(s.step p).2.2.Fit:=by
 unfold St.step;by_cases he:s.e≠0
 ·rw[if_pos he];exact h
 rw[if_neg he];cases ho:s.open_ with
 |nil=>
  simp only[];by_cases hl:p.loose=true
  ·rw[if_pos hl];have rX:=h.none_ ho;refine vE (s:={s with open_:=[⟨s.held.length,0⟩]}) h.lK h.size.1 h.err p ?_ (by simp) (by simp);intro c hc;simp only[List.mem_singleton] at hc;subst hc;simp only[rX,List.length_nil,List.nil_append];refine⟨⟨p,rfl,hp,?_⟩,by omega,by omega⟩;simp only[Ev.loose,decide_eq_true_eq] at hl;simp[bQ,hl.1]
  ·rw[if_neg hl];exact h
 |cons c r=>
  have SZ:=h.opens;have Wu:=h.cnt;rw[ho] at SZ Wu;simp only[List.length_cons] at Wu;have hc:=SZ c ms;simp only[];by_cases h7:p.kind=7
  ·rw[if_pos h7];unfold St.close;cases r with
   |nil=>exact⟨h.lK,⟨by simp,h.lK.1⟩,by simp,by simp,fun _=>rfl,h.err⟩
   |cons c' r'=>simp only[];refine vE (by exact h.lK) (by simp only[dI];exact h.size.1) (by exact h.err) _ ?_ (by simp only[dI];simp only[List.length_cons] at Wu⊢;omega) (by simp);intro x hx;obtain⟨a,b,d⟩:=SZ x (List.mem_cons_of_mem _ hx);obtain⟨q,h1,h2⟩:=zN (i:=c.at_) hc.2.1 a;exact⟨⟨q,vF h1,h2⟩,b,by simp only[dI];omega⟩
  ·rw[if_neg h7];have hb: ∀x∈fC (c::r),(∃q,(s.held++[p])[x.at_]? =some q∧Clear q∧bQ q=true)∧0≤x.parts∧x.parts≤s.held.length+1:=by
    intro x hx;simp only[fC,List.mem_cons] at hx;rcases hx with rfl|hx
    ·obtain⟨⟨q,h1,h2⟩,b,d⟩:=hc;exact⟨⟨q,vF h1,h2⟩,by simp only[];omega,by simp only[];omega⟩
    ·obtain⟨⟨q,h1,h2⟩,b,d⟩:=SZ x (List.mem_cons_of_mem _ hx);exact⟨⟨q,vF h1,h2⟩,b,by omega⟩
   refine vE (s:={s with open_:=if bQ p then⟨s.held.length,0⟩::fC (c::r) else fC (c::r)}) h.lK h.size.1 h.err p ?_ ?_ ?_
   ·intro x hx;simp only[] at hx;split at hx
    ·rename_i jW;rcases List.mem_cons.1 hx with rfl|hx
     ·simp only[];exact⟨⟨p,by simp,hp,jW⟩,by omega,by omega⟩
     ·exact hb x hx
    ·exact hb x hx
   ·simp only[];split<;>simp[fC]<;>omega
   ·simp only[];split<;>simp[fC]
end Go.Tru
namespace Go.Proofs.YthffblhdjjbkaaaGreat
open Go.RowKit Go.Tru
structure Ps (T:TypeId) (n off:Nat):Prop where
 adW:liesAt prog Tryz.prog.depth T (n/Tryz.prog.cellsOf T) off 132 1=true
 lt:off<n
 ne:T≠5
theorem Pt:(Tryz.prog.info? 132).map (·.size)=some 2:=by kernel_rfl
theorem Lu:(Tryz.prog.info? 5).map (fun i=>(i.zero,i.size,i.bytes))=some (some (.int .u8 0),1,1):=by kernel_rfl
theorem GZ:Tryz.prog.cellsOf 5=1:=by kernel_rfl
theorem hI {w:World} {b:Nat} {pre post:List Value} {T:TypeId} {p v:Value} {off:Nat} (h:Has w b (pre++[p,v]++post) T) (ho:off=pre.length):w.cell? ⟨b,off,none⟩=some p∧w.cell? ⟨b,off+1,none⟩=some v∧w.frozen? ⟨b,off,none⟩=false∧w.frozen? ⟨b,off+1,none⟩=false∧w.shape? b=some (T,pre.length+2+post.length):=by refine⟨bR h ho 0 (by simp),bR h ho 1 (by simp),h.free _,h.free _,?_⟩;have hb:w.heap[b]? =_:=h;simp[World.shape?,hb];omega
theorem Pv (b:Nat) (pre post:List Value) (T:TypeId) (p v:Value) (w:World) (h:Has w b (pre++[p,v]++post) T) (off:Nat) (bK:off=pre.length) (hp:p= .pointer none∨p= .pointer (some ⟨b,off,none⟩)) (ht:Ps T (pre.length+2+post.length) off):Calls prog 106 #[.pointer (some ⟨b,off,none⟩)] w fun e w'=>e= .returned (.tuple #[])∧Has w' b (pre++[.pointer (some ⟨b,off,none⟩),v]++post) T∧I [b] w w':=by
 obtain⟨j,hj,YK⟩:=Option.map_eq_some_iff.1 Pt;obtain⟨h0,h1,f0,f1,M6⟩:=hI h bK;have HO:=hid bK;rcases hp with rfl|rfl
 ·have H:=hid h;clear h bK;go_enter func106,ntmps106;go_wp2;rw[Lib.run_to_unsafe w ⟨b,off,none⟩ underlying130 underlying204 hj (by rw[YK];decide) M6 ht.lt];simp only[Result.andThen];rw[Oper.upon_value];go_wp2;rw[run_callFunc_extern func112 (by kernel_rfl) (by kernel_rfl) (by kernel_rfl) (e:=Extern.AbiNoEscape.same) (by kernel_rfl)];rw[Lib.run_noEscape];simp only[Result.andThen];rw[Oper.upon_value];go_wp2;rw[Lib.run_from_unsafe w ⟨b,off,none⟩ underlying204 underlying130 hj M6 ht.adW];simp only[Result.andThen];rw[Oper.upon_value];go_wp2;go_end0;exact⟨rfl,(kU H.out HO.out _ (by simp)).conv (by simp),(I.refl _ _).ax _⟩
 ·have H:=hid h;clear h bK;go_enter func106,ntmps106;go_wp2;rw[Lib.run_neq_ptr_same w _ underlying130 hj];go_wp2;go_end0;exact⟨rfl,H.out,I.refl _ _⟩
theorem JB (b:Nat) (pre post:List Value) (T:TypeId) (p:Value) (o:Option Addr) (n c:Nat) (w:World) (h:Has w b (pre++[p,.slice o n c]++post) T) (off:Nat) (bK:off=pre.length):Calls prog 144 #[.pointer (some ⟨b,off,none⟩)] w fun e w'=>e= .returned (.int .i64 n)∧w=w':=by obtain⟨h0,h1,f0,f1,M6⟩:=hI h bK;clear h bK;go_enter func144,ntmps144;go_wp2;go_ret;exact⟨rfl,rfl⟩
theorem Lv (b:Nat) (pre post:List Value) (T:TypeId) (p v:Value) (w:World) (h:Has w b (pre++[p,v]++post) T) (off:Nat) (bK:off=pre.length):Calls prog 138 #[.pointer (some ⟨b,off,none⟩)] w fun e w'=>e= .returned (.tuple #[])∧Has w' b (pre++[.pointer none,.slice none 0 0]++post) T∧I [b] w w':=by obtain⟨h0,h1,f0,f1,M6⟩:=hI h bK;have H:=hid h;have HO:=hid bK;clear h bK;go_enter func138,ntmps138;go_wp2;go_end0;exact⟨rfl,(cd (kU H.out HO.out _ (by simp)) HO.out 1 _ (by simp)).conv (by simp),((I.refl _ _).ax _).ax _⟩
def je (w:World) (base:Nat) (v:Value) (l:List UInt8):Prop:=w.ownsRow base 5 1 v l.length (Lib.byteCells l)
theorem je.nil (w:World) (base:Nat):je w base (.slice none 0 0) []:=World.ownsRow_nil _ _ _ _
theorem je.shape {w:World} {base:Nat} {v:Value} {l:List UInt8} (h:je w base v l): ∃a cap,v= .slice a l.length cap:=by
 rcases h.2 with⟨h1,h2⟩|⟨g,cap,cur,h1,_⟩
 ·exact⟨none,0,by rw[h1,h2]⟩
 ·exact⟨_,_,h1⟩
theorem byteCells_append (l m:List UInt8):Lib.byteCells (l++m)=Lib.byteCells l++Lib.byteCells m:=by simp[Lib.byteCells]
theorem je.ne {w:World} {base:Nat} {v:Value} {l:List UInt8} (h:je w base v l) {b:Nat} {cs:List Value} {T:TypeId} (hb:Has w b cs T) (hT:T≠5):b∉ae v:=fun hm=>Lib.ownBlock_ne h hb hT (aa.1 hm)
theorem rS (b:Nat) (pre post:List Value) (T:TypeId) (p v:Value) (base:Nat) (l:List UInt8) (s:ByteArray) (w:World) (h:Has w b (pre++[p,v]++post) T) (off:Nat) (bK:off=pre.length) (hp:p= .pointer none∨p= .pointer (some ⟨b,off,none⟩)) (ht:Ps T (pre.length+2+post.length) off) (au:je w base v l) (hlen:l.length+s.size≤1000000) (ak:base≤w.heap.size):Calls prog 91 #[.pointer (some ⟨b,off,none⟩),.string s] w fun e w'=>e= .returned (.tuple #[.int .i64 s.size,.nilIface])∧∃v',Has w' b (pre++[.pointer (some ⟨b,off,none⟩),v']++post) T∧je w' base v' (l++s.data.toList)∧I (b::ae v) w w'∧∀i∈ae v',i∈ae v∨w.heap.size≤i:=by
 obtain⟨i0,hi,ko,gv,gW⟩:=info_parts Lu;have Tn:=au.ne h ht.ne;have hl:=h.lt;have xA:=hid bK;have HP:=hid hp;have HT:=hid ht;have H:=hid h;have HW:=hid au;have HBV:=hid Tn;clear bK hp ht h au Tn;go_enter func91,ntmps91;go_wp2_with fail
 refine(Pv b pre post T p v w H.out off xA.out HP.out HT.out).mono ?_;rintro e w1 ⟨rfl,h1,k1⟩;obtain⟨c0,c1,f0,f1,M6⟩:=hI h1 xA.out;have Vb:je w1 base v l:=ab HW.out k1 (fun i hi hm=>HBV.out (by rw[List.mem_singleton] at hm;exact hm▸aa.2 hi));go_wp2_with (at_builtin;refine nZ _ rfl _ _ 63 9 rfl base 5 i0 underlying63 underlying9 hi ko gv gW _ _ _ rfl Vb s rfl ?c3 ?c4 ?c5 ?_)
 case c3=>unfold maxLen;omega
 case c4=>omega
 case c5=>have:=k1.size;omega
 intro v' w2 Vc pC nM;have iA:=cD pC;have h2:=h1.keeps iA HBV.out;obtain⟨d0,d1,e0,e1,adY⟩:=hI h2 xA.out;have cI:je w2 base v' (l++s.data.toList):=by unfold je;rw[byteCells_append,List.length_append,Array.length_toList];exact Vc
 obtain⟨ao,cap,Pw⟩:=cI.shape;obtain⟨n2,ju⟩: ∃n2,(l++s.data.toList).length=n2:=⟨_,rfl⟩
 rw[ju] at Pw;have Lw:=cI.ne h2 HT.out.ne;subst Pw;have H2:=hid h2;have HO:=hid cI;have K1:=hid k1;have K2:=hid iA;have HB:=hid Lw;have HA:=hid nM;clear h2 cI k1 iA Lw nM Vc pC Vb h1 M6 adY ju;go_wp2;go_ret2;refine⟨rfl,_,(cd H2.out xA.out 1 _ (by simp)).conv (by simp;rfl),?_,?_,fun i hi=> ?_⟩
 ·exact ab HO.out ((I.refl [b] _).ax _) (fun i hi hm=>HB.out (by rw[List.mem_singleton] at hm;exact hm▸aa.2 hi))
 ·exact((K1.out.mono (by simp)).trans (K2.out.mono mc)).setCell (inl (by simp)) _
 ·rcases HA.out i (aa.1 hi) with h|h
  ·exact inl (aa.2 h)
  ·exact inr (by have:=K1.out.size;omega)
theorem Dz {w:World} {g:Nat} (n:Nat):I [g] w (w.drew.freeze ⟨g,0,none⟩ n):=(I.refl [g] w).drew.freeze (inl (by simp)) n
theorem pX (b:Nat) (pre post:List Value) (T:TypeId) (p v:Value) (base:Nat) (l:List UInt8) (w:World) (h:Has w b (pre++[p,v]++post) T) (off:Nat) (bK:off=pre.length) (au:je w base v l):Calls prog 92 #[.pointer (some ⟨b,off,none⟩)] w fun e w'=>e= .returned (.string ⟨l.toArray⟩)∧I (ae v) w w':=by
 by_cases h0:l= []
 ·subst h0;have hUS: ∀ (W:World) (q:Option Addr),(Builtin.unsafeString_ #[172,3] 9 #[.pointer q,.int .i64 0]).run prog W= .ok (.string .empty) W:=fun W q=>Lib.run_unsafeString_none W _ _ _ q;rcases au.2 with⟨rfl,_⟩|⟨g,cap,cur,rfl,cY,hg,_,_,_,_⟩
  ·obtain⟨c0,c1,f0,f1,M6⟩:=hI (w:=w.drew) h bK;have hSD:(Builtin.unsafeSliceData_ #[63] 172 #[.slice none 0 0]).run prog w.drew= .ok (.pointer none) w.drew:=rfl;clear h bK;go_enter func92,ntmps92;go_wp2;go_region;all_goals (go_wp2;go_ret;exact⟨rfl,(I.refl _ _).drew⟩)
  ·by_cases nN:cap=0
   ·subst nN;obtain⟨c0,c1,f0,f1,M6⟩:=hI (w:=w.drew) h bK;have hSD:(Builtin.unsafeSliceData_ #[63] 172 #[.slice (some ⟨g,0,none⟩) 0 0]).run prog w.drew= .ok (.pointer (some ⟨w.drew.heap.size,0,none⟩)) (w.drew.alloc (.view ⟨g,0,none⟩ 5)):=Lib.run_unsafeSliceData_zero w.drew _ _ 5 underlying172 ⟨g,0,none⟩ 0 (5,cur.size) (by have Vd:w.drew.heap[g]? =some (.cells cur 5 (0,0)):=hg;simp[World.shape?,Vd]);obtain⟨d0,d1,_,_,_⟩:=hI (Has.alloc (w:=w.drew) h (.view ⟨g,0,none⟩ 5)) bK;have c3:(w.alloc (.view ⟨g,0,none⟩ 5)).drew.cell? ⟨b,off+1,none⟩=some (.slice (some ⟨g,0,none⟩) 0 0):=d1;have c4:w.cell? ⟨b,off+1,none⟩=some (.slice (some ⟨g,0,none⟩) 0 0):=c1;clear h bK;go_enter func92,ntmps92;go_wp2;go_region;all_goals (go_wp2;go_ret;exact⟨rfl,((I.refl _ _).drew).alloc _⟩)
   ·obtain⟨c0,c1,f0,f1,M6⟩:=hI (w:=w.drew) h bK;have hSD:(Builtin.unsafeSliceData_ #[63] 172 #[.slice (some ⟨g,0,none⟩) 0 cap]).run prog w.drew= .ok (.pointer (some ⟨g,0,none⟩)) w.drew:=Lib.run_unsafeSliceData_row _ _ _ _ _ _ nN;clear h bK nN;go_enter func92,ntmps92;go_wp2;go_region;all_goals (go_wp2;go_ret;exact⟨rfl,(I.refl _ _).drew⟩)
 ·have To:l.length≠0:=by simpa using h0
  obtain⟨g,cap,cur,rfl,cY,hg,hnc,hcm,tN,Zt⟩: ∃g cap cur,v= .slice (some ⟨g,0,none⟩) l.length cap∧base≤g∧w.heap[g]? =some (.cells cur 5 (0,0))∧l.length≤cap∧cap≤maxLen∧cur.size=cap*1∧cur.toList.take (l.length*1)=Lib.byteCells l:=by
   rcases au.2 with⟨_,hz⟩|⟨g,cap,cur,hv,r⟩
   ·exact absurd hz To
   ·exact⟨g,cap,cur,hv,r⟩
  obtain⟨c0,c1,f0,f1,M6⟩:=hI (w:=w.drew) h bK;have hSD:(Builtin.unsafeSliceData_ #[63] 172 #[.slice (some ⟨g,0,none⟩) l.length cap]).run prog w.drew= .ok (.pointer (some ⟨g,0,none⟩)) w.drew:=Lib.run_unsafeSliceData_row _ _ _ _ _ _ (by omega);have hUS:(Builtin.unsafeString_ #[172,3] 9 #[.pointer (some ⟨g,0,none⟩),.int .i64 l.length]).run prog w.drew= .ok (.string ⟨l.toArray⟩) (w.drew.freeze ⟨g,0,none⟩ l.length):=by refine Lib.run_unsafeString_row w.drew 172 3 9 5 underlying172 GZ g cur.size (by have Vd:w.drew.heap[g]? =some (.cells cur 5 (0,0)):=hg;simp[World.shape?,Vd]) l h0 (by omega) (by unfold maxLen at hcm;omega) ?_;intro j x hx;exact au.cells (g:=g) rfl j (.int .u8 x.toNat) (by simp[Lib.byteCells,hx])
  clear h bK au;go_enter func92,ntmps92;go_wp2;go_region;all_goals (go_wp2;go_ret;exact⟨rfl,Dz _⟩)
end Go.Proofs.YthffblhdjjbkaaaGreat
namespace Go.Tru
def mq.cells (c:mq):List Value:=[.int .i64 c.at_,.int .i64 c.parts]
def jg (s:List mq):List Value:=s.reverse.flatMap mq.cells
theorem ny (s:List mq):(jg s).length=s.length*2:=by
 unfold jg;induction s with
 |nil=>rfl
 |cons c s ih=>rw[List.reverse_cons,List.flatMap_append,List.length_append,ih];simp[mq.cells];omega
theorem ib (c:mq) (s:List mq):jg (c::s)=jg s++c.cells:=by unfold jg;rw[List.reverse_cons,List.flatMap_append,List.flatMap_cons,List.flatMap_nil,List.append_nil]
def cG (w:World) (base:Nat) (v:Value) (s:List mq):Prop:=w.ownsRow base 221 2 v s.length (jg s)
theorem cG.nil (w:World) (base:Nat):cG w base (.slice none 0 0) []:=World.ownsRow_nil _ _ _ _
theorem cG.shape {w:World} {base:Nat} {v:Value} {s:List mq} (h:cG w base v s): ∃a cap,v= .slice a s.length cap:=by
 rcases h.2 with⟨h1,h2⟩|⟨g,cap,cur,h1,_⟩
 ·exact⟨none,0,by rw[h1,h2]⟩
 ·exact⟨_,_,h1⟩
theorem cG.some_ {w:World} {base:Nat} {v:Value} {c:mq} {s:List mq} (h:cG w base v (c::s)): ∃g cap,v= .slice (some ⟨g,0,none⟩) (s.length+1) cap∧base≤g∧g<w.heap.size∧s.length+1≤cap∧cap≤maxLen∧w.cell? ⟨g,s.length*2,none⟩=some (.int .i64 c.at_)∧w.cell? ⟨g,s.length*2+1,none⟩=some (.int .i64 c.parts)∧∀j,w.frozen? ⟨g,j,none⟩=false:=by
 have dD:=World.ownsRow.lt h;rcases h.2 with⟨_,h2⟩|⟨g,cap,cur,rfl,hb,hg,hn,hm,_⟩
 ·simp at h2
 ·have hl:=ny s;refine⟨g,cap,rfl,hb,(dD g rfl).2,hn,hm,?_,?_,fun j=>World.ownsRow.frozenAt h j⟩;all_goals rw[World.ownsRow.cellAt h _ (by simp only[List.length_cons];omega),ib,List.getElem?_append_right (by omega),hl];simp[mq.cells]
theorem cG.pop {w:World} {base g cap:Nat} {c:mq} {s:List mq} (h:cG w base (.slice (some ⟨g,0,none⟩) (s.length+1) cap) (c::s)):cG w base (.slice (some ⟨g,0,none⟩) s.length cap) s:=by unfold cG at h⊢;rw[ib] at h;exact ownsRow_pop (ny s) h
theorem cG.gV {w:World} {base g cap:Nat} {c:mq} {s:List mq} (h:cG w base (.slice (some ⟨g,0,none⟩) (s.length+1) cap) (c::s)) (p:Int):cG (w.setCell ⟨g,s.length*2+1,none⟩ (.int .i64 p)) base (.slice (some ⟨g,0,none⟩) (s.length+1) cap) ({c with parts:=p}::s):=by
 have h1:=(World.ownsRow.stored h (s.length*2+1) (.int .i64 p)).1;unfold cG;have e:(jg (c::s)).set (s.length*2+1) (.int .i64 p)=jg ({c with parts:=p}::s):=by
  have hl:=ny s;rw[ib,ib,List.set_append_right _ _ (by omega),hl];have:s.length*2+1-s.length*2=1:=by omega
  rw[this];simp[mq.cells]
 rw[e] at h1;exact h1
theorem Tu (c:mq): ∀u∈c.cells,u.oneCell'=true:=by intro u hu;simp only[mq.cells,List.mem_cons,List.not_mem_nil,or_false] at hu;rcases hu with rfl|rfl<;>rfl
theorem oO {p:Ev} {pv:Value} (oU:p.part=pv) {w:World} {t:TypeId} {g:Nat} (hg:g=w.heap.size): ∀ (j:Nat) (u:Value),([p].map Ev.part)[j]? =some u→(w.alloc (.cells #[pv] t)).cell? ((⟨g,0,none⟩:Addr).add j)=some u:=by subst oU;exact aA ([p].map Ev.part) hg
structure dR (w:World) (base b:Nat) (hv ov:Value) (s:St):Prop where
 az:Has w b [.int .i64 s.cN,hv,.int .i64 s.size,ov,.int .i64 s.e] 175
 held:aP w base hv s.held
 bu:cG w base ov s.open_
 bh:b∉ae hv
 bo:b∉ae ov
 ho: ∀i,i∈ae hv→i∉ae ov
theorem dR.keeps {F:List Nat} {w w':World} {base b:Nat} {hv ov:Value} {s:St} (h:dR w base b hv ov s) (k:I F w w') (hb:b∉F) (hh: ∀i∈ae hv,i∉F) (hoo: ∀i∈ae ov,i∉F):dR w' base b hv ov s:=⟨h.az.keeps k hb,ab h.held k (fun i hi=>hh i (aa.2 hi)),ab h.bu k (fun i hi=>hoo i (aa.2 hi)),h.bh,h.bo,h.ho⟩
theorem dR.aI {w w':World} {base b:Nat} {hv ov:Value} {s:St} (h:dR w base b hv ov s) (k:I [] w w'):dR w' base b hv ov s:=h.keeps k (by simp) (by simp) (by simp)
def bM (b:Nat) (hv ov:Value):List Nat:=b::(ae hv++ae ov)
def fK (w:World) (base b:Nat) (hv ov:Value) (s':St) (w':World):Prop:=
 ∃Pw oW,dR w' base b Pw oW s'∧I (bM b hv ov) w w'∧∀i∈bM b Pw oW,i∈bM b hv ov∨w.heap.size≤i
theorem fK.trans {w w1 w2:World} {base b:Nat} {hv ov iR Cz:Value} {s2:St} (k:I (bM b hv ov) w w1) (hs: ∀i∈bM b iR Cz,i∈bM b hv ov∨w.heap.size≤i) (h:fK w1 base b iR Cz s2 w2):fK w base b hv ov s2 w2:=by
 obtain⟨jz,nL,h1,h2,h3⟩:=h;refine⟨jz,nL,h1,k.trans' h2 hs,fun i hi=> ?_⟩;rcases h3 i hi with h|h
 ·exact hs i h
 ·exact inr (Nat.le_trans k.size h)
theorem dR.ks {w:World} {base b:Nat} {hv ov:Value} {s:St} (h:dR w base b hv ov s):b<w.heap.size:=h.az.lt
theorem dR.Tv {w w2:World} {base b:Nat} {hv ov v2:Value} {s:St} {l:List Ev} (h:dR w base b hv ov s) (au:aP w2 base v2 l) (k:I (ae hv) w w2) (hb:v2.ownBlock=hv.ownBlock∨∃n,v2.ownBlock=some n∧w.heap.size≤n):dR (w2.setCell ⟨b,1,none⟩ v2) base b v2 ov {s with held:=l}∧I (bM b hv ov) w (w2.setCell ⟨b,1,none⟩ v2)∧∀i∈bM b v2 ov,i∈bM b hv ov∨w.heap.size≤i:=by
 have bP:=h.ks;have aJ: ∀i,i∈ae v2→i∈ae hv∨w.heap.size≤i:=fun i hi=>by
  rw[aa] at hi⊢;rcases hb with h1|⟨n,h1,h2⟩
  ·rw[←h1];exact inl hi
  ·rw[h1] at hi;injection hi with hi;exact inr (hi▸h2)
 have fT:b∉ae v2:=fun hm=>by
  rcases aJ b hm with h1|h1
  ·exact h.bh h1
  ·omega
 have bn:I [b] w2 (w2.setCell ⟨b,1,none⟩ v2):=(I.refl _ _).ax v2;have fj:cG w2 base ov s.open_:=ab h.bu k (fun i hi hm=>h.ho i hm (aa.2 hi));refine⟨⟨(h.az.keeps k h.bh).set 1 v2,ab au bn (fun i hi hm=>fT (by rw[List.mem_singleton] at hm;exact hm▸aa.2 hi)),ab fj bn (fun i hi hm=>h.bo (by rw[List.mem_singleton] at hm;exact hm▸aa.2 hi)),fT,h.bo,fun i hi hm=> ?_⟩,?_,fun i hi=> ?_⟩
 ·rcases aJ i hi with h1|h1
  ·exact h.ho i h1 hm
  ·have:=(World.ownsRow.lt h.bu i (aa.1 hm)).2;omega
 ·exact(k.mono (fun i hi=>List.mem_cons_of_mem _ (List.mem_append_left _ hi))).trans (bn.mono (fun i hi=>by rw[List.mem_singleton] at hi;exact hi▸ms))
 ·rcases List.mem_cons.1 hi with rfl|hi
  ·exact inl ms
  ·rcases List.mem_append.1 hi with hi|hi
   ·rcases aJ i hi with h1|h1
    ·exact inl (List.mem_cons_of_mem _ (List.mem_append_left _ h1))
    ·exact inr h1
   ·exact inl (List.mem_cons_of_mem _ (List.mem_append_right _ hi))
theorem aP.some_ {w:World} {base:Nat} {v:Value} {l:List Ev} (h:aP w base v l) (hl:l≠[]): ∃g cap,v= .slice (some ⟨g,0,none⟩) l.length cap∧g<w.heap.size∧l.length≤cap∧cap≤maxLen∧(∀i p,l[i]? =some p→w.cell? ⟨g,i,none⟩=some p.part)∧∀j,w.frozen? ⟨g,j,none⟩=false:=by
 have dD:=World.ownsRow.lt h;rcases h.2 with⟨_,h2⟩|⟨g,cap,cur,rfl,hb,hg,hn,hm,_⟩
 ·exact absurd (List.length_eq_zero_iff.1 h2) hl
 ·refine⟨g,cap,rfl,(dD g rfl).2,hn,hm,fun i p hp=> ?_,fun j=>World.ownsRow.frozenAt h j⟩;have hi:i<l.length:=(List.getElem?_eq_some_iff.1 hp).1;rw[World.ownsRow.cellAt h i (by omega)];simp[hp]
theorem aP.setAt {w:World} {base g cap:Nat} {l:List Ev} (h:aP w base (.slice (some ⟨g,0,none⟩) l.length cap) l) (i:Nat) (q:Ev):aP (w.setCell ⟨g,i,none⟩ q.part) base (.slice (some ⟨g,0,none⟩) l.length cap) (l.set i q):=by have h1:=(World.ownsRow.stored h i q.part).1;unfold aP;rw[List.length_set,List.map_set];exact h1
theorem dR.vy {w:World} {base b:Nat} {hv ov v2:Value} {s:St} {l:List mq} (h:dR w base b hv ov s) (au:cG w base v2 l) (hb:v2.ownBlock=ov.ownBlock∨v2.ownBlock=none):dR (w.setCell ⟨b,3,none⟩ v2) base b hv v2 {s with open_:=l}∧∀i∈bM b hv v2,i∈bM b hv ov:=by
 have ef: ∀i,i∈ae v2→i∈ae ov:=fun i hi=>by
  rw[aa] at hi⊢;rcases hb with h1|h1
  ·rw[←h1];exact hi
  ·rw[h1] at hi;cases hi
 have bn:I [b] w (w.setCell ⟨b,3,none⟩ v2):=(I.refl _ _).ax _;refine⟨⟨h.az.set 3 _,ab h.held bn (fun i hi hm=>h.bh (by rw[List.mem_singleton] at hm;exact hm▸aa.2 hi)),ab au bn (fun i hi hm=>h.bo (by rw[List.mem_singleton] at hm;exact hm▸ef i (aa.2 hi))),h.bh,fun hm=>h.bo (ef b hm),fun i hi hm=>h.ho i hi (ef i hm)⟩,fun i hi=> ?_⟩;rcases List.mem_cons.1 hi with rfl|hi
 ·exact ms
 ·rcases List.mem_append.1 hi with hi|hi
  ·exact List.mem_cons_of_mem _ (List.mem_append_left _ hi)
  ·exact List.mem_cons_of_mem _ (List.mem_append_right _ (ef i hi))
theorem dR.setAt {w:World} {base b g cap:Nat} {ov:Value} {s:St} (h:dR w base b (.slice (some ⟨g,0,none⟩) s.held.length cap) ov s) (i:Nat) (q:Ev):dR (w.setCell ⟨g,i,none⟩ q.part) base b (.slice (some ⟨g,0,none⟩) s.held.length cap) ov {s with held:=s.held.set i q}:=by have lr:b≠g:=fun e=>h.bh (by rw[aa,e];rfl);have bn:I [g] w (w.setCell ⟨g,i,none⟩ q.part):=(I.refl _ _).ax _;refine⟨h.az.other lr _,aP.setAt h.held i q,ab h.bu bn (fun j hj hm=>h.ho g (by rw[aa];rfl) (by rw[List.mem_singleton] at hm;exact hm▸aa.2 hj)),h.bh,h.bo,h.ho⟩
theorem sD {w w3:World} {base b:Nat} {hv ov v3:Value} {s:St} {l:List Ev} (h:dR w base b hv ov s) (au:aP w3 base v3 l) (k:I (ae hv) w w3) (hb:v3.ownBlock=hv.ownBlock∨∃n,v3.ownBlock=some n∧w.heap.size≤n):aP ((w3.setCell ⟨b,1,none⟩ (.slice none 0 0)).setCell ⟨b,2,none⟩ (.int .i64 0)) base v3 l∧fK w base b hv ov {s with held:=[],size:=0} ((w3.setCell ⟨b,1,none⟩ (.slice none 0 0)).setCell ⟨b,2,none⟩ (.int .i64 0)):=by
 have bP:=h.ks;have Nk:b∉ae v3:=fun hm=>by
  rw[aa] at hm;rcases hb with h1|⟨n,h1,h2⟩
  ·exact h.bh (by rw[aa,←h1];exact hm)
  ·rw[h1] at hm;injection hm with hm;omega
 have bn:I [b] w3 ((w3.setCell ⟨b,1,none⟩ (.slice none 0 0)).setCell ⟨b,2,none⟩ (.int .i64 0)):=((I.refl _ _).ax _).ax _;have Ve:=(h.az.keeps k h.bh)
 have fj:cG w3 base ov s.open_:=ab h.bu k (fun i hi hm=>h.ho i hm (aa.2 hi));refine⟨ab au bn (fun i hi hm=>Nk (by rw[List.mem_singleton] at hm;exact hm▸aa.2 hi)),.slice none 0 0,ov,⟨((Ve.set 1 _).set 2 _).conv (by simp),aP.nil _ _,ab fj bn (fun i hi hm=>h.bo (by rw[List.mem_singleton] at hm;exact hm▸aa.2 hi)),by simp[aR],h.bo,by simp[aR]⟩,?_,fun i hi=> ?_⟩
 ·exact(k.mono (fun i hi=>List.mem_cons_of_mem _ (List.mem_append_left _ hi))).trans (bn.mono (fun i hi=>by rw[List.mem_singleton] at hi;exact hi▸ms))
 ·rcases List.mem_cons.1 hi with rfl|hi
  ·exact inl ms
  ·rw[aR,List.nil_append] at hi;exact inl (List.mem_cons_of_mem _ (List.mem_append_right _ hi))
theorem dR.Tw {w:World} {base b:Nat} {hv ov:Value} {s:St} (h:dR w base b hv ov s) (x:Int):dR (w.setCell ⟨b,2,none⟩ (.int .i64 x)) base b hv ov {s with size:=x}:=by have bn:I [b] w (w.setCell ⟨b,2,none⟩ (.int .i64 x)):=(I.refl _ _).ax _;exact⟨h.az.set 2 _,ab h.held bn (fun i hi hm=>h.bh (by rw[List.mem_singleton] at hm;exact hm▸aa.2 hi)),ab h.bu bn (fun i hi hm=>h.bo (by rw[List.mem_singleton] at hm;exact hm▸aa.2 hi)),h.bh,h.bo,h.ho⟩
theorem PD {w':World} {base b:Nat} (hb:Has w' b [.int .i64 0,.slice none 0 0,.int .i64 0,.slice none 0 0,.int .i64 10] 175):dR w' base b (.slice none 0 0) (.slice none 0 0) py:=⟨hb,aP.nil _ _,cG.nil _ _,by simp[aR],by simp[aR],by simp[aR]⟩
theorem Hl {w w':World} {base b:Nat} {hv ov jz nL:Value} {t:St} (h:dR w' base b jz nL t) (k:I (bM b hv ov) w w'):fK w base b hv ov py (((((w'.setCell ⟨b,0,none⟩ (.int .i64 0)).setCell ⟨b,1,none⟩ (.slice none 0 0)).setCell ⟨b,2,none⟩ (.int .i64 0)).setCell ⟨b,3,none⟩ (.slice none 0 0)).setCell ⟨b,4,none⟩ (.int .i64 10)):=by have hb:b∈bM b hv ov:=ms;refine⟨_,_,PD ((((((h.az.set 0 _).set 1 _).set 2 _).set 3 _).set 4 _).conv (by simp)),((((k.setCell (inl hb) _).setCell (inl hb) _).setCell (inl hb) _).setCell (inl hb) _).setCell (inl hb) _,fun i hi=> ?_⟩;simp only[bM,aR,List.append_nil,List.mem_singleton] at hi;exact inl (hi▸hb)
end Go.Tru
namespace Go.Proofs.YthffblhdjjbkaaaGreat
open Go.RowKit Go.Tru
theorem p7 (p:Ev):p.part= .nilIface∨∃T v,p.part= .iface T v:=by
 unfold Ev.part;repeat' split
 all_goals first|exact inl rfl|exact inr ⟨_,_,rfl⟩
end Go.Proofs.YthffblhdjjbkaaaGreat
