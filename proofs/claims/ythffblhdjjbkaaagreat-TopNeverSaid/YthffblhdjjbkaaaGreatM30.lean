/- The writers; A session that gets its bytes piece by piece tells the same; What a session of CBOR tells -/
import Derived.Test.YthffblhdjjbkaaaGreatM8
import Derived.Test.YthffblhdjjbkaaaGreatM22
set_option maxHeartbeats 100000000
set_option maxRecDepth 1000000
open Or (inl inr)
namespace Go.Tru
/-! ### the writers -/
def af.aj (c:af):Bool:=c.bg&&decide (0<c.parts % 2)
def af.filled (c:af):Bool:=if c.bg then !c.aj&&decide (c.parts/2=c.count) else decide (c.parts=c.count)
structure Wr where
 open_:List af
 done:Bool
def Wr.new:Wr:=⟨[],false⟩
def bZ (p:Ev):List UInt8:=
 if p.kind=1 then [if p.yes then 245 else 244]
 else if p.kind=2 then aU (if p.yes then 1 else 0) p.jM.toNat
 else if p.kind=3 then aU 3 p.text.size++p.text.data.toList
 else if p.kind=4 then aU 2 p.text.size++p.text.data.toList
 else [246]
def kC (w:Wr):List UInt8×Int×Wr:=
 match w.open_ with
 | []=>([],14,w)
 |c::r=>if c.aj||(decide (0≤c.count)&& !c.filled) then([],14,w) else(if c.count<0 then [255] else [],0,⟨r,decide (r= [])⟩)
def kg (w:Wr) (p:Ev):List UInt8×Int×Wr:=
 if p.kind=5∨p.kind=6 then
  (if p.count<0 then [UInt8.ofNat (32*(if p.kind=6 then 5 else 4)+31)] else aU (if p.kind=6 then 5 else 4) p.count.toNat,0,⟨⟨decide (p.kind=6),p.count,0⟩::dZ w.open_,w.done⟩)
 else(bZ p,0,⟨dZ w.open_,decide (w.open_= [])⟩)
def bB (w:Wr) (p:Ev):List UInt8×Int×Wr:=
 if w.done then([],14,w)
 else if p.kind=7 then kC w
 else match w.open_ with
  | []=>kg w p
  |c::_=>if c.filled then([],14,w) else if c.bg&& !c.aj&& !decide (p.kind=3) then([],8,w) else kg w p
def gC (first:Nat):List Nat→Nat→List UInt8
 | [],_=>[]
 |n::r,v=>if n=8∨v<256^n then bf first 1++bf v n else gC (first+1) r v
def xM (m:Nat):Nat:=18446744073709551615-m
def fc (m:Nat):List UInt8×Int:=
 if 9223372036854775807<m then([],7)
 else if m<32 then(bf (xM m) 1,0)
 else if m<128 then(bf 208 1++bf (xM m) 1,0)
 else if m<32768 then(bf 209 1++bf (xM m) 2,0)
 else if m<2147483648 then(bf 210 1++bf (xM m) 4,0)
 else(211::bf (xM m) 8,0)
def aW (p:Ev):List UInt8×Int:=
 if p.kind=1 then([if p.yes then 195 else 194],0)
 else if p.kind=2 then(if p.yes then fc p.jM.toNat else if p.jM<128 then(bf p.jM.toNat 1,0) else(gC 204 [1,2,4,8] p.jM.toNat,0))
 else if p.kind=3 then((if p.text.size<32 then bf (160+p.text.size) 1 else gC 217 [1,2,4] p.text.size)++p.text.data.toList,0)
 else if p.kind=4 then(gC 196 [1,2,4] p.text.size++p.text.data.toList,0)
 else([192],0)
def cl (bg:Bool) (n:Int):List UInt8×Int:=
 if n<0∨4294967295<n then([],7)
 else if n<16 then(bf ((if bg then 128 else 144)+n.toNat) 1,0)
 else(gC (if bg then 222 else 220) [2,4] n.toNat,0)
def kh (w:Wr) (p:Ev):List UInt8×Int×Wr:=
 if p.kind=5∨p.kind=6 then
  match cl (decide (p.kind=6)) p.count with
  |(o,e)=>if e≠0 then([],e,w) else(o,0,⟨⟨decide (p.kind=6),p.count,0⟩::dZ w.open_,w.done⟩)
 else match aW p with
  |(o,e)=>if e≠0 then([],e,w) else(o,0,⟨dZ w.open_,decide (w.open_= [])⟩)
def bC (w:Wr) (p:Ev):List UInt8×Int×Wr:=
 if w.done then([],14,w)
 else if p.kind=7 then(match w.open_ with
  | []=>([],14,w)
  |c::r=>if c.filled then([],0,⟨r,decide (r= [])⟩) else([],14,w))
 else match w.open_ with
  | []=>kh w p
  |c::_=>if c.filled then([],14,w) else if c.bg&& !c.aj&& !decide (p.kind=3) then([],8,w) else kh w p
structure Pr where
 num:Bool→Int→List UInt8
 RC:List UInt8→List UInt8
def dM (T:Pr) (p:Ev):List UInt8:=
 if p.kind=1 then(if p.yes then [116,114,117,101] else [102,97,108,115,101])
 else if p.kind=2 then T.num p.yes p.jM
 else if p.kind=3 then 34::T.RC p.text.data.toList++[34]
 else [110,117,108,108]
def lS (w:Wr):List UInt8×Int×Wr:=
 match w.open_ with
 | []=>([],14,w)
 |c::r=>if c.aj then([],14,w) else([if c.bg then 125 else 93],0,⟨r,decide (r= [])⟩)
def ki (T:Pr) (w:Wr) (ahead:List UInt8) (p:Ev):List UInt8×Int×Wr:=
 if p.kind=5∨p.kind=6 then(ahead++[if p.kind=6 then 123 else 91],0,⟨⟨decide (p.kind=6),p.count,0⟩::dZ w.open_,w.done⟩)
 else(ahead++dM T p,0,⟨dZ w.open_,decide (w.open_= [])⟩)
def bF (T:Pr) (w:Wr) (p:Ev):List UInt8×Int×Wr:=
 if w.done then([],14,w)
 else if p.kind=7 then lS w
 else match w.open_ with
  | []=>ki T w [] p
  |c::_=>if c.bg&& !c.aj&& !decide (p.kind=3) then([],8,w) else ki T w (if c.aj then [58] else if 0<c.parts then [44] else []) p
/-! ### the pipe -/
inductive Rd where
 |js (p:Js)
 |cb (p:Cb)
inductive Out where
 |js (w:Wr)
 |cb (w:Wr)
 |pk (w:Wr)
def Rd.step:Rd→Int→List Ev×Int×Rd
 | .js p,b=>((p.step b).1,(p.step b).2.e,.js (p.step b).2)
 | .cb p,b=>((p.step b).1,(p.step b).2.c.e,.cb (p.step b).2)
def Rd.fin:Rd→List Ev×Int×Rd
 | .js p=>(p.fin.1,p.fin.2.e,.js p.fin.2)
 | .cb p=>([],p.c.cK,.cb p)
def Out.step (T:Pr):Out→Ev→List UInt8×Int×Out
 | .js w,p=>((bF T w p).1,(bF T w p).2.1,.js (bF T w p).2.2)
 | .cb w,p=>((bB w p).1,(bB w p).2.1,.cb (bB w p).2.2)
 | .pk w,p=>((bC w p).1,(bC w p).2.1,.pk (bC w p).2.2)
def Out.wr:Out→Wr
 | .js w=>w
 | .cb w=>w
 | .pk w=>w
def Ev.alike (a b:Ev):Bool:=decide (a.kind=b.kind)&&(a.yes==b.yes)&&decide (a.jM=b.jM)&&decide (a.text.data=b.text.data)&&decide (a.count=b.count)
def eh:Nat→List UInt8→Bool
 |_,[]=>true
 |0,_::_=>false
 |n+1,b::r=>
  if b=195 then decide (r.take 1= [169])&&eh n (r.drop 1)
  else if b=240 then decide (r.take 3= [157,132,158])&&eh n (r.drop 3)
  else decide (b=97∨b=34∨b=92∨b=10∨b=1∨b=122)&&eh n r
def CM (v:Ev):Bool:=
 v.alike ar||v.alike (aq v.yes)||(v.alike (ay v.yes v.jM.toNat)&&decide (v.jM.toNat<2147483648))||
 (v.alike (ah v.text)&&decide (v.text.size<32)&&eh v.text.size v.text.data.toList)||
 (v.alike (aN v.count.toNat)&&decide (v.count.toNat<16))||(v.alike (aO v.count.toNat)&&decide (v.count.toNat<16))||v.alike aL
def Out.small (o:Out):Bool:=
 match o.wr.open_ with
 | []=>true
 |c::r=>decide (r.length≤100)&&decide (0≤c.count∧0≤c.parts∧c.parts≤100000)
def Out.may (T:Pr):Out→List Ev→Bool
 |_,[]=>true
 |o,v::l=>CM v&&decide ((o.step T v).2.1=0)&&o.small&&Out.may T (o.step T v).2.2 l
structure aw where
 bG:Rd
 out:Out
 hold:Option St
 cK:Bool
 e:Int
def Out.all (T:Pr):Out→List Ev→List UInt8×Int×Out
 |o,[]=>([],0,o)
 |o,v::l=>if(o.step T v).2.1≠0 then o.step T v else((o.step T v).1++((o.step T v).2.2.all T l).1,((o.step T v).2.2.all T l).2)
def aw.held (h:Option St) (v:Ev):List Ev×Int×Option St:=
 match h with
 |none=>([v],0,none)
 |some s=>((s.step v).1,(s.step v).2.1,some (s.step v).2.2)
def aw.put (T:Pr) (p:aw) (v:Ev):List UInt8×aw:=
 if(aw.held p.hold v).2.1≠0 then([],{p with hold:=(aw.held p.hold v).2.2,e:=(aw.held p.hold v).2.1})
 else((p.out.all T (aw.held p.hold v).1).1,{p with hold:=(aw.held p.hold v).2.2,out:=(p.out.all T (aw.held p.hold v).1).2.2,e:=(p.out.all T (aw.held p.hold v).1).2.1})
def aw.gZ (T:Pr):aw→List Ev→List UInt8×aw
 |p,[]=>([],p)
 |p,v::l=>if(p.put T v).2.e≠0 then p.put T v else((p.put T v).1++((p.put T v).2.gZ T l).1,((p.put T v).2.gZ T l).2)
def aw.write (T:Pr) (p:aw) (l:List Ev) (e:Int):List UInt8×aw:=
 if(p.gZ T l).2.e≠0 then p.gZ T l else((p.gZ T l).1,{(p.gZ T l).2 with e:=e})
def aw.may (p:aw):Int:=if p.e≠0 then p.e else if p.cK then 14 else 0
def aw.step (T:Pr) (p:aw) (b:Int):List UInt8×Int×aw:=
 if p.may≠0 then([],p.may,p)
 else((aw.write T {p with bG:=(p.bG.step b).2.2} (p.bG.step b).1 (p.bG.step b).2.1).1,(aw.write T {p with bG:=(p.bG.step b).2.2} (p.bG.step b).1 (p.bG.step b).2.1).2.e,
  (aw.write T {p with bG:=(p.bG.step b).2.2} (p.bG.step b).1 (p.bG.step b).2.1).2)
def aw.fin (T:Pr) (p:aw):List UInt8×Int×aw:=
 if p.may≠0 then([],p.may,p)
 else((aw.write T {p with bG:=p.bG.fin.2.2,cK:=true} p.bG.fin.1 p.bG.fin.2.1).1,(aw.write T {p with bG:=p.bG.fin.2.2,cK:=true} p.bG.fin.1 p.bG.fin.2.1).2.e,
  (aw.write T {p with bG:=p.bG.fin.2.2,cK:=true} p.bG.fin.1 p.bG.fin.2.1).2)
structure Setup where
 from_:Int
 to:Int
 depth:Int
 jr:Int
 cN:Int
def Setup.right (s:Setup):Bool:=
 decide ((1≤s.from_∧s.from_≤3)∧(1≤s.to∧s.to≤3)∧(1≤s.depth∧s.depth≤16)∧(0≤s.jr∧s.jr≤2000)∧(0≤s.cN∧s.cN≤255))
def aw.new (s:Setup):aw:=
 ⟨if s.from_=1 then .js (Js.new s.depth) else .cb (Cb.new s.depth),if s.to=1 then .js Wr.new else if s.to=2 then .cb Wr.new else .pk Wr.new,
  if s.to=3 then some (St.new s.jr) else none,false,0⟩
def Rd.held:Rd→Int
 | .js p=>if p.e≠0 then 0 else p.l.held+p.maps.length
 | .cb p=>p.c.held
def aw.mH (p:aw):Int:=if p.may≠0 then 0 else p.bG.held+(match p.hold with|none=>0|some s=>s.size)
/-! ### a session -/
def cT (q:List (List UInt8)):Nat:=(q.map List.length).sum
def kj (q:List (List UInt8)) (t:List UInt8):List (List UInt8):=if t= [] then q else q++[t]
def bm:Nat→List (List UInt8)→List UInt8×List (List UInt8)
 |_,[]=>([],[])
 |n,b::r=>if n=0 then([],b::r) else if n<b.length then(b.take n,b.drop n::r) else(b++(bm (n-b.length) r).1,(bm (n-b.length) r).2)
structure ag where
 dj:List UInt8
 q:List (List UInt8)
 header:List UInt8
 bV:Setup
 told:Bool
 p:Option aw
 half:Bool
 ended:Bool
 e:Int
def ag.new:ag:=⟨[],[],[],⟨0,0,0,0,0⟩,false,none,false,false,0⟩
def bT (b:List UInt8):Setup×Int:=
 if¬b.take 2= [84,82].take b.length then(⟨0,0,0,0,0⟩,2)
 else match b with
  |_::_::f::t::d::s1::s2::l::_=>
   let s:Setup:=⟨f.toNat,t.toNat,d.toNat,s1.toNat*256+s2.toNat,l.toNat⟩
   if s.right then(s,0) else(⟨0,0,0,0,0⟩,2)
  |_=>(⟨0,0,0,0,0⟩,3)
def cf (e:Int) (told:Bool):List UInt8:=[if told then 255 else 78,UInt8.ofNat e.toNat]
def ag.end_ (s:ag) (e:Int) (told:Bool):ag:=
 {s with q:=kj s.q (cf e told),ended:=true,e:=e,p:=none,dj:=[]}
def ag.ready (s:ag):Bool:= !s.ended&&decide (cT s.q<64)&&(decide (s.dj≠[])||s.half)
def ag.bj (s:ag):Int:=
 let n:Int:=s.dj.length+cT s.q
 if s.ended then n else n+(match s.p with|none=>0|some p=>p.mH)+2
def ag.once (T:Pr) (s:ag):ag:=
 match s.dj with
 | []=>
  match s.told,s.p with
  |true,some p=>match p.fin T with
   |(t,e,p')=>ag.end_ {s with q:=kj s.q t,p:=some p'} e true
  |_,_=>s.end_ 3 false
 |b::r=>
  match s.told,s.p with
  |true,some p=>match p.step T b.toNat with
   |(t,e,p')=>if e≠0 then ag.end_ {s with dj:=r,q:=kj s.q t,p:=some p'} e true else{s with dj:=r,q:=kj s.q t,p:=some p'}
  |_,_=>match bT (s.header++[b]) with
   |(st,e)=>if e=3 then{s with dj:=r,header:=s.header++[b]}
    else if e=0 then{s with dj:=r,header:=s.header++[b],bV:=st,told:=true,p:=some (aw.new st),q:=kj s.q [75]}
    else ag.end_ {s with dj:=r,header:=s.header++[b]} e false
def aw.gD (T:Pr):aw→List Ev→Bool
 |_,[]=>true
 |p,v::l=>decide ((aw.held p.hold v).2.1=0)&&p.out.may T (aw.held p.hold v).1&&aw.gD T (p.put T v).2 l
def Rd.O5:Rd→Bool
 | .js p=>decide (p.l.s.length≤1000000)
 | .cb _=>true
def aw.Ww (T:Pr) (p:aw) (l:List Ev):Bool:=p.gD T l&&l.all (fun v=>decide (v.text.size≤1000000))&&decide (l.length≤100000)&&decide ((p.gZ T l).1.length≤900000)
def aw.fE (T:Pr) (p:aw):Option UInt8→Bool
 |none=>decide (p.may=0)&&aw.Ww T {p with bG:=p.bG.fin.2.2,cK:=true} p.bG.fin.1&&decide (0≤p.bG.fin.2.1∧p.bG.fin.2.1≤15)
 |some b=>decide (p.may=0)&&aw.Ww T {p with bG:=(p.bG.step b.toNat).2.2} (p.bG.step b.toNat).1&&(p.bG.step b.toNat).2.2.O5&&decide (0≤(p.bG.step b.toNat).2.1∧(p.bG.step b.toNat).2.1≤15)
def GA:List (List UInt8):=[[84,82,1,3,3,0,50,0],[84,82,2,1,8,7,208,0],[84,82,2,2,8,7,208,0],[84,82,2,3,8,7,208,0]]
def ag.fE (T:Pr) (s:ag) (x:Option UInt8):Bool:=
 match s.told,s.p with
 |true,some p=>p.fE T x
 |_,_=>match x with
  |none=>false
  |some b=> !s.told&&(decide ((bT (s.header++[b])).2=3)||GA.any (fun x=>decide (x=s.header++[b])))
def ag.run (T:Pr) (may:Int):Nat→ag→Option (Nat×ag)
 |0,s=>some (0,s)
 |n+1,s=>if s.ready then
     (if s.fE T s.dj.head?=false∨may<(s.once T).bj then none else match(s.once T).run T may n with
      |none=>none
      |some (k,t)=>some (k+1,t))
  else some (0,s)
def ag.feed (s:ag) (l:List UInt8) (room:Int):Nat×ag:=
 if s.half||s.ended then(0,s)
 else
  let n:=min (min l.length room.toNat) (64-s.dj.length)
  (n,{s with dj:=s.dj++l.take n})
def ag.one (T:Pr) (s:ag) (x:Option UInt8):List UInt8×ag:=
 ((ag.once T {s with dj:=x.toList,q:=[]}).q.flatten,{ag.once T {s with dj:=x.toList,q:=[]} with q:=[],dj:=[]})
theorem eO (q:List (List UInt8)) (t:List UInt8):(kj q t).flatten=q.flatten++t:=by
 unfold kj;split
 ·rename_i h;simp[h]
 ·simp
theorem jC (q:List (List UInt8)):cT q=q.flatten.length:=by unfold cT;rw[List.length_flatten]
theorem vH: ∀ (q:List (List UInt8)) (n:Nat),(bm n q).1=q.flatten.take n∧(bm n q).2.flatten=q.flatten.drop n
 | [],n=>by simp[bm]
 |b::r,n=>by
  have ih:=vH r (n-b.length);unfold bm;split
  ·rename_i h;subst h;simp
  ·split
   ·rename_i h1 h2;simp only[List.flatten_cons];rw[List.take_append_of_le_length (by omega),List.drop_append_of_le_length (by omega)];exact⟨rfl,rfl⟩
   ·rename_i h1 h2;simp only[List.flatten_cons];rw[List.take_append,List.drop_append,ih.1,ih.2,List.take_of_length_le (show b.length≤n by omega),List.drop_of_length_le (show b.length≤n by omega)];simp
theorem CN (T:Pr) (s:ag) (he:s.ended=false):(s.once T).q.flatten=s.q.flatten++(s.one T s.dj.head?).1∧(s.once T).dj=(bif (s.one T s.dj.head?).2.ended then [] else s.dj.tail)∧{s.once T with q:=[],dj:=[]}=(s.one T s.dj.head?).2:=by
 obtain⟨dj,q,header,bV,told,p,half,ended,e⟩:=s;simp only at he;subst he;cases dj with
 |nil=>
  cases told with
  |false=>simp[ag.one,ag.once,ag.end_,eO]
  |true=>
   cases p with
   |none=>simp[ag.one,ag.once,ag.end_,eO]
   |some p=>simp[ag.one,ag.once,ag.end_,eO]
 |cons b r=>
  cases told with
  |false=>
   simp only[ag.one,ag.once,List.head?_cons,Option.toList_some];generalize bT (header++[b])=g;obtain⟨st,e'⟩:=g;simp only[];by_cases h3:e'=3
   ·simp[h3]
   ·by_cases h0:e'=0
    ·simp[h0,eO]
    ·simp[h3,h0,ag.end_,eO]
  |true=>
   cases p with
   |none=>
    simp only[ag.one,ag.once,List.head?_cons,Option.toList_some];generalize bT (header++[b])=g;obtain⟨st,e'⟩:=g;simp only[];by_cases h3:e'=3
    ·simp[h3]
    ·by_cases h0:e'=0
     ·simp[h0,eO]
     ·simp[h3,h0,ag.end_,eO]
   |some p=>
    simp only[ag.one,ag.once,List.head?_cons,Option.toList_some];generalize aw.step T p b.toNat=g;obtain⟨t,e',p'⟩:=g;simp only[];by_cases h0:e'=0
    ·simp[h0,eO]
    ·simp[h0,ag.end_,eO]
theorem od (T:Pr) (s:ag):(s.one T none).2.ended=true:=by obtain⟨dj,q,header,bV,told,p,half,ended,e⟩:=s;cases told<;>cases p<;>simp[ag.one,ag.once,ag.end_]
theorem oe (T:Pr) (s:ag) (x:Option UInt8) (h:Bool):({s with half:=h}:ag).one T x=((s.one T x).1,{(s.one T x).2 with half:=h}):=by
 obtain⟨dj,q,header,bV,told,p,half,ended,e⟩:=s;cases x with
 |none=>cases told<;>cases p<;>simp[ag.one,ag.once,ag.end_]
 |some b=>
  cases told with
  |false=>
   simp only[ag.one,ag.once,Option.toList_some];generalize bT (header++[b])=g;obtain⟨st,e'⟩:=g;simp only[];by_cases h3:e'=3
   ·simp[h3]
   ·by_cases h0:e'=0
    ·simp[h0]
    ·simp[h3,h0,ag.end_]
  |true=>
   cases p with
   |none=>
    simp only[ag.one,ag.once,Option.toList_some];generalize bT (header++[b])=g;obtain⟨st,e'⟩:=g;simp only[];by_cases h3:e'=3
    ·simp[h3]
    ·by_cases h0:e'=0
     ·simp[h0]
     ·simp[h3,h0,ag.end_]
   |some p=>
    simp only[ag.one,ag.once,Option.toList_some];generalize aw.step T p b.toNat=g;obtain⟨t,e',p'⟩:=g;simp only[];by_cases h0:e'=0
    ·simp[h0]
    ·simp[h0,ag.end_]
theorem xN (T:Pr) (s:ag) (x:Option UInt8):(s.one T x).2.half=s.half:=by have h:=oe T s x s.half;have h2:({s with half:=s.half}:ag)=s:=rfl;rw[h2] at h;rw[h]
def ag.fG (T:Pr):List UInt8→ag→List UInt8
 | [],s=>(s.one T none).1
 |b::r,s=>(s.one T (some b)).1++(if(s.one T (some b)).2.ended then [] else ag.fG T r (s.one T (some b)).2)
def ag.iZ (T:Pr):List UInt8→ag→Prop
 | [],s=>s.fE T none=true∧(s.one T none).1.length≤30000
 |b::r,s=>s.fE T (some b)=true∧(s.one T (some b)).1.length≤30000∧(s.one T (some b)).2.bj≤3000∧((s.one T (some b)).2.ended=false→ag.iZ T r (s.one T (some b)).2)
theorem vI (T:Pr): ∀ (l:List UInt8) (s:ag) (h:Bool),ag.fG T l {s with half:=h}=ag.fG T l s
 | [],s,h=>by simp only[ag.fG,oe]
 |b::r,s,h=>by simp only[ag.fG,oe];rw[vI T r _ h]
theorem vJ (T:Pr): ∀ (l:List UInt8) (s:ag) (h:Bool),ag.iZ T l s→ag.iZ T l {s with half:=h}
 | [],s,h,k=>by simp only[ag.iZ,oe] at k⊢;exact⟨k.1,k.2⟩
 |b::r,s,h,k=>by simp only[ag.iZ,oe] at k⊢;exact⟨k.1,k.2.1,k.2.2.1,fun he=>vJ T r _ h (k.2.2.2 he)⟩
theorem pT (T:Pr) (l:List UInt8) (s:ag) (i:List UInt8) (q:List (List UInt8)):ag.fG T l {s with dj:=i,q:=q}=ag.fG T l s:=by cases l<;>rfl
theorem pU (T:Pr) (l:List UInt8) (s:ag) (i:List UInt8) (q:List (List UInt8)):ag.iZ T l {s with dj:=i,q:=q}↔ag.iZ T l s:=by cases l<;>exact Iff.rfl
def ag.left (T:Pr) (s:ag) (more:List UInt8):List UInt8:=if s.ended then [] else s.fG T (s.dj++more)
structure ag.Ok (T:Pr) (s:ag) (more:List UInt8):Prop where
 Jt:s.ended=false→s.iZ T (s.dj++more)
 room:s.dj.length≤64
 wait:s.q.flatten.length≤31000
 own:({s with q:=[],dj:=[]}:ag).bj≤3000
 half:s.half=true→s.ended=false→more= []
theorem Lc {T:Pr} {s:ag} {more:List UInt8} (h:s.Ok T more) (hr:s.ready=true):s.q.flatten++s.left T more=(s.once T).q.flatten++(s.once T).left T more∧(s.once T).Ok T more∧((s.once T).ended=true∨(s.once T).dj.length+1=s.dj.length)∧(s.once T).bj≤40000∧s.fE T s.dj.head?=true:=by
 simp only[ag.ready,Bool.and_eq_true,Bool.not_eq_true',decide_eq_true_eq,Bool.or_eq_true] at hr;obtain⟨⟨he,hq⟩,hi⟩:=hr;have hl:=h.Jt he;obtain⟨o1,o2,o3⟩:=CN T s he;have ja:(s.once T).ended=(s.one T s.dj.head?).2.ended:=by rw[←o3]
 have ZG:(s.once T).half=s.half:=by have:=xN T s s.dj.head?;rw[←o3] at this;exact this
 rw[jC] at hq;have lT:(s.once T).bj≤(s.once T).dj.length+(s.once T).q.flatten.length+(s.one T s.dj.head?).2.bj:=by rw[←o3];unfold ag.bj;simp only[jC,List.length_nil,List.flatten_nil];split<;>omega
 have vK: ∀t:List UInt8,(s.one T s.dj.head?).2.fG T t=(s.once T).fG T t:=fun t=>by rw[←o3];exact pT T t (s.once T) [] []
 have sh: ∀t:List UInt8,(s.one T s.dj.head?).2.iZ T t↔(s.once T).iZ T t:=fun t=>by rw[←o3];exact pU T t (s.once T) [] []
 cases kq:s.dj with
 |nil=>
  have hm:more= []:=by
   rcases hi with h1|h1
   ·exact absurd kq h1
   ·exact h.half h1 he
  subst hm;rw[kq] at o1 o2 o3 ja lT vK sh hl;simp only[List.head?_nil,List.append_nil,List.tail_nil,Bool.cond_self] at o1 o2 o3 ja lT hl;rw[od] at ja;have nN:(s.one T none).2.bj≤0:=by unfold ag.bj;rw[od];simp[ag.one,cT]
  obtain⟨UN,ako⟩:=hl;refine⟨?_,⟨fun h'=>absurd (ja.symm.trans h') (by decide),by rw[o2];simp,by rw[o1,List.length_append];omega,by rw[o3];omega,fun _ h'=>absurd (ja.symm.trans h') (by decide)⟩,inl ja,?_,UN⟩
  ·unfold ag.left;rw[if_neg (by simp[he]),if_pos ja,o1,kq];simp[ag.fG]
  ·rw[o1,o2] at lT;simp only[List.length_append,List.length_nil] at lT;omega
 |cons b r=>
  rw[kq] at o1 o2 o3 ja lT vK sh hl;simp only[List.head?_cons,List.tail_cons,List.cons_append] at o1 o2 o3 ja lT vK sh hl;obtain⟨lf,l1,l2,l3⟩:=hl;have dH:=h.room;rw[kq,List.length_cons] at dH;have S5:(s.once T).dj.length≤r.length:=by rw[o2];cases(s.one T (some b)).2.ended<;>simp
  refine⟨?_,⟨fun h'=> ?_,by omega,by rw[o1,List.length_append];omega,by rw[o3];exact l2,fun h1 h2=>h.half (by rw[←ZG];exact h1) he⟩,?_,?_,lf⟩
  ·unfold ag.left;rw[if_neg (by simp[he]),o1,kq,ja];simp only[List.cons_append,ag.fG];cases hx:(s.one T (some b)).2.ended with
   |true=>simp
   |false=>simp only[Bool.false_eq_true,if_false];rw[vK,o2,hx];simp
  ·rw[ja] at h';have:=l3 h';rw[sh] at this;rw[o2,h'];simpa using this
  ·cases hx:(s.one T (some b)).2.ended with
   |true=>exact inl (by rw[ja,hx])
   |false=>right;rw[o2,hx];simp
  ·rw[o1] at lT;simp only[List.length_append] at lT;omega
theorem CO {T:Pr} {more:List UInt8}: ∀ (n:Nat) (s:ag),s.Ok T more→∃k t,s.run T 40000 n=some (k,t)∧s.q.flatten++s.left T more=t.q.flatten++t.left T more∧t.Ok T more∧t.dj.length≤s.dj.length∧(s.ended=true→t=s)∧(0<n→s.ready=true→t.ended=true∨t.dj.length<s.dj.length)
 |0,s,h=>⟨0,s,rfl,rfl,h,Nat.le_refl _,fun _=>rfl,fun h=>absurd h (by decide)⟩
 |n+1,s,h=>by
  cases hr:s.ready with
  |false=>exact⟨0,s,by simp[ag.run,hr],rfl,h,Nat.le_refl _,fun _=>rfl,fun _ h=>absurd h (by decide)⟩
  |true=>
   obtain⟨h1,h2,h3,h4,h5⟩:=Lc h hr;obtain⟨k,t,g1,g2,g3,g4,g5,g6⟩:=CO n (s.once T) h2;have he:s.ended=false:=by simp only[ag.ready,Bool.and_eq_true,Bool.not_eq_true'] at hr;exact hr.1.1
   refine⟨k+1,t,?_,h1.trans g2,g3,?_,fun h=>absurd (he.symm.trans h) (by decide),fun _ _=> ?_⟩
   ·unfold ag.run;rw[if_pos hr,if_neg (by rw[h5];simp;omega),g1]
   ·rcases h3 with h3|h3
    ·rw[g5 h3] at*;have:=(CN T s he).2.1;rw[this];cases(s.one T s.dj.head?).2.ended<;>simp
    ·omega
   ·rcases h3 with h3|h3
    ·left;rw[g5 h3];exact h3
    ·right;omega
def ag.qN (T:Pr) (s:ag) (more:List UInt8):Nat:=s.q.flatten.length+(s.left T more).length+s.dj.length+more.length+(if s.ended then 0 else 1)
def ag.shut (s:ag) (more:List UInt8):ag:=if more= []∧s.half=false∧s.ended=false then{s with half:=true} else s
theorem yN {T:Pr} {s:ag} {more:List UInt8} (h:s.Ok T more) (piece:Nat) (hp:1≤piece) (room:Int) (hr:64≤room):let f:=s.feed (more.take piece) room;f.1≤(more.take piece).length∧s.q.flatten++s.left T more=f.2.q.flatten++f.2.left T (more.drop f.1)∧f.2.Ok T (more.drop f.1)∧f.2.ended=s.ended∧f.2.q=s.q∧f.2.dj.length+(more.drop f.1).length≤s.dj.length+more.length∧(s.ended=false→more≠[]→f.2.dj≠[]):=by
 simp only[];unfold ag.feed;cases hh:(s.half||s.ended) with
 |true=>simp only[if_true,List.drop_zero];refine⟨Nat.zero_le _,trivial,h,trivial,trivial,Nat.le_refl _,fun h1 h2=> ?_⟩;rw[h1,Bool.or_false] at hh;exact absurd (h.half hh h1) h2
 |false=>
  simp only[Bool.or_eq_false_iff] at hh;obtain⟨hf,he⟩:=hh;simp only[Bool.false_eq_true,if_false];generalize hn:min (min (more.take piece).length room.toNat) (64-s.dj.length)=n;have ij:n≤(more.take piece).length:=by omega
  have dH:=h.room;have ju:n≤64-s.dj.length:=by omega
  have hnp:n≤piece∧n≤more.length:=by rw[List.length_take] at ij;omega
  have Ld:(more.take piece).take n=more.take n:=by rw[List.take_take,Nat.min_eq_left hnp.1]
  rw[Ld];have dq:s.dj++more.take n++more.drop n=s.dj++more:=by rw[List.append_assoc,List.take_append_drop]
  refine⟨ij,?_,⟨fun _=> ?_,?_,h.wait,h.own,fun h1=>absurd (hf.symm.trans h1) (by decide)⟩,trivial,trivial,?_,fun _ hm=> ?_⟩
  ·show s.q.flatten++(if s.ended=true then [] else s.fG T (s.dj++more))=s.q.flatten++(if s.ended=true then [] else ag.fG T (s.dj++more.take n++more.drop n) {s with dj:=s.dj++more.take n});rw[if_neg (by simp[he]),if_neg (by simp[he]),dq];exact congrArg _ (pT T (s.dj++more) s (s.dj++more.take n) s.q).symm
  ·simp only[dq];rw[pU T (s.dj++more) s (s.dj++more.take n) s.q];exact h.Jt he
  ·simp only[List.length_append,List.length_take];omega
  ·simp only[List.length_append,List.length_take,List.length_drop];omega
  ·simp only[ne_eq,List.append_eq_nil_iff,List.take_eq_nil_iff,not_and];intro h1 h2;have:0<more.length:=List.length_pos_iff.2 hm;rw[h1] at hn;simp only[List.length_nil,List.length_take] at hn;rcases h2 with h2|h2
   ·omega
   ·exact hm h2
theorem yO {T:Pr} {s:ag} {more:List UInt8} (h:s.Ok T more):(s.shut more).q=s.q∧(s.shut more).left T more=s.left T more∧(s.shut more).Ok T more∧(s.shut more).ended=s.ended∧(s.shut more).dj=s.dj∧(s.ended=false→more= []→(s.shut more).half=true):=by
 unfold ag.shut;split
 ·rename_i hc;refine⟨rfl,?_,⟨fun h'=>vJ T _ _ true (h.Jt h'),h.room,h.wait,h.own,fun _ _=>hc.1⟩,rfl,rfl,fun _ _=>rfl⟩;unfold ag.left;rw[vI]
 ·rename_i hc;refine⟨rfl,rfl,h,rfl,rfl,fun h1 h2=> ?_⟩;cases hh:s.half with
  |true=>rfl
  |false=>exact absurd ⟨h2,hh,h1⟩ hc
theorem GB {T:Pr} {s:ag} {more:List UInt8} (h:s.Ok T more) (piece:Nat) (hp:1≤piece) (room:Int) (hr:64≤room) (fX: ¬ (s.ended=true∧s.q.flatten= [])):let f:=s.feed (more.take piece) room;let m:=more.drop f.1;∃k t,(f.2.shut m).run T 40000 16=some (k,t)∧t.Ok T m∧s.q.flatten++s.left T more=(bm piece t.q).1++((bm piece t.q).2.flatten++({t with q:=(bm piece t.q).2}:ag).left T m)∧({t with q:=(bm piece t.q).2}:ag).Ok T m∧({t with q:=(bm piece t.q).2}:ag).qN T m<s.qN T more:=by
 simp only[];obtain⟨f1,f2,f3,f4,f5,f6,f7⟩:=yN h piece hp room hr;generalize s.feed (more.take piece) room=f at f1 f2 f3 f4 f5 f6 f7;obtain⟨n,s1⟩:=f;simp only at f1 f2 f3 f4 f5 f6 f7⊢;generalize hmd:more.drop n=m at f2 f3 f6;obtain⟨u1,u2,u3,u4,u5,u6⟩:=yO f3;generalize s1.shut m=s2 at u1 u2 u3 u4 u5 u6;obtain⟨k,t,r1,r2,r3,r4,r5,r6⟩:=CO 16 s2 u3;obtain⟨q1,q2⟩:=vH t.q piece;have vK:({t with q:=(bm piece t.q).2}:ag).left T m=t.left T m:=by unfold ag.left;rw[pT T (t.dj++m) t t.dj (bm piece t.q).2]
 have lA:s.q.flatten++s.left T more=t.q.flatten++t.left T m:=by rw[f2,←u1,←u2,r2]
 refine⟨k,t,r1,r3,?_,⟨fun h'=> ?_,r3.room,?_,r3.own,r3.half⟩,?_⟩
 ·rw[vK,q1,q2,lA,←List.append_assoc,List.take_append_drop]
 ·rw[pU T (t.dj++m) t t.dj (bm piece t.q).2];exact r3.Jt h'
 ·simp only[q2,List.length_drop];have:=r3.wait;omega
 ·have hlen:=congrArg List.length lA;simp only[List.length_append] at hlen;unfold ag.qN;simp only[vK,q2,List.length_drop];rw[u5] at r4;have ja:t.ended=false→s.ended=false:=fun ht=>by
   cases hs:s.ended with
   |false=>rfl
   |true=>rw[r5 (by rw[u4,f4,hs]),u4,f4,hs] at ht;exact absurd ht (by decide)
  by_cases hq:t.q.flatten= []
  ·have Wx:t.q.flatten.length=0:=by rw[hq];rfl
   cases hs:s.ended with
   |true=>have ht:=r5 (by rw[u4,f4,hs]);rw[ht,u1,f5] at hq;exact absurd ⟨hs,hq⟩ fX
   |false=>
    cases ht:t.ended with
    |true=>simp only[if_true,Bool.false_eq_true,if_false];omega
    |false=>
     simp only[Bool.false_eq_true,if_false];have fD:s2.ended=false:=by rw[u4,f4,hs]
     by_cases GC:s2.ready=true
     ·rcases r6 (by decide) GC with h1|h1
      ·exact absurd (ht.symm.trans h1) (by decide)
      ·rw[u5] at h1;omega
     ·exfalso;have hnr:s2.ready=false:=by simpa using GC
      have oh:s2.run T 40000 16=some (0,s2):=by show ag.run T 40000 (15+1) s2=_;unfold ag.run;rw[if_neg GC]
      rw[oh] at r1;simp only[Option.some.injEq,Prod.mk.injEq] at r1;obtain⟨-,rfl⟩:=r1;obtain⟨S6,Rl⟩:s2.dj= []∧s2.half=false:=by
       unfold ag.ready at hnr;rw[fD,jC,Wx] at hnr;cases hi:s2.dj with
       |cons a b=>simp[hi] at hnr
       |nil=>
        cases hh:s2.half with
        |true=>simp[hh] at hnr
        |false=>exact⟨rfl,rfl⟩
      have hm:m= []:=by
       cases KT:more with
       |nil=>rw[←hmd,KT,List.drop_nil]
       |cons a b=>exfalso;exact f7 hs (by rw[KT];simp) (by rw[←u5];exact S6)
      rw[u6 (by rw[f4,hs]) hm] at Rl;exact absurd Rl (by decide)
  ·have:0<t.q.flatten.length:=List.length_pos_iff.2 hq;have Cf:t.q.flatten.length-piece+1≤t.q.flatten.length:=by omega
   cases ht:t.ended with
   |true=>cases hs:s.ended<;>simp only[if_true,Bool.false_eq_true,if_false]<;>omega
   |false=>rw[ja ht];simp only[Bool.false_eq_true,if_false];omega
def gO (T:Pr):List UInt8→aw→List UInt8
 | [],p=>(p.fin T).1++cf (p.fin T).2.1 true
 |b::r,p=>(p.step T b.toNat).1++(if(p.step T b.toNat).2.1≠0 then cf (p.step T b.toNat).2.1 true else gO T r (p.step T b.toNat).2.2)
def sj (T:Pr):List UInt8→aw→Prop
 | [],p=>p.fE T none=true∧(p.fin T).1.length≤29000
 |b::r,p=>p.fE T (some b)=true∧(p.step T b.toNat).1.length≤29000∧((p.step T b.toNat).2.1=0→(p.step T b.toNat).2.2.mH≤2990∧sj T r (p.step T b.toNat).2.2)
theorem O6 (t:List UInt8):(kj [] t).flatten=t:=by rw[eO];rfl
theorem pz (T:Pr) {s:ag} {p:aw} (ht:s.told=true) (hp:s.p=some p):(s.one T none).1=(p.fin T).1++cf (p.fin T).2.1 true:=by obtain⟨dj,q,header,bV,told,p',half,ended,e⟩:=s;simp only at ht hp;subst ht hp;simp[ag.one,ag.once,ag.end_,eO]
theorem qO (T:Pr) {s:ag} {p:aw} (ht:s.told=true) (hp:s.p=some p) (b:UInt8) (h:(p.step T b.toNat).2.1≠0):(s.one T (some b)).1=(p.step T b.toNat).1++cf (p.step T b.toNat).2.1 true∧(s.one T (some b)).2.ended=true:=by obtain⟨dj,q,header,bV,told,p',half,ended,e⟩:=s;simp only at ht hp;subst ht hp;simp[ag.one,ag.once,ag.end_,eO,h]
theorem th (T:Pr) {s:ag} {p:aw} (ht:s.told=true) (hp:s.p=some p) (b:UInt8) (h:(p.step T b.toNat).2.1=0):(s.one T (some b)).1=(p.step T b.toNat).1∧(s.one T (some b)).2={s with dj:=[],q:=[],p:=some (p.step T b.toNat).2.2}:=by obtain⟨dj,q,header,bV,told,p',half,ended,e⟩:=s;simp only at ht hp;subst ht hp;simp[ag.one,ag.once,O6,h]
theorem vL (T:Pr): ∀ (l:List UInt8) (s:ag) (p:aw),s.told=true→s.p=some p→s.ended=false→s.fG T l=gO T l p
 | [],s,p,ht,hp,_=>by simp only[ag.fG,gO];exact pz T ht hp
 |b::r,s,p,ht,hp,he=>by
  simp only[ag.fG,gO];by_cases h:(p.step T b.toNat).2.1=0
  ·obtain⟨h1,h2⟩:=th T ht hp b h;rw[h1,h2,if_neg (by simp[he]),if_neg (by simp[h])];rw[vL T r {s with dj:=[],q:=[],p:=some (p.step T b.toNat).2.2} _ ht rfl he]
  ·obtain⟨h1,h2⟩:=qO T ht hp b h;rw[h1,if_pos h2,if_pos h,List.append_nil]
def GD:Option aw→Int
 |none=>0
 |some p=>p.mH
theorem tj {s:ag} (h1:s.dj= []) (h2:s.q= []):s.bj=if s.ended then 0 else GD s.p+2:=by obtain⟨dj,q,header,bV,told,p',half,ended,e⟩:=s;simp only at h1 h2;subst h1 h2;cases p'<;>cases ended<;>simp[ag.bj,cT,GD]
theorem vM (T:Pr): ∀ (l:List UInt8) (s:ag) (p:aw),s.told=true→s.p=some p→s.ended=false→sj T l p→s.iZ T l
 | [],s,p,ht,hp,_,h=>by simp only[ag.iZ,sj] at h⊢;rw[pz T ht hp];refine⟨by unfold ag.fE;rw[ht,hp];exact h.1,?_⟩;have:=h.2;simp only[List.length_append,cf,List.length_cons,List.length_nil];omega
 |b::r,s,p,ht,hp,he,h=>by
  simp only[ag.iZ,sj] at h⊢;obtain⟨lf,l1,l2⟩:=h;refine⟨by unfold ag.fE;rw[ht,hp];exact lf,?_⟩;by_cases h:(p.step T b.toNat).2.1=0
  ·obtain⟨h1,h2⟩:=th T ht hp b h;obtain⟨l3,l4⟩:=l2 h;refine⟨by rw[h1];omega,?_,fun _=> ?_⟩
   ·rw[h2];refine Int.le_trans (Int.le_of_eq (tj rfl rfl)) ?_;simp only[he,Bool.false_eq_true,if_false,GD];omega
   ·rw[h2];exact vM T r {s with dj:=[],q:=[],p:=some (p.step T b.toNat).2.2} _ ht rfl he l4
  ·obtain⟨h1,h2⟩:=qO T ht hp b h;refine⟨?_,?_,fun h3=>absurd (h2.symm.trans h3) (by decide)⟩
   ·rw[h1];simp only[List.length_append,cf,List.length_cons,List.length_nil];omega
   ·refine Int.le_trans (Int.le_of_eq (tj rfl rfl)) ?_;rw[h2];simp
/-! ### the beginning -/
def mf (to:Nat):List UInt8:=[84,82,2,UInt8.ofNat to,8,7,208,0]
def nJ (to:Nat):Setup:=⟨2,to,8,2000,0⟩
def ag.begun (h:List UInt8):ag:=⟨[],[],h,⟨0,0,0,0,0⟩,false,none,false,false,0⟩
def ag.zP (to:Nat):ag:=⟨[],[],mf to,nJ to,true,some (aw.new (nJ to)),false,false,0⟩
theorem Le (T:Pr) {to:Nat} (ht:to=1∨to=2∨to=3) (k:Nat) (hk:k<7) (b:UInt8) (hb:(mf to)[k]? =some b):(ag.begun ((mf to).take k)).one T (some b)=([],ag.begun ((mf to).take (k+1))):=by
 rcases ht with rfl|rfl|rfl<;>rcases(show k=0∨k=1∨k=2∨k=3∨k=4∨k=5∨k=6 by omega) with rfl|rfl|rfl|rfl|rfl|rfl|rfl<;>(simp only[mf,List.getElem?_cons_zero,List.getElem?_cons_succ,Option.some.injEq] at hb;subst hb;rfl)
theorem vN (T:Pr) {to:Nat} (ht:to=1∨to=2∨to=3) (k:Nat) (hk:k<8) (b:UInt8) (hb:(mf to)[k]? =some b):(ag.begun ((mf to).take k)).fE T (some b)=true:=by
 rcases ht with rfl|rfl|rfl<;>rcases(show k=0∨k=1∨k=2∨k=3∨k=4∨k=5∨k=6∨k=7 by omega) with rfl|rfl|rfl|rfl|rfl|rfl|rfl|rfl<;>(simp only[mf,List.getElem?_cons_zero,List.getElem?_cons_succ,Option.some.injEq] at hb;subst hb;rfl)
theorem GF (T:Pr) {to:Nat} (ht:to=1∨to=2∨to=3):(ag.begun ((mf to).take 7)).one T (some 0)=([75],ag.zP to):=by rcases ht with rfl|rfl|rfl<;>rfl
theorem tl (T:Pr) {to:Nat} (ht:to=1∨to=2∨to=3) (l:List UInt8): ∀j k,j+k=7→(ag.begun ((mf to).take k)).fG T ((mf to).drop k++l)=75::gO T l (aw.new (nJ to))∧(sj T l (aw.new (nJ to))→(ag.begun ((mf to).take k)).iZ T ((mf to).drop k++l))
 |0,k,h=>by
  obtain rfl:k=7:=by omega
  have hd:(mf to).drop 7++l=0::l:=rfl;rw[hd];simp only[ag.fG,ag.iZ,GF T ht];refine⟨?_,fun hp=>⟨vN T ht 7 (by decide) 0 rfl,by simp,?_,fun _=> ?_⟩⟩
  ·rw[if_neg (by simp[ag.zP]),vL T l (ag.zP to) _ rfl rfl rfl];rfl
  ·rcases ht with rfl|rfl|rfl<;>decide
  ·exact vM T l (ag.zP to) _ rfl rfl rfl hp
 |j+1,k,h=>by
  have hk:k<(mf to).length:=by simp[mf];omega
  obtain⟨i1,i2⟩:=tl T ht l j (k+1) (by omega);have ho:=Le T ht k (by omega) (mf to)[k] (List.getElem?_eq_getElem hk);rw[List.drop_eq_getElem_cons hk,List.cons_append];simp only[ag.fG,ag.iZ,ho];refine⟨?_,fun hp=>⟨vN T ht k (by omega) _ (List.getElem?_eq_getElem hk),by simp,?_,fun _=>i2 hp⟩⟩
  ·rw[if_neg (by simp[ag.begun]),i1];rfl
  ·simp[ag.begun,ag.bj,cT]
/-! ### the pipe -/
theorem dJ (T:Pr) {o:Out} {v:Ev} (l:List Ev) (h:(o.step T v).2.1=0):o.all T (v::l)=((o.step T v).1++((o.step T v).2.2.all T l).1,((o.step T v).2.2.all T l).2):=by rw[Out.all];exact if_neg (by simp[h])
theorem jb (T:Pr) {o:Out} {v:Ev} (l:List Ev) (h:(o.step T v).2.1≠0):o.all T (v::l)=o.step T v:=by rw[Out.all];exact if_pos h
theorem vO (T:Pr): ∀ (a b:List Ev) (o:Out),(o.all T a).2.1=0→o.all T (a++b)=((o.all T a).1++((o.all T a).2.2.all T b).1,((o.all T a).2.2.all T b).2)
 | [],b,o,_=>by simp[Out.all]
 |v::a,b,o,h=>by
  by_cases k:(o.step T v).2.1=0
  ·have h2:((o.step T v).2.2.all T a).2.1=0:=by rw[dJ T a k] at h;exact h
   rw[List.cons_append,dJ T (a++b) k,dJ T a k,vO T a b _ h2];simp only[List.append_assoc]
  ·rw[jb T a k] at h;exact absurd h k
theorem tp (T:Pr): ∀ (a b:List Ev) (o:Out),(o.all T a).2.1≠0→o.all T (a++b)=o.all T a
 | [],b,o,h=>absurd rfl h
 |v::a,b,o,h=>by
  by_cases k:(o.step T v).2.1=0
  ·have h2:((o.step T v).2.2.all T a).2.1≠0:=by rw[dJ T a k] at h;exact h
   rw[List.cons_append,dJ T (a++b) k,dJ T a k,tp T a b _ h2]
  ·rw[List.cons_append,jb T _ k,jb T _ k]
theorem Lf (T:Pr) {a b:List Ev} {o:Out} (h:(o.all T (a++b)).2.1=0):(o.all T a).2.1=0:=by
 by_cases k:(o.all T a).2.1=0
 ·exact k
 ·rw[tp T a b o k] at h;exact h
def aw.ns (p:aw):Prop:=p.hold=none∨∃s,p.hold=some s∧s.open_= []∧s.e=0
theorem qP {h:Option St} (hh:h=none∨∃s,h=some s∧s.open_= []∧s.e=0) {v:Ev} (hv:v.loose=false):aw.held h v=([v],0,h):=by
 rcases hh with rfl|⟨s,rfl,h1,h2⟩
 ·rfl
 ·simp[aw.held,St.step,h1,h2,hv]
theorem nt (T:Pr): ∀ (l:List Ev) (p:aw),p.e=0→p.ns→(∀v∈l,v.loose=false)→p.gZ T l=((p.out.all T l).1,{p with out:=(p.out.all T l).2.2,e:=(p.out.all T l).2.1})
 | [],p,h,_,_=>by obtain⟨i,o,hd,ov,e⟩:=p;simp only at h;subst h;rfl
 |v::l,p,h,hp,hl=>by
  have hv:=hl v ms;have lB:p.put T v=((p.out.step T v).1,{p with out:=(p.out.step T v).2.2,e:=(p.out.step T v).2.1}):=by
   simp only[aw.put,qP hp hv,Out.all];by_cases hs:(p.out.step T v).2.1=0
   ·simp[hs]
   ·simp[hs]
  rw[aw.gZ,lB];by_cases hs:(p.out.step T v).2.1=0
  ·have hs': ¬ ((p.out.step T v).2.1≠0):=by simp[hs]
   have ih:=nt T l {p with out:=(p.out.step T v).2.2,e:=(p.out.step T v).2.1} hs hp (fun x hx=>hl x (List.mem_cons_of_mem _ hx));rw[dJ T l hs];simp only[];rw[if_neg hs',ih]
  ·rw[jb T l hs];simp only[];rw[if_pos hs]
theorem jP (T:Pr) (l:List Ev) (p:aw) (e:Int) (h:p.e=0) (hp:p.ns) (hl: ∀v∈l,v.loose=false) (ha:(p.out.all T l).2.1=0):p.write T l e=((p.out.all T l).1,{p with out:=(p.out.all T l).2.2,e:=e}):=by unfold aw.write;rw[nt T l p h hp hl];simp only[ha];simp
theorem pA (T:Pr): ∀ (X:List UInt8) (c:Cb) (p:aw),p.bG= .cb c→p.e=0→p.cK=false→c.c.e=0→p.ns→(∀v∈(c.run X).1,v.loose=false)→(p.out.all T (c.run X).1).2.1=0→gO T X p=(p.out.all T (c.run X).1).1++cf (c.run X).2 true
 | [],c,p,hi,he,ho,hc,hp,hl,ha=>by simp only[gO,Cb.run,aw.fin,aw.may,he,ho,hi,Rd.fin,aw.write,aw.gZ,Out.all];simp
 |b::r,c,p,hi,he,ho,hc,hp,hl,ha=>by
  have dW:p.may=0:=by simp[aw.may,he,ho]
  rw[Cb.run] at hl ha⊢;by_cases h:(c.step b.toNat).2.c.e=0
  ·have h': ¬ ((c.step b.toNat).2.c.e≠0):=by simp[h]
   rw[if_neg h'] at hl ha⊢;simp only[] at hl ha⊢;have ha1:=Lf T ha;rw[vO T _ _ _ ha1] at ha⊢;have hw:=jP T (c.step b.toNat).1 {p with bG:= .cb (c.step b.toNat).2} (c.step b.toNat).2.c.e he hp (fun v hv=>hl v (List.mem_append_left _ hv)) ha1;rw[h] at hw;have dP:p.step T b.toNat=((p.out.all T (c.step b.toNat).1).1,0,{p with bG:= .cb (c.step b.toNat).2,out:=(p.out.all T (c.step b.toNat).1).2.2,e:=0}):=by unfold aw.step;rw[if_neg (by simp[dW]),hi];simp only[Rd.step,h,hw]
   rw[gO,dP];simp only[ne_eq,not_true_eq_false,if_false];rw[pA T r (c.step b.toNat).2 {p with bG:= .cb (c.step b.toNat).2,out:=(p.out.all T (c.step b.toNat).1).2.2,e:=0} rfl rfl ho h hp (fun v hv=>hl v (List.mem_append_right _ hv)) ha,List.append_assoc]
  ·rw[if_pos h] at hl ha⊢;simp only[] at hl ha⊢;have hw:=jP T (c.step b.toNat).1 {p with bG:= .cb (c.step b.toNat).2} (c.step b.toNat).2.c.e he hp hl ha;have dP:p.step T b.toNat=((p.out.all T (c.step b.toNat).1).1,(c.step b.toNat).2.c.e,{p with bG:= .cb (c.step b.toNat).2,out:=(p.out.all T (c.step b.toNat).1).2.2,e:=(c.step b.toNat).2.c.e}):=by unfold aw.step;rw[if_neg (by simp[dW]),hi];simp only[Rd.step,hw]
   rw[gO,dP];simp only[];rw[if_pos h]
end Go.Tru
