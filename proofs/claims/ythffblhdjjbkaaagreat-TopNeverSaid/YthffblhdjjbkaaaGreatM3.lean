/- decimal; lexer.Lexer -/
import Derived.Test.YthffblhdjjbkaaaGreatM1
import Derived.Lib.ItoaNum
set_option maxHeartbeats 100000000
set_option maxRecDepth 1000000
open Or (inl inr)
namespace Go.Tru
open Go.RowKit
structure cM where
 neg:Bool
 minus:Bool
 digits:Bool
 zero:Bool
 v:Nat
 top:Bool
 cK:Bool
 e:Int
def cM.new:cM:=⟨false,false,false,false,0,false,false,0⟩
def cM.cells (n:cM):List Value:=[.bool n.neg,.bool n.minus,.bool n.digits,.bool n.zero,.int .u64 n.v,.bool n.top,.bool n.cK,.int .i64 n.e]
def gB (b:Int):Bool:=decide (48≤b∧b≤57)
def cM.add (n:cM) (d:Nat):cM:=
 if n.top||n.cK then{n with cK:=true}
 else{n with v:=(n.v*10+d) % 18446744073709551616,top:=(n.v*10+d)/18446744073709551616==1,cK:=decide (1<(n.v*10+d)/18446744073709551616)}
def cM.after (n:cM) (b:Int):cM:=
 if n.e≠0 then n
 else if gB b=true∧n.zero=false then{n.add (b-48).toNat with zero:= !n.digits&&b==48,digits:=true}
 else if b=45∧n.minus=false∧n.digits=false then{n with minus:=true,neg:=true}
 else if n.digits=true∧(b=46∨b=101∨b=69) then{n with e:=6}
 else if n.digits=false∨gB b=true then{n with e:=2}
 else n
def cM.kf (n:cM) (b:Int):Bool:=n.e==0&&(gB b&& !n.zero||b==45&& !n.minus&& !n.digits)
def cM.result (n:cM):Bool×Nat×Int:=
 if n.e≠0 then(false,0,n.e)
 else if n.digits=false then(false,0,2)
 else if n.cK=true∨n.top=true∧(n.neg=false∨0<n.v) then(false,0,7)
 else if n.neg=true∧(0<n.v∨n.top=true) then(true,(n.v+18446744073709551615) % 18446744073709551616,0)
 else(false,n.v,0)
def kI (n:cM):List UInt8→Bool×Nat×Int
 | []=>n.result
 |b::t=>if(n.after b.toNat).e≠0 then(false,0,(n.after b.toNat).e) else if n.kf b.toNat=true then kI (n.after b.toNat) t else(false,0,2)
/-! ### its value -/
def numOf (v:Nat) (l:List UInt8):Nat:=l.foldl (fun v b=>v*10+(b.toNat-48)) v
def Wv (l:List UInt8):Prop:=∀b∈l,gB b.toNat=true
def cM.Is (n:cM) (val:Nat):Prop:=
 n.cK=true∧36893488147419103232≤val∨n.cK=false∧n.top=true∧n.v+18446744073709551616=val∧n.v<18446744073709551616∨n.cK=false∧n.top=false∧n.v=val∧val<18446744073709551616
theorem cM.Is.add {n:cM} {val:Nat} (h:n.Is val) {d:Nat} (hd:d≤9):(n.add d).Is (val*10+d):=by
 rcases h with⟨h1,h2⟩|⟨h1,h2,h3,h4⟩|⟨h1,h2,h3,h4⟩
 ·left;simp only[cM.add,h1,Bool.or_true,if_true,true_and];omega
 ·left;simp only[cM.add,h1,h2,Bool.or_false,if_true,true_and];omega
 ·subst h3;have hq:(n.v*10+d)/18446744073709551616=0∨(n.v*10+d)/18446744073709551616=1∨2≤(n.v*10+d)/18446744073709551616:=by omega
  rcases hq with hq|hq|hq
  ·right;right;refine⟨?_,?_,?_,by omega⟩<;>simp only[cM.add,h1,h2,Bool.or_self,Bool.false_eq_true,if_false,hq]<;>first|rfl|omega
  ·right;left;refine⟨?_,?_,?_,?_⟩<;>simp only[cM.add,h1,h2,Bool.or_self,Bool.false_eq_true,if_false,hq]<;>first|rfl|omega
  ·left;refine⟨?_,by omega⟩;simp only[cM.add,h1,h2,Bool.or_self,Bool.false_eq_true,if_false,decide_eq_true_eq];omega
structure lR (n:cM) (g c z:Bool) (val:Nat):Prop where
 neg:n.neg=g
 minus:n.minus=g
 digits:n.digits=c
 zero:n.zero=z
 e:n.e=0
 is:n.Is val
theorem lR.new:lR cM.new false false false 0:=⟨rfl,rfl,rfl,rfl,rfl,inr (inr ⟨rfl,rfl,rfl,by omega⟩)⟩
theorem add_neg (n:cM) (d:Nat):(n.add d).neg=n.neg∧(n.add d).minus=n.minus∧(n.add d).e=n.e:=by unfold cM.add;split<;>exact⟨rfl,rfl,rfl⟩
theorem lR.digit {n:cM} {g c:Bool} {val:Nat} (h:lR n g c false val) {b:Int} (hb:gB b=true):lR (n.after b) g true (!c&&b==48) (val*10+(b-48).toNat)∧n.kf b=true∧(n.after b).e=0:=by
 have hd:48≤b∧b≤57:=by simpa[gB] using hb
 have ha:=add_neg n (b-48).toNat;have he:n.after b={n.add (b-48).toNat with zero:= !n.digits&&b==48,digits:=true}:=by unfold cM.after;rw[if_neg (by rw[h.e];simp),if_pos ⟨hb,h.zero⟩]
 refine⟨?_,?_,?_⟩
 ·rw[he];refine⟨ha.1.trans h.neg,ha.2.1.trans h.minus,rfl,by show(!n.digits&&b==48)=_;rw[h.digits],ha.2.2.trans h.e,?_⟩;exact h.is.add (by omega)
 ·simp[cM.kf,h.e,hb,h.zero]
 ·rw[he];exact ha.2.2.trans h.e
theorem lR.none {n:cM} {g:Bool} {val:Nat} (h:lR n g false false val) {b:Int} (hd:gB b=false) (hb: ¬ (b=45∧g=false)):(n.after b).e=2∧n.kf b=false:=by
 constructor
 ·unfold cM.after;rw[if_neg (by rw[h.e];simp),if_neg (by simp[hd]),if_neg (by rw[h.minus];simp;intro h1 h2;exact absurd ⟨h1,h2⟩ hb),if_neg (by simp[h.digits]),if_pos (inl h.digits)]
 ·simp only[cM.kf,hd,h.minus,h.digits,h.e];simp;intro h1;cases g
  ·exact absurd ⟨h1,rfl⟩ hb
  ·rfl
def U7 (g:Bool) (val:Nat):Bool×Nat×Int:=
 if g=true then(if val=0 then(false,0,0) else if val≤18446744073709551616 then(true,val-1,0) else(false,0,7))
 else if val<18446744073709551616 then(false,val,0) else(false,0,7)
theorem lR.result {n:cM} {g z:Bool} {val:Nat} (h:lR n g true z val):n.result=U7 g val:=by
 obtain⟨h1,_,h3,_,h5,h6⟩:=h;unfold cM.result U7;rw[if_neg (by rw[h5];simp),if_neg (by rw[h3];simp),h1];rcases h6 with⟨a,b⟩|⟨a,b,c,d⟩|⟨a,b,c,d⟩
 ·rw[if_pos (inl a)];cases g
  ·simp;omega
  ·simp only[if_true];rw[if_neg (by omega),if_neg (by omega)]
 ·subst c;rw[a,b];cases g
  ·simp
  ·by_cases hv:n.v=0
   ·simp[hv]
   ·rw[if_pos (by simp;omega)];simp only[if_true];rw[if_neg (by omega),if_neg (by omega)]
 ·subst c;rw[a,b];cases g
  ·simp[d]
  ·by_cases hv:n.v=0
   ·simp[hv]
   ·rw[if_neg (by simp),if_pos ⟨rfl,inl (by omega)⟩];simp only[if_true];rw[if_neg hv,if_pos (by omega)];simp only[Prod.mk.injEq,true_and,and_true];omega
def cM.ran (n:cM) (l:List UInt8):cM:=l.foldl (fun n b=>n.after b.toNat) n
theorem Gx {n:cM} {b:UInt8} {t:List UInt8} (h:n.kf b.toNat=true) (he:(n.after b.toNat).e=0):kI n (b::t)=kI (n.after b.toNat) t:=by rw[kI,if_neg (by rw[he];simp),if_pos h]
theorem toNat_sub (b:UInt8):((b.toNat:Int)-48).toNat=b.toNat-48:=by omega
theorem lR.run {g:Bool}: ∀ (l:List UInt8) {n:cM} {val:Nat} (_:lR n g true false val) (_:Wv l) (t:List UInt8),lR (n.ran l) g true false (numOf val l)∧kI n (l++t)=kI (n.ran l) t
 | [],n,val,h,_,t=>⟨h,rfl⟩
 |b::l,n,val,h,hd,t=>by
  obtain⟨h1,h2,h3⟩:=h.digit (hd b (by simp));rw[toNat_sub] at h1;have mx:lR (n.after b.toNat) g true false (val*10+(b.toNat-48)):=by simpa using h1
  obtain⟨i1,i2⟩:=lR.run l mx (fun x hx=>hd x (by simp[hx])) t;exact⟨i1,by rw[List.cons_append,Gx h2 h3,i2];rfl⟩
def signed (g:Bool) (l:List UInt8):List UInt8:=if g=true then 45::l else l
/-! ### a number's digits -/
/-! ### what is read without an error was digits -/
end Go.Tru
namespace Go.Tru
structure ej where
 kind:Int
 text:ByteArray
 neg:Bool
 jM:Nat
def ej.cells (t:ej):List Value:=[.int .u8 t.kind,.string t.text,.bool t.neg,.int .u64 t.jM]
def ej.of (k:Int):ej:=⟨k,⟨#[]⟩,false,0⟩
structure Lex where
 state:Int
 r:cA
 s:List UInt8
 n:cM
 rest:List UInt8
 kind:Int
 e:Int
def Lex.new:Lex:=⟨0,cA.new,[],cM.new,[],0,0⟩
def gg (b:Int):Bool:=decide (b=32∨b=9∨b=10∨b=13)
def iY (b:Int):Bool:=decide (b=123∨b=125∨b=91∨b=93∨b=58∨b=44)
def Lex.aj (L:Lex) (b:Int):Lex×List ej:=
 if gg b=true then(L,[])
 else if iY b=true then(L,[ej.of b])
 else if b=34 then({L with state:=1,r:=cA.new,s:=[]},[])
 else if b=45∨gB b=true then({L with state:=2,n:=cM.new.after b,e:=(cM.new.after b).e},[])
 else if b=116 then({L with state:=3,rest:=[114,117,101],kind:=116},[])
 else if b=102 then({L with state:=3,rest:=[97,108,115,101],kind:=102},[])
 else if b=110 then({L with state:=3,rest:=[117,108,108],kind:=48},[])
 else({L with e:=2},[])
def Lex.text (L:Lex) (b:Int):Lex×List ej:=
 if b=34∧L.r.whole=true then({L with state:=0,s:=[]},[⟨115,⟨L.s.toArray⟩,false,0⟩])
 else({L with r:=(L.r.step b).1,s:=L.s++(L.r.step b).2,e:=if(L.r.step b).1.e=0∧200<(L.s++(L.r.step b).2).length then 5 else(L.r.step b).1.e},[])
def Lex.word (L:Lex) (b:Int):Lex×List ej:=
 match L.rest with
 | []=>({L with e:=2},[])
 |x::t=>if(x.toNat:Int)=b then(if t= [] then({L with rest:=[],state:=0},[ej.of L.kind]) else({L with rest:=t},[])) else({L with e:=2},[])
def Lex.ended (L:Lex):Lex×List ej:=
 if L.n.result.2.2≠0 then({L with e:=L.n.result.2.2},[])
 else({L with state:=0,e:=0},[⟨110,⟨#[]⟩,L.n.result.1,L.n.result.2.1⟩])
def Lex.number (L:Lex) (b:Int):Lex×List ej:=
 if L.n.kf b=true∨(L.n.after b).e≠0 then({L with n:=L.n.after b,e:=(L.n.after b).e},[])
 else if(Lex.ended {L with n:=L.n.after b,e:=0}).1.e≠0 then((Lex.ended {L with n:=L.n.after b,e:=0}).1,[])
 else(((Lex.ended {L with n:=L.n.after b,e:=0}).1.aj b).1,(Lex.ended {L with n:=L.n.after b,e:=0}).2++((Lex.ended {L with n:=L.n.after b,e:=0}).1.aj b).2)
def Lex.jZ (L:Lex) (b:Int):Lex×List ej:=
 if L.state=1 then L.text b else if L.state=3 then L.word b else if L.state=2 then L.number b else L.aj b
def Lex.step (L:Lex) (b:Int):Lex×List ej:=
 if L.e≠0 then(L,[]) else((L.jZ b).1,if(L.jZ b).1.e≠0 then [] else(L.jZ b).2)
def Lex.fin (L:Lex):Lex×List ej:=
 if L.e≠0∨L.state=0 then(L,[]) else if L.state=2 then L.ended else({L with e:=3},[])
def Lex.held (L:Lex):Nat:=if L.e≠0∨L.state≠1 then 0 else L.s.length
structure Lex.Fit (L:Lex):Prop where
 r:L.r.Fit
 v:L.n.v<18446744073709551616
 s:L.s.length≤204
 rest:L.rest.length≤4∧∀x∈L.rest,x.toNat<128
theorem qM {n:cM} (hv:n.v<18446744073709551616) (x:Int):(n.after x).v<18446744073709551616:=by
 unfold cM.after;split
 ·exact hv
 ·split
  ·show(n.add _).v<_;unfold cM.add;split
   ·exact hv
   ·exact Nat.mod_lt _ (by decide)
  ·split
   ·exact hv
   ·split
    ·exact hv
    ·split
     ·exact hv
     ·exact hv
theorem Lex.eS:Lex.new.Fit:=⟨cA.eS,by decide,by decide,by simp[Lex.new]⟩
theorem Lex.s8 {L:Lex} (h:L.Fit) (b:Int):(L.aj b).1.Fit:=by
 obtain⟨h1,h2,h3,h4⟩:=h;unfold Lex.aj;repeat' split
 ·exact⟨h1,h2,h3,h4⟩
 ·exact⟨h1,h2,h3,h4⟩
 ·exact⟨cA.eS,h2,by simp,h4⟩
 ·exact⟨h1,qM (n:=cM.new) (by decide) b,h3,h4⟩
 ·exact⟨h1,h2,h3,by simp⟩
 ·exact⟨h1,h2,h3,by simp⟩
 ·exact⟨h1,h2,h3,by simp⟩
 ·exact⟨h1,h2,h3,h4⟩
theorem Lex.O2 {L:Lex} (h:L.Fit) (b:Int):(L.word b).1.Fit:=by
 obtain⟨h1,h2,h3,h4⟩:=h;unfold Lex.word;split
 ·exact⟨h1,h2,h3,h4⟩
 ·rename_i x t he;rw[he] at h4;repeat' split
  ·exact⟨h1,h2,h3,by simp⟩
  ·exact⟨h1,h2,h3,by simp only[List.length_cons] at h4⊢;omega,fun y hy=>h4.2 y (List.mem_cons_of_mem _ hy)⟩
  ·exact⟨h1,h2,h3,by rw[he];exact h4⟩
theorem Lex.sd {L:Lex} (h:L.Fit):L.ended.1.Fit:=by obtain⟨h1,h2,h3,h4⟩:=h;unfold Lex.ended;split<;>exact⟨h1,h2,h3,h4⟩
theorem Lex.Gy {L:Lex} (h:L.Fit) (b:Int):(L.number b).1.Fit:=by
 have h0:Lex.Fit {L with n:=L.n.after b,e:=0}:=⟨h.r,qM h.v b,h.s,h.rest⟩
 unfold Lex.number;repeat' split
 ·exact⟨h.r,qM h.v b,h.s,h.rest⟩
 ·exact Lex.sd h0
 ·exact Lex.s8 (Lex.sd h0) b
def Lex.Sl (L:Lex):Prop:=L.e=0→L.s.length≤200
theorem Lex.nU {L:Lex} (h:L.Fit) (hs:L.s.length≤200) (b:Int):(L.text b).1.Fit:=by
 have:=cA.qL L.r b;unfold Lex.text;split
 ·exact⟨h.r,h.v,by simp,h.rest⟩
 ·exact⟨cA.dN h.r b,h.v,by simp only[List.length_append];omega,h.rest⟩
theorem Lex.dN {L:Lex} (h:L.Fit) (hm:L.Sl) (b:Int):(L.step b).1.Fit:=by
 unfold Lex.step;split
 ·exact h
 ·rename_i he;simp only[ne_eq,Decidable.not_not] at he;show(L.jZ b).1.Fit;unfold Lex.jZ;split
  ·exact Lex.nU h (hm he) b
  split
  ·exact Lex.O2 h b
  split
  ·exact Lex.Gy h b
  ·exact Lex.s8 h b
theorem Lex.S4:Lex.new.Sl:=fun _=>by decide
theorem Lex.yK {L:Lex} (b:Int) (hs:L.s.length≤200):(L.aj b).1.s.length≤200:=by
 unfold Lex.aj;repeat' split
 all_goals first|exact hs|simp
theorem Lex.zO (L:Lex):L.ended.1.s=L.s:=by unfold Lex.ended;split<;>rfl
theorem Lex.Ch {L:Lex} (hm:L.Sl) (b:Int):(L.step b).1.Sl:=by
 unfold Lex.step;split
 ·exact hm
 ·rename_i he;simp only[ne_eq,Decidable.not_not] at he;have hs:=hm he;intro um;simp only[] at um⊢;unfold Lex.jZ at um⊢;split at um
  ·rename_i h1;rw[if_pos h1];unfold Lex.text at um⊢;split
   ·simp
   ·rename_i h2;rw[if_neg h2] at um;simp only[] at um⊢;by_cases hc:(L.r.step b).1.e=0∧200<(L.s++(L.r.step b).2).length
    ·rw[if_pos hc] at um;exact absurd um (by decide)
    ·rw[if_neg hc] at um;have: ¬200<(L.s++(L.r.step b).2).length:=fun h=>hc ⟨um,h⟩;omega
  ·rename_i h1;rw[if_neg h1];split
   ·unfold Lex.word;repeat' split
    all_goals exact hs
   split
   ·unfold Lex.number;repeat' split
    ·exact hs
    ·rw[Lex.zO];exact hs
    ·exact Lex.yK b (by rw[Lex.zO];exact hs)
   ·exact Lex.yK b hs
def Lex.run (L:Lex):List UInt8→Lex×List ej
 | []=>(L,[])
 |b::l=>(((L.step b.toNat).1.run l).1,(L.step b.toNat).2++((L.step b.toNat).1.run l).2)
theorem Lex.kW (L:Lex) (l m:List UInt8):L.run (l++m)=(((L.run l).1.run m).1,(L.run l).2++((L.run l).1.run m).2):=by
 induction l generalizing L with
 |nil=>simp[Lex.run]
 |cons b l ih=>simp[Lex.run,ih]
theorem Lex.zH {L:Lex} (h:L.e≠0): ∀l,L.run l=(L,[])
 | []=>rfl
 |b::l=>by
  have e1:L.step b.toNat=(L,[]):=by unfold Lex.step;rw[if_pos h]
  simp only[Lex.run,e1,Lex.zH h l,List.append_nil]
end Go.Tru
