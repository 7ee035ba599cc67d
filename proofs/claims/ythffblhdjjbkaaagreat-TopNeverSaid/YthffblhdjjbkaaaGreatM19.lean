/- cborin.Core in memory; A document's parts; A strings.Builder of a function's own -/
import Derived.Test.YthffblhdjjbkaaaGreatM18
set_option maxHeartbeats 100000000
set_option maxRecDepth 1000000
open Go.Proofs.Tryz
open Or (inl inr)
namespace Go.Tru
theorem I.dO {F:List Nat} {a w:World} (h:I F a w) {b i:Nat} (hb:b∈F) (u:Value):I F a (w.setCell ⟨b,i,none⟩ u):=h.setCell (p:=⟨b,i,none⟩) (inl hb) u
def bS (l:List UInt8):List Value:=l.map fun b=> .int .u8 b.toNat
def bz (w:World) (base:Nat) (v:Value) (l:List UInt8):Prop:=w.ownsRow base 5 1 v l.length (bS l)
theorem bz.nil (w:World) (base:Nat):bz w base (.slice none 0 0) []:=World.ownsRow_nil _ _ _ _
theorem bz.shape {w:World} {base:Nat} {v:Value} {s:List UInt8} (h:bz w base v s): ∃a cap,v= .slice a s.length cap:=by
 rcases h.2 with⟨h1,h2⟩|⟨g,cap,cur,h1,_⟩
 ·exact⟨none,0,by rw[h1,h2]⟩
 ·exact⟨_,_,h1⟩
def kG (k:Core) (ov sv:Value):List Value:=[.int .i64 k.depth,ov,.bool k.done,.int .i64 k.e,.bool k.word,.bool k.chunks,.int .i64 k.aT,sv,.int .i64 k.c.aT,.int .u8 k.c.low,.int .u8 k.c.high,.bool k.c.bad]
def zJ (k:Core) (ov sv:Value):List Value:=[.int .i64 k.depth,ov,.bool k.done,.int .i64 k.e,.bool k.word,.bool k.chunks,.int .i64 k.aT,sv]
structure a8 (w:World) (base b:Nat) (T:TypeId) (rest:List Value) (ov sv:Value) (k:Core):Prop where
 az:Has w b (kG k ov sv++rest) T
 bu:ai w base 270 ov k.open_
 s:bz w base sv k.s
 bo:b∉ae ov
 bs:b∉ae sv
 os: ∀i,i∈ae ov→i∉ae sv
def cz (b:Nat) (ov sv:Value):List Nat:=b::(ae ov++ae sv)
theorem aD (b:Nat) (ov sv:Value):b∈cz b ov sv:=ms
theorem iC {b:Nat} {ov sv:Value} {i:Nat} (h:i∈ae ov):i∈cz b ov sv:=List.mem_cons_of_mem _ (List.mem_append_left _ h)
theorem kH {b:Nat} {ov sv:Value} {i:Nat} (h:i∈ae sv):i∈cz b ov sv:=List.mem_cons_of_mem _ (List.mem_append_right _ h)
theorem oL {w:World} {base b:Nat} {T:TypeId} {rest:List Value} {ov sv:Value} {k:Core} (h:a8 w base b T rest ov sv k): ∀i∈cz b ov sv,i<w.heap.size:=by
 intro i hi;rcases List.mem_cons.1 hi with rfl|hi
 ·exact h.az.lt
 ·rcases List.mem_append.1 hi with hi|hi
  ·exact(World.ownsRow.lt h.bu i (aa.1 hi)).2
  ·exact(World.ownsRow.lt h.s i (aa.1 hi)).2
theorem a8.keeps {F:List Nat} {w w':World} {base b:Nat} {T:TypeId} {rest:List Value} {ov sv:Value} {k:Core} (h:a8 w base b T rest ov sv k) (kp:I F w w') (hF: ∀i∈cz b ov sv,i∉F):a8 w' base b T rest ov sv k:=⟨h.az.keeps kp (hF b (aD _ _ _)),ab h.bu kp (fun i hi=>hF i (iC (aa.2 hi))),ab h.s kp (fun i hi=>hF i (kH (aa.2 hi))),h.bo,h.bs,h.os⟩
theorem a8.aI {w w':World} {base b:Nat} {T:TypeId} {rest:List Value} {ov sv:Value} {k:Core} (h:a8 w base b T rest ov sv k) (kp:I [] w w'):a8 w' base b T rest ov sv k:=h.keeps kp (by simp)
theorem a8.put {w:World} {base b:Nat} {T:TypeId} {rest:List Value} {ov sv:Value} {k:Core} (h:a8 w base b T rest ov sv k) {i:Nat} {u:Value} {k':Core} (hi:i<12) (hk:(kG k ov sv).set i u=kG k' ov sv) (ho:k'.open_=k.open_) (hs:k'.s=k.s):a8 (w.setCell ⟨b,i,none⟩ u) base b T rest ov sv k':=by
 have bn:I [b] w (w.setCell ⟨b,i,none⟩ u):=(I.refl _ _).ax _;refine⟨(h.az.set i u).conv (by rw[List.set_append_left _ _ (by simpa[kG] using hi),hk]),?_,?_,h.bo,h.bs,h.os⟩
 ·rw[ho];exact ab h.bu bn (fun i hi hm=>h.bo (by rw[List.mem_singleton] at hm;exact hm▸aa.2 hi))
 ·rw[hs];exact ab h.s bn (fun i hi hm=>h.bs (by rw[List.mem_singleton] at hm;exact hm▸aa.2 hi))
theorem a8.db {w:World} {base b:Nat} {T:TypeId} {rest:List Value} {ov sv:Value} {k:Core} (h:a8 w base b T rest ov sv k) {i:Nat} {u:Value}:a8 (w.setCell ⟨b,12+i,none⟩ u) base b T (rest.set i u) ov sv k:=by have bn:I [b] w (w.setCell ⟨b,12+i,none⟩ u):=(I.refl _ _).ax _;refine⟨(h.az.set (12+i) u).conv ?_,ab h.bu bn (fun i hi hm=>h.bo (by rw[List.mem_singleton] at hm;exact hm▸aa.2 hi)),ab h.s bn (fun i hi hm=>h.bs (by rw[List.mem_singleton] at hm;exact hm▸aa.2 hi)),h.bo,h.bs,h.os⟩;have hl:(kG k ov sv).length=12:=rfl;rw[List.set_append_right _ _ (by omega),hl];congr 2;omega
def gY (w:World) (base b:Nat) (T:TypeId) (rest:List Value) (ov sv:Value) (k':Core) (w':World):Prop:=
 ∃oW Cy,a8 w' base b T rest oW Cy k'∧I (cz b ov sv) w w'∧∀i∈cz b oW Cy,i∈cz b ov sv∨w.heap.size≤i
theorem gY.trans {w w1 w2:World} {base b:Nat} {T:TypeId} {rest Zw:List Value} {ov sv Cz xm:Value} {k2:Core} (kp:I (cz b ov sv) w w1) (hs: ∀i∈cz b Cz xm,i∈cz b ov sv∨w.heap.size≤i) (h:gY w1 base b T rest Cz xm k2 w2) (_:Zw=rest):gY w base b T rest ov sv k2 w2:=by
 obtain⟨nL,xl,h1,h2,h3⟩:=h;refine⟨nL,xl,h1,kp.trans' h2 hs,fun i hi=> ?_⟩;rcases h3 i hi with h|h
 ·exact hs i h
 ·exact inr (Nat.le_trans kp.size h)
theorem gY.same {w w':World} {base b:Nat} {T:TypeId} {rest:List Value} {ov sv:Value} {k:Core} (h:a8 w' base b T rest ov sv k) (kp:I (cz b ov sv) w w'):gY w base b T rest ov sv k w':=⟨ov,sv,h,kp,fun _ hi=>inl hi⟩
theorem bU {w:World} {base b:Nat} {T:TypeId} {rest:List Value} {ov sv:Value} {k:Core} (h:a8 w base b T rest ov sv k):w.cell? ⟨b,0,none⟩=some (.int .i64 k.depth)∧w.cell? ⟨b,1,none⟩=some ov∧w.cell? ⟨b,2,none⟩=some (.bool k.done)∧w.cell? ⟨b,3,none⟩=some (.int .i64 k.e)∧w.cell? ⟨b,4,none⟩=some (.bool k.word)∧w.cell? ⟨b,5,none⟩=some (.bool k.chunks)∧w.cell? ⟨b,6,none⟩=some (.int .i64 k.aT)∧w.cell? ⟨b,7,none⟩=some sv:=⟨h.az.cell 0,h.az.cell 1,h.az.cell 2,h.az.cell 3,h.az.cell 4,h.az.cell 5,h.az.cell 6,h.az.cell 7⟩
theorem fu {w:World} {base b:Nat} {T:TypeId} {rest:List Value} {ov sv:Value} {k:Core} (h:a8 w base b T rest ov sv k):w.frozen? ⟨b,1,none⟩=false∧w.frozen? ⟨b,2,none⟩=false∧w.frozen? ⟨b,3,none⟩=false∧w.frozen? ⟨b,4,none⟩=false∧w.frozen? ⟨b,5,none⟩=false∧w.frozen? ⟨b,6,none⟩=false∧w.frozen? ⟨b,7,none⟩=false∧b<w.heap.size:=⟨h.az.free 1,h.az.free 2,h.az.free 3,h.az.free 4,h.az.free 5,h.az.free 6,h.az.free 7,h.az.lt⟩
theorem a8.vy {w w2:World} {base b:Nat} {T:TypeId} {rest:List Value} {ov sv v2:Value} {k:Core} {l:List af} (h:a8 w base b T rest ov sv k) (au:ai w2 base 270 v2 l) (kp:I (ae ov) w w2) (hb:v2.ownBlock=ov.ownBlock∨∃n,v2.ownBlock=some n∧w.heap.size≤n):a8 (w2.setCell ⟨b,1,none⟩ v2) base b T rest v2 sv {k with open_:=l}∧I (cz b ov sv) w (w2.setCell ⟨b,1,none⟩ v2)∧∀i∈cz b v2 sv,i∈cz b ov sv∨w.heap.size≤i:=by
 have bP:=h.az.lt;have aJ: ∀i,i∈ae v2→i∈ae ov∨w.heap.size≤i:=fun i hi=>by
  rw[aa] at hi⊢;rcases hb with h1|⟨n,h1,h2⟩
  ·rw[←h1];exact inl hi
  ·rw[h1] at hi;injection hi with hi;exact inr (hi▸h2)
 have fT:b∉ae v2:=fun hm=>by
  rcases aJ b hm with h1|h1
  ·exact h.bo h1
  ·omega
 have bn:I [b] w2 (w2.setCell ⟨b,1,none⟩ v2):=(I.refl _ _).ax v2;have hs:bz w2 base sv k.s:=ab h.s kp (fun i hi hm=>h.os i hm (aa.2 hi));refine⟨⟨(h.az.keeps kp h.bo).set 1 v2,ab au bn (fun i hi hm=>fT (by rw[List.mem_singleton] at hm;exact hm▸aa.2 hi)),ab hs bn (fun i hi hm=>h.bs (by rw[List.mem_singleton] at hm;exact hm▸aa.2 hi)),fT,h.bs,fun i hi hm=> ?_⟩,?_,fun i hi=> ?_⟩
 ·rcases aJ i hi with h1|h1
  ·exact h.os i h1 hm
  ·have:=(World.ownsRow.lt h.s i (aa.1 hm)).2;omega
 ·exact(kp.mono (fun i hi=>iC hi)).trans (bn.mono (fun i hi=>by rw[List.mem_singleton] at hi;exact hi▸aD _ _ _))
 ·rcases List.mem_cons.1 hi with rfl|hi
  ·exact inl (aD _ _ _)
  ·rcases List.mem_append.1 hi with hi|hi
   ·rcases aJ i hi with h1|h1
    ·exact inl (iC h1)
    ·exact inr h1
   ·exact inl (kH hi)
theorem a8.Zx {w w2:World} {base b:Nat} {T:TypeId} {rest:List Value} {ov sv v2:Value} {k:Core} {l:List UInt8} (h:a8 w base b T rest ov sv k) (au:bz w2 base v2 l) (kp:I (ae sv) w w2) (hb:v2.ownBlock=sv.ownBlock∨v2.ownBlock=none∨∃n,v2.ownBlock=some n∧w.heap.size≤n):a8 (w2.setCell ⟨b,7,none⟩ v2) base b T rest ov v2 {k with s:=l}∧I (cz b ov sv) w (w2.setCell ⟨b,7,none⟩ v2)∧∀i∈cz b ov v2,i∈cz b ov sv∨w.heap.size≤i:=by
 have bP:=h.az.lt;have aJ: ∀i,i∈ae v2→i∈ae sv∨w.heap.size≤i:=fun i hi=>by
  rw[aa] at hi⊢;rcases hb with h1|h1|⟨n,h1,h2⟩
  ·rw[←h1];exact inl hi
  ·rw[h1] at hi;cases hi
  ·rw[h1] at hi;injection hi with hi;exact inr (hi▸h2)
 have fT:b∉ae v2:=fun hm=>by
  rcases aJ b hm with h1|h1
  ·exact h.bs h1
  ·omega
 have bn:I [b] w2 (w2.setCell ⟨b,7,none⟩ v2):=(I.refl _ _).ax v2;have ho:ai w2 base 270 ov k.open_:=ab h.bu kp (fun i hi hm=>h.os i (aa.2 hi) hm);refine⟨⟨(h.az.keeps kp h.bs).set 7 v2,ab ho bn (fun i hi hm=>h.bo (by rw[List.mem_singleton] at hm;exact hm▸aa.2 hi)),ab au bn (fun i hi hm=>fT (by rw[List.mem_singleton] at hm;exact hm▸aa.2 hi)),h.bo,fT,fun i hi hm=> ?_⟩,?_,fun i hi=> ?_⟩
 ·rcases aJ i hm with h1|h1
  ·exact h.os i hi h1
  ·have:=(World.ownsRow.lt h.bu i (aa.1 hi)).2;omega
 ·exact(kp.mono (fun i hi=>kH hi)).trans (bn.mono (fun i hi=>by rw[List.mem_singleton] at hi;exact hi▸aD _ _ _))
 ·rcases List.mem_cons.1 hi with rfl|hi
  ·exact inl (aD _ _ _)
  ·rcases List.mem_append.1 hi with hi|hi
   ·exact inl (iC hi)
   ·rcases aJ i hi with h1|h1
    ·exact inl (kH h1)
    ·exact inr h1
theorem a8.fC {w:World} {base b g cap:Nat} {T:TypeId} {rest:List Value} {sv:Value} {k:Core} {c:af} {r:List af} (h:a8 w base b T rest (.slice (some ⟨g,0,none⟩) (r.length+1) cap) sv k) (ho:k.open_=c::r) (x:Int):a8 (w.setCell ⟨g,r.length*3+2,none⟩ (.int .i64 x)) base b T rest (.slice (some ⟨g,0,none⟩) (r.length+1) cap) sv {k with open_:={c with parts:=x}::r}:=by have lr:b≠g:=fun e=>h.bo (by rw[aa,e];rfl);have bn:I [g] w (w.setCell ⟨g,r.length*3+2,none⟩ (.int .i64 x)):=(I.refl _ _).ax _;have fj:=h.bu;rw[ho] at fj;exact⟨h.az.other lr _,ai.gV fj x,ab h.s bn (fun j hj hm=>h.os g (by rw[aa];rfl) (by rw[List.mem_singleton] at hm;rw[←hm,aa];exact hj)),h.bo,h.bs,h.os⟩
def dZ:List af→List af
 | []=>[]
 |c::s=>{c with parts:=c.parts+1}::s
def fQ (s:List af) (e:Ev):List af:=
 if e.kind=7 then s.tail
 else if e.kind=5∨e.kind=6 then⟨decide (e.kind=6),e.count,0⟩::dZ s
 else dZ s
def px (e:Ev):Prop:=e=ar∨(∃b,e=aq b)∨(∃b,∃m:Nat,m<2147483648∧e=ay b m)∨(∃t:ByteArray,t.size≤28∧e=ah t)
def eX (c:af):Int:=if c.bg=true then 2*c.count else c.count
structure CH (c:af):Prop where
 count:0≤c.count∧c.count≤1000
 parts:0≤c.parts∧c.parts≤3000
def CI (s:List af):Prop:=s= []∨∃c r,s=c::r∧CH c∧c.parts<eX c∧(c.bg=true→c.parts % 2=1)
def ZE (s:List af):Prop:=∃c r,s=c::r∧CH c∧c.parts<eX c∧c.bg=true∧c.parts % 2=0
def ZF (s:List af):Prop:=∃c r,s=c::r∧CH c∧c.parts=eX c
def M4 (s:List af) (e:Ev):Prop:=
 s.length≤20∧((px e∧CI s)∨((∃t:ByteArray,t.size≤28∧e=ah t)∧ZE s)∨((∃ (m:Bool) (n:Nat),n<16∧e=aX m n)∧CI s)∨(e=aL∧ZF s))
inductive Tr (n:Nat):List af→List Ev→List af→Prop
 |nil {s:List af}:Tr n s [] s
 |cons {s t:List af} {e:Ev} {r:List Ev} (h:M4 s e) (hn:r≠[]→n≤(fQ s e).length) (hr:Tr n (fQ s e) r t):Tr n s (e::r) t
theorem Tr.one {n:Nat} {s:List af} {e:Ev} (h:M4 s e):Tr n s [e] (fQ s e):=Tr.cons h (fun h=>absurd rfl h) Tr.nil
theorem Tr.mono {n m:Nat} (hm:m≤n) {s t:List af} {l:List Ev} (h:Tr n s l t):Tr m s l t:=by
 induction h with
 |nil=>exact Tr.nil
 |cons h hn _ ih=>exact Tr.cons h (fun hr=>Nat.le_trans hm (hn hr)) ih
theorem Tr.append {n:Nat} {s t u:List af} {a b:List Ev} (h:Tr n s a t) (k:Tr n t b u) (hn:n≤t.length):Tr n s (a++b) u:=by
 induction h with
 |nil=>exact k
 | @cons s t e r h h2 hr ih=>
  refine Tr.cons h (fun _=> ?_) (ih k hn);cases r with
  |nil=>cases hr;exact hn
  |cons x r=>exact h2 (by simp)
theorem gN (s:List af):(dZ s).length=s.length:=by cases s<;>rfl
theorem rZ {s:List af} {e:Ev} (h:px e):fQ s e=dZ s:=by rcases h with rfl|⟨b,rfl⟩|⟨b,m,_,rfl⟩|⟨t,_,rfl⟩<;>simp[fQ,ar,aq,ay,ah]
theorem mG (s:List af) (m:Bool) (n:Nat):fQ s (aX m n)=⟨m,n,0⟩::dZ s:=by cases m<;>simp[fQ,aX,aN,aO]
theorem qI (s:List af):fQ s aL=s.tail:=by simp[fQ,aL]
theorem OW {x:Nat} (hx:x<65536): ∃e,cE x= [e]∧px e:=by
 unfold cE;by_cases h0:x % 8=0
 ·rw[if_pos h0];exact⟨_,rfl,inl rfl⟩
 rw[if_neg h0];by_cases h1:x % 8=1
 ·rw[if_pos h1];exact⟨_,rfl,inr (inl ⟨_,rfl⟩)⟩
 rw[if_neg h1];by_cases h2:x % 8=2∨x % 8=3
 ·rw[if_pos h2];have hm:(x*x)>>>(x % 8)<2147483648:=by have oV:x*x<65536*65536:=Nat.mul_lt_mul_of_lt_of_lt hx hx;rw[Nat.shiftRight_eq_div_pow];rcases h2 with h2|h2<;>rw[h2]<;>omega
  exact⟨_,rfl,inr (inr (inl ⟨_,_,hm,rfl⟩))⟩
 rw[if_neg h2];by_cases h3:x % 8=4
 ·rw[if_pos h3];exact⟨_,rfl,inr (inr (inr ⟨_,gL x,rfl⟩))⟩
 rw[if_neg h3];by_cases h4:x % 8=5
 ·rw[if_pos h4];exact⟨_,rfl,inr (inr (inr ⟨aY,by decide,rfl⟩))⟩
 rw[if_neg h4];exact⟨_,rfl,inr (inr (inl ⟨_,x,by omega,rfl⟩))⟩
def Gq (k:Nat):Prop:=∀ (l:List Int) (s:List af),CI s→s.length+k≤20→Tr (s.length+1) s (aE k l).1 (dZ s)
theorem Jp {x:Nat} (hx:x<65536) {s:List af} (h:CI s) (hs:s.length≤20):Tr (s.length+1) s (cE x) (dZ s):=by obtain⟨e,he,hl⟩:=OW hx;rw[he,←rZ hl];exact Tr.one ⟨hs,inl ⟨hl,h⟩⟩
theorem OX {k:Nat} (ih:Gq k) (s:List af) (hs:s.length+(k+1)≤20) (n:Nat) (hn:n<16): ∀ (m j:Nat) (l:List Int),j+m=n→Tr (s.length+1) (⟨false,n,j⟩::s) (rep (aE k) m l).1 (⟨false,n,n⟩::s)
 |0,j,l,hj=>by
  have:j=n:=by omega
  subst this;exact Tr.nil
 |m+1,j,l,hj=>by have h1:=ih l (⟨false,n,j⟩::s) (inr ⟨_,_,rfl,⟨by simp only[];omega,by simp only[];omega⟩,by simp only[eX];simp;omega,by simp⟩) (by simp only[List.length_cons];omega);have h2:=OX ih s hs n hn m (j+1) (aE k l).2 (by omega);have e:(rep (aE k) (m+1) l).1=(aE k l).1++(rep (aE k) m (aE k l).2).1:=rfl;rw[e];refine Tr.append (h1.mono (by simp)) ?_ (by simp[dZ]);simpa[dZ] using h2
theorem OY {k:Nat} (ih:Gq k) (s:List af) (hs:s.length+(k+1)≤20) (n:Nat) (hn:n<16): ∀ (m j:Nat) (l:List Int),j+m=n→Tr (s.length+1) (⟨true,n,2*j⟩::s) (rep (cx (aE k)) m l).1 (⟨true,n,2*n⟩::s)
 |0,j,l,hj=>by
  have:j=n:=by omega
  subst this;exact Tr.nil
 |m+1,j,l,hj=>by
  have e:(rep (cx (aE k)) (m+1) l).1=(ah (cF (nx l).1)::(aE k (nx l).2).1)++(rep (cx (aE k)) m (cx (aE k) l).2).1:=rfl;have hf:CH ⟨true,n,2*j⟩:=⟨by simp only[];omega,by simp only[];omega⟩
  have KO:CH ⟨true,n,2*j+1⟩:=⟨by simp only[];omega,by simp only[];omega⟩
  have hk:fQ (⟨true,n,2*j⟩::s) (ah (cF (nx l).1))=⟨true,n,2*j+1⟩::s:=by simp[fQ,ah,dZ]
  have h1:=ih (nx l).2 (⟨true,n,2*j+1⟩::s) (inr ⟨_,_,rfl,KO,by simp only[eX,if_true];omega,fun _=>by simp only[];omega⟩) (by simp only[List.length_cons];omega);have h2:=OY ih s hs n hn m (j+1) (cx (aE k) l).2 (by omega);rw[e];refine Tr.append (t:=⟨true,n,2*j+1+1⟩::s) (Tr.cons ⟨by simp only[List.length_cons];omega,inr (inl ⟨⟨_,gL _,rfl⟩,_,_,rfl,hf,by simp only[eX,if_true];omega,rfl,by simp only[];omega⟩)⟩ (fun _=>by rw[hk];simp) ?_) ?_ (by simp)
  ·rw[hk];exact(h1.mono (by simp))
  ·have e2:(2:Int)*((j+1:Nat):Int)=2*(j:Int)+1+1:=by omega
   rw[e2] at h2;exact h2
theorem zM: ∀k,Gq k
 |0=>fun l s h hs=>Jp (kP l) h (by omega)
 |k+1=>fun l s h hs=>by
  have ih:=zM k;unfold aE;by_cases h5:(nx l).1 % 8<5
  ·rw[if_pos h5];exact Jp (kP l) h (by omega)
  rw[if_neg h5];have hb:(dZ s).length+(k+1)≤20:=by rw[gN];omega
  by_cases h6:(nx l).1 % 8=5
  ·rw[if_pos h6];obtain⟨n,hn⟩: ∃n,(nx l).1/8 % 4=n:=⟨_,rfl⟩
   have fW:n<16:=by omega
   rw[hn];have h1:=OX ih (dZ s) hb n fW n 0 (nx l).2 (by omega);rw[gN] at h1;simp only[List.cons_append];refine Tr.cons ⟨by omega,inr (inr (inl ⟨⟨false,n,fW,rfl⟩,h⟩))⟩ (fun _=>by rw[show aN (n:Int)=aX false n from rfl,mG];simp[gN]) ?_;rw[show aN (n:Int)=aX false n from rfl,mG];refine Tr.append h1 ?_ (by simp[gN]);have:=Tr.one (n:=s.length+1) (s:=⟨false,n,n⟩::dZ s) (e:=aL) ⟨by simp only[List.length_cons];omega,inr (inr (inr ⟨rfl,_,_,rfl,⟨by simp only[];omega,by simp only[];omega⟩,by simp[eX]⟩))⟩;rw[qI] at this;exact this
  ·rw[if_neg h6];obtain⟨n,hn⟩: ∃n,(nx l).1/8 % 3=n:=⟨_,rfl⟩
   have fW:n<16:=by omega
   rw[hn];have h1:=OY ih (dZ s) hb n fW n 0 (nx l).2 (by omega);rw[gN] at h1;simp only[List.cons_append];refine Tr.cons ⟨by omega,inr (inr (inl ⟨⟨true,n,fW,rfl⟩,h⟩))⟩ (fun _=>by rw[show aO (n:Int)=aX true n from rfl,mG];simp[gN]) ?_;rw[show aO (n:Int)=aX true n from rfl,mG];refine Tr.append h1 ?_ (by simp[gN]);have:=Tr.one (n:=s.length+1) (s:=⟨true,n,2*n⟩::dZ s) (e:=aL) ⟨by simp only[List.length_cons];omega,inr (inr (inr ⟨rfl,_,_,rfl,⟨by simp only[];omega,by simp only[];omega⟩,by simp[eX]⟩))⟩;rw[qI] at this;exact this
theorem Wq (l:List Int) (dep:Nat) (hd:dep≤16):Tr 1 [] (doc l dep) []:=zM dep l [] (inl rfl) (by simp;omega)
def gR (s:List af) (l:List Ev):List af:=l.foldl fQ s
theorem U6 {n:Nat} {s t:List af} {l:List Ev} (h:Tr n s l t): ∀i e,l[i]? =some e→M4 (gR s (l.take i)) e∧(i+1<l.length→n≤(gR s (l.take (i+1))).length)∧gR s (l.take (i+1))=fQ (gR s (l.take i)) e:=by
 induction h with
 |nil=>intro i e h;simp at h
 | @cons s t e r h hn _ ih=>
  intro i x hx;cases i with
  |zero=>
   simp only[List.getElem?_cons_zero,Option.some.injEq] at hx;subst hx;refine⟨by simpa[gR] using h,fun hl=> ?_,by simp[gR]⟩;have:r≠[]:=by intro hr;rw[hr] at hl;simp at hl
   simpa[gR] using hn this
  |succ i=>obtain⟨h1,h2,h3⟩:=ih i x (by simpa using hx);refine⟨by simpa[gR] using h1,fun hl=> ?_,by simpa[gR] using h3⟩;simpa[gR] using h2 (by simpa using hl)
theorem Ws {n:Nat} {s t:List af} {l:List Ev} (h:Tr n s l t):gR s l=t:=by
 induction h with
 |nil=>rfl
 |cons _ _ _ ih=>simpa[gR] using ih
end Go.Tru
namespace Go.Proofs.YthffblhdjjbkaaaGreat
open Go.RowKit Go.Tru
theorem lbT:Ps 132 2 0:=⟨by kernel_rfl,by decide,by decide⟩
def gS (w:World) (base b:Nat) (l:List UInt8):Prop:=
 ∃p v,Has w b [p,v] 132∧(p= .pointer none∨p= .pointer (some ⟨b,0,none⟩))∧je w base v l
theorem gS.new {w:World} {base b:Nat} (h:Has w b [.pointer none,.slice none 0 0] 132):gS w base b []:=⟨_,_,h,inl rfl,je.nil _ _⟩
theorem gS.lt {w:World} {base b:Nat} {l:List UInt8} (h:gS w base b l):b<w.heap.size:=by obtain⟨p,v,h,_⟩:=h;exact h.lt
theorem gS.keeps {F:List Nat} {w w':World} {base b:Nat} {l:List UInt8} (h:gS w base b l) (k:I F w w') (hb:base≤b) (hF: ∀i∈F,i<base):gS w' base b l:=by obtain⟨p,v,h1,h2,h3⟩:=h;refine⟨p,v,h1.keeps k (fun hm=>by have:=hF b hm;omega),h2,ab h3 k (fun i hi hm=> ?_)⟩;have:=(World.ownsRow.lt h3 i hi).1;have:=hF i hm;omega
theorem hZ (w:World) (base b:Nat) (l:List UInt8) (s:ByteArray) (h:gS w base b l) (hb:base≤b) (hlen:l.length+s.size≤1000000):Calls prog 91 #[.pointer (some ⟨b,0,none⟩),.string s] w fun e w'=>e= .returned (.tuple #[.int .i64 s.size,.nilIface])∧gS w' base b (l++s.data.toList)∧∃F,I F w w'∧∀i∈F,base≤i:=by
 have dD:=h.lt;obtain⟨p,v,h1,h2,h3⟩:=h;refine(rS b [] [] 132 p v base l s w (by simpa using h1) 0 rfl h2 lbT h3 hlen (by omega)).mono ?_;rintro e w' ⟨rfl,v',g1,g2,g3,_⟩;refine⟨rfl,⟨_,v',by simpa using g1,inr rfl,g2⟩,_,g3,fun i hi=> ?_⟩;rcases List.mem_cons.1 hi with rfl|hi
 ·exact hb
 ·exact(World.ownsRow.lt h3 i (aa.1 hi)).1
theorem sw (w:World) (base b:Nat) (l:List UInt8) (h:gS w base b l):Calls prog 92 #[.pointer (some ⟨b,0,none⟩)] w fun e w'=>e= .returned (.string (bytesOf l))∧∃F,I F w w'∧∀i∈F,base≤i:=by obtain⟨p,v,h1,h2,h3⟩:=h;refine(pX b [] [] 132 p v base l w (by simpa using h1) 0 rfl h3).mono ?_;rintro e w' ⟨rfl,g3⟩;exact⟨rfl,_,g3,fun i hi=>(World.ownsRow.lt h3 i (aa.1 hi)).1⟩
end Go.Proofs.YthffblhdjjbkaaaGreat
