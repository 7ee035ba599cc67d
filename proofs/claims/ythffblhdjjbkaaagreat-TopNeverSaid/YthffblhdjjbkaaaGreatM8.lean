/- jsonin's Parser as plain data.; decimal.Number in the middle of a block; decimal.Number.End in the middle of a block -/
import Derived.Test.YthffblhdjjbkaaaGreatM4
import Derived.Test.YthffblhdjjbkaaaGreatM3
import Derived.Shelf.Bits.Mul64
set_option maxHeartbeats 100000000
set_option maxRecDepth 1000000
open Go.Lib (hid)
open Go.Proofs.Tryz
open Or (inl inr)
namespace Go.Tru
structure Js where
 l:Lex
 depth:Int
 maps:List Bool
 next:Int
 e:Int
def Js.new (d:Int):Js:=⟨Lex.new,d,[],0,0⟩
def Js.behind (p:Js):Js:={p with next:=if p.maps= [] then 6 else 5}
def Js.fail (p:Js) (e:Int):Option Ev×Js:=(none,{p with e:=e})
def Js.value (p:Js) (t:ej):Option Ev×Js:=
 if t.kind=91∨t.kind=123 then
  if(p.maps.length:Int)=p.depth then p.fail 4
  else(some (if t.kind=123 then aO (-1) else aN (-1)),{p with maps:=decide (t.kind=123)::p.maps,next:=if t.kind=123 then 2 else 1})
 else if t.kind=115 then(some (ah t.text),p.behind)
 else if t.kind=110 then(some (ay t.neg t.jM),p.behind)
 else if t.kind=116∨t.kind=102 then(some (aq (decide (t.kind=116))),p.behind)
 else if t.kind=48 then(some ar,p.behind)
 else p.fail 2
def Js.ends (p:Js) (t:ej):Bool:=
 match p.maps with
 | []=>false
 |m::_=>decide (t.kind=93∧m=false∧(p.next=1∨p.next=5)∨t.kind=125∧m=true∧(p.next=2∨p.next=5))
def Js.token (p:Js) (t:ej):Option Ev×Js:=
 if t.kind=58∧p.next=4 then(none,{p with next:=0})
 else if t.kind=44∧p.next=5 then(none,{p with next:=if p.maps.head?=some true then 3 else 0})
 else if p.ends t=true then(some aL,Js.behind {p with maps:=p.maps.tail})
 else if t.kind=115∧(p.next=3∨p.next=2) then(some (ah t.text),{p with next:=4})
 else if p.next≠0∧p.next≠1 then p.fail 2
 else p.value t
def Js.j0 (p:Js):List ej→List Ev×Js
 | []=>([],p)
 |t::l=>if(p.token t).2.e≠0 then([],(p.token t).2) else((p.token t).1.toList++((p.token t).2.j0 l).1,((p.token t).2.j0 l).2)
def Js.parts (p:Js) (l:List ej) (e:Int):List Ev×Js:=
 if(p.j0 l).2.e≠0 then p.j0 l else((p.j0 l).1,{(p.j0 l).2 with e:=e})
def Js.step (p:Js) (b:Int):List Ev×Js:=
 if p.e≠0 then([],p) else Js.parts {p with l:=(p.l.step b).1} (p.l.step b).2 (p.l.step b).1.e
def Js.fin (p:Js):List Ev×Js:=
 if p.e≠0 then([],p)
 else
  let r:=Js.parts {p with l:=p.l.fin.1} p.l.fin.2 p.l.fin.1.e
  if r.2.e=0∧r.2.next≠6 then(r.1,{r.2 with e:=3}) else r
def Js.run (p:Js):List UInt8→List Ev×Int
 | []=>(p.fin.1,p.fin.2.e)
 |b::l=>if(p.step b.toNat).2.e≠0 then((p.step b.toNat).1,(p.step b.toNat).2.e) else((p.step b.toNat).1++((p.step b.toNat).2.run l).1,((p.step b.toNat).2.run l).2)
structure Js.Fit (p:Js):Prop where
 l:p.l.Fit∧p.l.Sl
 depth:1≤p.depth∧p.depth≤16
 maps:(p.maps.length:Int)≤p.depth
 next:0≤p.next∧p.next≤6
 more:p.next=5→p.maps≠[]
theorem Js.eS {d:Int} (h:1≤d∧d≤16):(Js.new d).Fit:=⟨⟨Lex.eS,Lex.S4⟩,h,by simp[Js.new];omega,by simp[Js.new],by simp[Js.new]⟩
theorem Js.s9 {p:Js} (h1:p.l.Fit∧p.l.Sl) (h2:1≤p.depth∧p.depth≤16) (h3:(p.maps.length:Int)≤p.depth):p.behind.Fit:=by
 unfold Js.behind;refine⟨h1,h2,h3,?_,?_⟩
 ·simp only[];split<;>omega
 ·intro h5;simp only[] at h5⊢;split at h5
  ·omega
  ·assumption
theorem Js.jB {p:Js} (h:p.Fit):p.behind.Fit:=Js.s9 h.l h.depth h.maps
theorem Js.fx {p:Js} (h:p.Fit) (e:Int):(p.fail e).2.Fit:=⟨h.l,h.depth,h.maps,h.next,h.more⟩
theorem Js.iB {p:Js} (h:p.Fit) (t:ej):(p.value t).2.Fit:=by
 unfold Js.value;split
 ·split
  ·exact Js.fx h _
  ·rename_i fX;refine⟨h.l,h.depth,?_,?_,?_⟩
   ·have:=h.maps;simp only[List.length_cons];omega
   ·simp only[];split<;>omega
   ·intro h5;simp
 split
 ·exact Js.jB h
 split
 ·exact Js.jB h
 split
 ·exact Js.jB h
 split
 ·exact Js.jB h
 ·exact Js.fx h _
theorem Js.sf {p:Js} (h:p.Fit) (t:ej):(p.token t).2.Fit:=by
 unfold Js.token;split
 ·exact⟨h.l,h.depth,h.maps,by simp,by simp⟩
 split
 ·refine⟨h.l,h.depth,h.maps,?_,?_⟩
  ·simp only[];split<;>omega
  ·intro h5;simp only[] at h5;split at h5<;>omega
 split
 ·refine Js.s9 h.l h.depth ?_;have:=h.maps;simp only[List.length_tail];omega
 split
 ·exact⟨h.l,h.depth,h.maps,by simp,by simp⟩
 split
 ·exact Js.fx h _
 ·exact Js.iB h t
theorem Js.O3 {p:Js} (h:p.Fit): ∀l,(p.j0 l).2.Fit:=by
 intro l;induction l generalizing p with
 |nil=>exact h
 |cons t l ih=>
  unfold Js.j0;split
  ·exact Js.sf h t
  ·exact ih (Js.sf h t)
theorem Js.La {p:Js} (h:p.Fit) (l:List ej) (e:Int):(p.parts l e).2.Fit:=by
 have h2:=Js.O3 h l;unfold Js.parts;split
 ·exact h2
 ·exact⟨h2.l,h2.depth,h2.maps,h2.next,h2.more⟩
theorem Js.dN {p:Js} (h:p.Fit) (b:Int):(p.step b).2.Fit:=by
 unfold Js.step;split
 ·exact h
 ·exact Js.La (p:={p with l:=(p.l.step b).1}) ⟨⟨Lex.dN h.l.1 h.l.2 b,Lex.Ch h.l.2 b⟩,h.depth,h.maps,h.next,h.more⟩ _ _
/-! ### how many parts; they are clear -/
theorem Js.O4 (p:Js): ∀l:List ej,(p.j0 l).1.length≤l.length:=by
 intro l;induction l generalizing p with
 |nil=>exact Nat.le_refl _
 |cons t l ih=>
  unfold Js.j0;split
  ·exact Nat.zero_le _
  ·have:=ih (p.token t).2;simp only[List.length_append,List.length_cons];cases(p.token t).1<;>simp<;>omega
theorem Js.yL (p:Js) (l:List ej) (e:Int):(p.parts l e).1.length≤l.length:=by unfold Js.parts;split<;>exact Js.O4 p l
theorem Lex.ta (L:Lex) (x:Int):(L.aj x).2.length≤1:=by
 unfold Lex.aj;repeat' split
 all_goals simp
theorem Lex.yM (L:Lex):L.ended.2.length≤1:=by unfold Lex.ended;split<;>simp
theorem Lex.nQ (L:Lex) (x:Int):(L.step x).2.length≤2:=by
 unfold Lex.step;split
 ·simp
 ·simp only[];split
  ·simp
  ·unfold Lex.jZ;split
   ·unfold Lex.text;split<;>simp
   split
   ·unfold Lex.word;repeat' split
    all_goals simp
   split
   ·unfold Lex.number;have h1:=Lex.yM {L with n:=L.n.after x,e:=0};have h2:=Lex.ta (Lex.ended {L with n:=L.n.after x,e:=0}).1 x;repeat' split
    ·simp
    ·simp
    ·simp only[List.length_append];omega
   ·have:=Lex.ta L x;omega
theorem Lex.zt (L:Lex):L.fin.2.length≤1:=by
 unfold Lex.fin;repeat' split
 ·simp
 ·exact Lex.yM L
 ·simp
theorem Js.nQ (p:Js) (b:Int):(p.step b).1.length≤2:=by
 unfold Js.step;split
 ·simp
 ·exact Nat.le_trans (Js.yL _ _ _) (Lex.nQ p.l b)
theorem Js.zt (p:Js):p.fin.1.length≤1:=by
 unfold Js.fin;split
 ·simp
 ·have:=Js.yL {p with l:=p.l.fin.1} p.l.fin.2 p.l.fin.1.e;have h2:=Lex.zt p.l;simp only[];split<;>exact Nat.le_trans this h2
theorem pS (s:ByteArray):Clear (ah s):=inr (inr (inr (inl ⟨_,rfl⟩)))
theorem yI:Clear aL:=inr (inr (inr (inr (inr (inr (inr rfl))))))
theorem Js.fF {p:Js} {t:ej}: ∀q,(p.value t).1=some q→Clear q:=by
 intro q hq;unfold Js.value at hq;split at hq
 ·split at hq
  ·cases hq
  ·simp only[Option.some.injEq] at hq;subst hq;split
   ·exact inr (inr (inr (inr (inr (inr (inl ⟨-1,by omega,rfl⟩))))))
   ·exact inr (inr (inr (inr (inr (inl ⟨-1,by omega,rfl⟩)))))
 split at hq
 ·simp only[Option.some.injEq] at hq;subst hq;exact pS _
 split at hq
 ·simp only[Option.some.injEq] at hq;subst hq;exact inr (inr (inl ⟨_,_,rfl⟩))
 split at hq
 ·simp only[Option.some.injEq] at hq;subst hq;exact inr (inl ⟨_,rfl⟩)
 split at hq
 ·simp only[Option.some.injEq] at hq;subst hq;exact inl rfl
 ·cases hq
theorem Js.td {p:Js} {t:ej}: ∀q,(p.token t).1=some q→Clear q:=by
 intro q hq;unfold Js.token at hq;split at hq
 ·cases hq
 split at hq
 ·cases hq
 split at hq
 ·simp only[Option.some.injEq] at hq;subst hq;exact yI
 split at hq
 ·simp only[Option.some.injEq] at hq;subst hq;exact pS _
 split at hq
 ·cases hq
 ·exact Js.fF q hq
theorem Js.Gz (p:Js): ∀l:List ej,∀q∈(p.j0 l).1,Clear q:=by
 intro l;induction l generalizing p with
 |nil=>intro q hq;cases hq
 |cons t l ih=>
  intro q hq;unfold Js.j0 at hq;split at hq
  ·cases hq
  ·simp only[List.mem_append] at hq;rcases hq with hq|hq
   ·exact Js.td (p:=p) (t:=t) q (by simpa using hq)
   ·exact ih _ q hq
theorem Js.te (p:Js) (l:List ej) (e:Int): ∀q∈(p.parts l e).1,Clear q:=by unfold Js.parts;split<;>exact Js.Gz p l
theorem Js.pO (p:Js) (b:Int): ∀q∈(p.step b).1,Clear q:=by
 unfold Js.step;split
 ·intro q hq;cases hq
 ·exact Js.te _ _ _
theorem Js.Lb (p:Js): ∀q∈p.fin.1,Clear q:=by
 unfold Js.fin;split
 ·intro q hq;cases hq
 ·simp only[];split<;>exact Js.te _ _ _
end Go.Tru
namespace Go.Proofs.YthffblhdjjbkaaaGreat
open Go.RowKit Go.Tru
theorem Tz (x y:Nat) (hx:x<18446744073709551616) (hy:y<18446744073709551616) (w:World):Calls prog 163 #[.int .u64 x,.int .u64 y] w fun e w'=>e= .returned (.tuple #[.int .u64 ((x*y/18446744073709551616:Nat):Int),.int .u64 ((x*y % 18446744073709551616:Nat):Int)])∧w=w':=by
 obtain⟨bd,bt,bw,hhi⟩:=Lib.mul64_hi x y hx hy;have ba:=Lib.half_mul_le (a:=x/4294967296) (b:=y/4294967296) (by omega) (by omega);have bb:=Lib.half_mul_le (a:=x/4294967296) (b:=y % 4294967296) (by omega) (by omega);have bc:=Lib.half_mul_le (a:=x % 4294967296) (b:=y/4294967296) (by omega) (by omega);have ba':x/4294967296*(y/4294967296)<18446744073709551616:=by omega
 have bb':x/4294967296*(y % 4294967296)<18446744073709551616:=by omega
 have bc':x % 4294967296*(y/4294967296)<18446744073709551616:=by omega
 have bh1:x/4294967296*(y/4294967296)+(x/4294967296*(y % 4294967296)+x % 4294967296*(y % 4294967296)/4294967296)/4294967296<18446744073709551616:=by omega
 have bh:x/4294967296*(y/4294967296)+(x/4294967296*(y % 4294967296)+x % 4294967296*(y % 4294967296)/4294967296)/4294967296+((x/4294967296*(y % 4294967296)+x % 4294967296*(y % 4294967296)/4294967296) % 4294967296+x % 4294967296*(y/4294967296))/4294967296<18446744073709551616:=by omega
 go_enter func163,ntmps163;go_wp2;simp only[Mul64.maskN x hx,Mul64.maskN y hy,Mul64.divN,Mul64.mulN,Mul64.addN,Mul64.wrapN _ bd,Mul64.wrapN _ bb',Mul64.wrapN _ bt,Mul64.maskN _ bt,Mul64.wrapN _ bc',Mul64.wrapN _ bw,Mul64.wrapN _ ba',Mul64.wrapN _ bh1,Mul64.wrapN _ bh,Mul64.wrapM (x*y)];rw[hhi];go_ret2;exact⟨rfl,rfl⟩
theorem LM (x y:Int) (hx:0≤x) (hy:0≤y) (w:World):(callFunc 164 #[.int .u64 x,.int .u64 y,.int .u64 0]).run prog w= .ok (.value (.tuple #[.int .u64 ((x+y) % 18446744073709551616),.int .u64 ((x+y)/18446744073709551616)])) w:=by rw[run_callFunc_extern func164 (by kernel_rfl) (by kernel_rfl) (by kernel_rfl) (e:=add64Entry) (by kernel_rfl),run_add64 x y 0 hx hy (by omega) (by omega)];simp[Result.andThen]
theorem rk {w:World} {b:Nat} {pre post:List Value} {n:cM} {t:TypeId} {off:Nat} (h:Has w b (pre++n.cells++post) t) (ho:off=pre.length):w.cell? ⟨b,off,none⟩=some (.bool n.neg)∧w.cell? ⟨b,off+1,none⟩=some (.bool n.minus)∧w.cell? ⟨b,off+2,none⟩=some (.bool n.digits)∧w.cell? ⟨b,off+3,none⟩=some (.bool n.zero)∧w.cell? ⟨b,off+4,none⟩=some (.int .u64 n.v)∧w.cell? ⟨b,off+5,none⟩=some (.bool n.top)∧w.cell? ⟨b,off+6,none⟩=some (.bool n.cK)∧w.cell? ⟨b,off+7,none⟩=some (.int .i64 n.e):=⟨bR h ho 0 (by simp[cM.cells]),bR h ho 1 (by simp[cM.cells]),bR h ho 2 (by simp[cM.cells]),bR h ho 3 (by simp[cM.cells]),bR h ho 4 (by simp[cM.cells]),bR h ho 5 (by simp[cM.cells]),bR h ho 6 (by simp[cM.cells]),bR h ho 7 (by simp[cM.cells])⟩
theorem num_add (b:Nat) (pre post:List Value) (t:TypeId) (n:cM) (d:Nat) (w:World) (h:Has w b (pre++n.cells++post) t) (off:Nat) (bK:off=pre.length) (hd:d≤9) (hv:n.v<18446744073709551616):Calls prog 158 #[.pointer (some ⟨b,off,none⟩),.int .u64 d] w fun e w'=>e= .returned (.tuple #[])∧Has w' b (pre++(n.add d).cells++post) t∧I [b] w w':=by
 obtain⟨neg,minus,digits,zero,v,top,cK,e⟩:=n;have H:=hid h;obtain⟨_,_,_,_,g4,g5,g6,_⟩:=rk h bK;have f4:=h.free (off+4);have f5:=h.free (off+5);have f6:=h.free (off+6);have HO:=hid bK;have hm:=Tz v 10 hv (by omega);have ha:=fun W=>LM ((v:Int)*10 % 18446744073709551616) d (by omega) (by omega) W;clear h bK;cases top with
 |true=>
  go_enter func158,ntmps158;go_wp2;(try simp only[Exit.inBlock,Exit.then])
  refine bodyPost_ret (results_none rfl _ _ _) rfl ?_;refine⟨rfl,?_,(I.refl _ _).ax _⟩;exact(cd H.out HO.out 6 _ (by simp[cM.cells])).conv (by simp[cM.cells,cM.add])
 |false=>
  cases cK with
  |true=>
   go_enter func158,ntmps158;go_wp2;(try simp only[Exit.inBlock,Exit.then])
   refine bodyPost_ret (results_none rfl _ _ _) rfl ?_;refine⟨rfl,?_,(I.refl _ _).ax _⟩;exact(cd H.out HO.out 6 _ (by simp[cM.cells])).conv (by simp[cM.cells,cM.add])
  |false=>
   go_enter func158,ntmps158;go_wp2_with (go_at_call 163;refine(hm _).mono ?_;rintro e w' ⟨rfl,rfl⟩)
   go_end0;refine⟨rfl,?_,(((I.refl _ _).ax _).ax _).ax _⟩;have h1:(v:Int)*10/18446744073709551616+((v:Int)*10 % 18446744073709551616+d)/18446744073709551616=(((v*10+d)/18446744073709551616:Nat):Int):=by omega
   have h2:((v:Int)*10+d) % 18446744073709551616=(((v*10+d) % 18446744073709551616:Nat):Int):=by omega
   have h3:((((v*10+d)/18446744073709551616:Nat):Int)==1)=((v*10+d)/18446744073709551616==1):=by rw[Bool.eq_iff_iff,beq_iff_eq,beq_iff_eq];omega
   have h4:decide (1<(((v*10+d)/18446744073709551616:Nat):Int))=decide (1<(v*10+d)/18446744073709551616):=by rw[decide_eq_decide];omega
   rw[h1,h2,h3,h4];exact(cd (cd (cd H.out HO.out 4 _ (by simp[cM.cells])) HO.out 5 _ (by simp[cM.cells])) HO.out 6 _ (by simp[cM.cells])).conv (by simp[cM.cells,cM.add])
theorem LN (n:cM) (x:Int) (hd:gB x=false) (he:n.e=0) (hg:n.digits=true) (hx:x=46∨x=101∨x=69):n.kf x=false∧n.after x={n with e:=6}:=by
 constructor
 ·simp[cM.kf,hd,hg]
 ·unfold cM.after;rw[if_neg (by rw[he];simp),if_neg (by simp[hd]),if_neg (by simp[hg]),if_pos ⟨hg,hx⟩]
theorem DV (b:Nat) (pre post:List Value) (t:TypeId) (n:cM) (x:Int) (w:World) (h:Has w b (pre++n.cells++post) t) (off:Nat) (bK:off=pre.length) (hx:0≤x∧x≤255) (hv:n.v<18446744073709551616):Calls prog 151 #[.pointer (some ⟨b,off,none⟩),.int .u8 x] w fun e w'=>e= .returned (.tuple #[.bool (n.kf x),.int .i64 (n.after x).e])∧Has w' b (pre++(n.after x).cells++post) t∧I [b] w w':=by
 obtain⟨cy,cQ⟩:=hx;obtain⟨neg,minus,digits,zero,v,top,cK,e⟩:=n;have H:=hid h;obtain⟨g0,g1,g2,g3,g4,g5,g6,g7⟩:=rk h bK;have f0:=h.free off;have f1:=h.free (off+1);have f2:=h.free (off+2);have f3:=h.free (off+3);have f7:=h.free (off+7);have HO:=hid bK;clear h bK;by_cases he:e=0
 ·subst he;by_cases hd:48≤x∧x≤57
  ·have pa:gB x=true:=by simpa[gB] using hd
   obtain⟨U5,Zp⟩:=hd;cases zero with
   |false=>
    have F9:=num_add b pre post t ⟨neg,minus,digits,false,v,top,cK,0⟩ (x-48).toNat w H.out off HO.out (by omega) hv;rw[show((x-48).toNat:Int)=x-48 by omega] at F9;obtain⟨m,hm⟩: ∃m,m=cM.add ⟨neg,minus,digits,false,v,top,cK,0⟩ (x-48).toNat:=⟨_,rfl⟩
    rw[←hm] at F9;have hdg:m.digits=digits:=by rw[hm];unfold cM.add;split<;>rfl
    have hme:m.e=0:=by rw[hm];exact(add_neg _ _).2.2
    have ji:cM.after ⟨neg,minus,digits,false,v,top,cK,0⟩ x={m with zero:= !digits&&x==48,digits:=true}:=by unfold cM.after;rw[if_neg (by simp),if_pos ⟨pa,rfl⟩,hm]
    have oy:cM.kf ⟨neg,minus,digits,false,v,top,cK,0⟩ x=true:=by simp[cM.kf,pa]
    have HM:=hid hme;have HA:=hid ji;have HT:=hid oy;clear ji oy hm hme pa hv;cases digits;all_goals
     go_enter func151,ntmps151;go_wp2_with (go_at_call 158;refine F9.mono ?_;rintro e w1 ⟨rfl,h1,k1⟩;obtain⟨c0,c1,c2,c3,c4,c5,c6,c7⟩:=rk h1 HO.out;rw[hdg] at c2;have e2:=h1.free (off+2);have e3:=h1.free (off+3);have H1:=hid h1;have K1:=hid k1;clear h1 k1 g0 g1 g2 g3 g4 g5 g6 g7 f0 f1 f2 f3 f7)
     go_ret2;rw[HT.out,HA.out];refine⟨?_,?_,(K1.out.ax _).ax _⟩
     ·simp[HM.out]
     ·exact(cd (cd H1.out HO.out 3 _ (by simp[cM.cells])) HO.out 2 _ (by simp[cM.cells])).conv (by simp[cM.cells])
   |true=>
    have ji: ∀g,cM.after ⟨neg,minus,g,true,v,top,cK,0⟩ x=⟨neg,minus,g,true,v,top,cK,2⟩:=fun g=>by unfold cM.after;rw[if_neg (by simp),if_neg (by simp),if_neg (by omega),if_neg (by omega),if_pos (inr pa)]
    have oy: ∀g,cM.kf ⟨neg,minus,g,true,v,top,cK,0⟩ x=false:=fun g=>by
     have: ¬x=45:=by omega
     simp[cM.kf,this]
    have HA:=hid ji;have HT:=hid oy;have n1:(x==45)=false:=by rw[beq_eq_false_iff_ne];omega
    have n2:(x==46)=false:=by rw[beq_eq_false_iff_ne];omega
    have n3:(x==69)=false:=by rw[beq_eq_false_iff_ne];omega
    have n4:(x==101)=false:=by rw[beq_eq_false_iff_ne];omega
    clear ji oy pa hv;cases digits;all_goals go_enter func151,ntmps151;go_wp2;go_region;go_wp2;go_ret2;rw[HT.out,HA.out];exact⟨rfl,(cd H.out HO.out 7 _ (by simp[cM.cells])).drew.conv (by simp[cM.cells]),((I.refl _ _).ax _).drew⟩
  ·have pa:gB x=false:=by simpa[gB] using hd
   by_cases h45:x=45
   ·subst h45;have HV:=hid hv;clear hd pa hv;cases digits with
    |true=>
     cases minus;all_goals
      go_enter func151,ntmps151;go_wp2;go_region;go_wp2;go_ret2;refine⟨?_,?_,?_⟩
      ·simp[cM.kf,cM.after,gB]
      ·exact H.out.drew.conv (by simp[cM.after,gB])
      ·exact(I.refl _ _).drew
    |false=>
     cases minus with
     |true=>go_enter func151,ntmps151;go_wp2;go_region;go_wp2;go_ret2;rw[show cM.kf ⟨neg,true,false,zero,v,top,cK,0⟩ 45=false by simp[cM.kf,gB],show cM.after ⟨neg,true,false,zero,v,top,cK,0⟩ 45=⟨neg,true,false,zero,v,top,cK,2⟩ by simp[cM.after,gB]];exact⟨rfl,(cd H.out HO.out 7 _ (by simp[cM.cells])).drew.conv (by simp[cM.cells]),((I.refl _ _).ax _).drew⟩
     |false=>go_enter func151,ntmps151;go_wp2;go_ret2;rw[show cM.kf ⟨neg,false,false,zero,v,top,cK,0⟩ 45=true by simp[cM.kf,gB],show cM.after ⟨neg,false,false,zero,v,top,cK,0⟩ 45=⟨true,true,false,zero,v,top,cK,0⟩ by simp[cM.after,gB]];exact⟨rfl,(kU (cd H.out HO.out 1 _ (by simp[cM.cells])) HO.out _ (by simp[cM.cells])).conv (by simp[cM.cells]),((I.refl _ _).ax _).ax _⟩
   ·cases digits with
    |false=>
     have ji:cM.after ⟨neg,minus,false,zero,v,top,cK,0⟩ x=⟨neg,minus,false,zero,v,top,cK,2⟩:=by unfold cM.after;rw[if_neg (by simp),if_neg (by simp[pa]),if_neg (by simp[h45]),if_neg (by simp),if_pos (inl rfl)]
     have oy:cM.kf ⟨neg,minus,false,zero,v,top,cK,0⟩ x=false:=by simp[cM.kf,pa,h45]
     have HA:=hid ji;have HT:=hid oy;clear ji oy pa hv;rcases(show x<48∨57<x by omega) with hl|hl;all_goals clear hd;go_enter func151,ntmps151;go_wp2;go_region;go_wp2;go_ret2;rw[HT.out,HA.out];exact⟨rfl,(cd H.out HO.out 7 _ (by simp[cM.cells])).drew.conv (by simp[cM.cells]),((I.refl _ _).ax _).drew⟩
    |true=>
     by_cases hf:x=46∨x=101∨x=69
     ·clear hd h45;rcases hf with rfl|rfl|rfl;all_goals have HD:=hid pa;have HV:=hid hv;clear pa hv;go_enter func151,ntmps151;go_wp2;go_region;go_wp2;go_ret2;have ji:=LN ⟨neg,minus,true,zero,v,top,cK,0⟩ _ HD.out rfl rfl (by omega);rw[ji.1,ji.2];exact⟨rfl,(cd H.out HO.out 7 _ (by simp[cM.cells])).drew.conv (by simp[cM.cells]),((I.refl _ _).ax _).drew⟩
     ·have ji:cM.after ⟨neg,minus,true,zero,v,top,cK,0⟩ x=⟨neg,minus,true,zero,v,top,cK,0⟩:=by unfold cM.after;rw[if_neg (by simp),if_neg (by simp[pa]),if_neg (by simp),if_neg (by simp[hf]),if_neg (by simp[pa])]
      have oy:cM.kf ⟨neg,minus,true,zero,v,top,cK,0⟩ x=false:=by simp[cM.kf,pa]
      have HA:=hid ji;have HT:=hid oy;have n2:(x==46)=false:=by rw[beq_eq_false_iff_ne];omega
      have n3:(x==101)=false:=by rw[beq_eq_false_iff_ne];omega
      have n4:(x==69)=false:=by rw[beq_eq_false_iff_ne];omega
      clear ji oy pa hv hf;rcases(show x<48∨57<x by omega) with hl|hl;all_goals clear hd;go_enter func151,ntmps151;go_wp2;go_region;go_wp2;go_ret2;rw[HT.out,HA.out];exact⟨rfl,H.out.drew,(I.refl _ _).drew⟩
 ·go_enter func151,ntmps151;go_wp2;all_goals
   go_region;go_wp2;go_ret2;refine⟨?_,?_,(I.refl _ _).drew⟩
   ·simp[cM.kf,cM.after,he]
   ·exact H.out.drew.conv (by simp[cM.after,he])
def qb (r:Bool×Nat×Int):Value:= .tuple #[.agg #[.bool r.1,.int .u64 r.2.1],.int .i64 r.2.2]
theorem TA (b:Nat) (pre post:List Value) (t:TypeId) (n:cM) (w:World) (h:Has w b (pre++n.cells++post) t) (off:Nat) (bK:off=pre.length) (hv:n.v<18446744073709551616):Calls prog 118 #[.pointer (some ⟨b,off,none⟩)] w fun e w'=>e= .returned (qb n.result)∧I [] w w':=by
 obtain⟨neg,minus,digits,zero,v,top,cK,e⟩:=n;obtain⟨g0,g1,g2,g3,g4,g5,g6,g7⟩:=rk h bK;have hb:=h.lt;have hw: ¬w.heap.size=b:=by omega
 clear h bK;by_cases he:e=0
 ·subst he;cases digits with
  |false=>
   go_enter func118,ntmps118;go_wp2;(try simp only[Exit.inBlock,Exit.then])
   refine bodyPost_ret (v:=_) ?_ rfl ⟨rfl,?_⟩
   ·rw[results_cell_tmp rfl];go_simp;simp[qb,cM.result]
   ·exact(I.refl _ _).alloc _
  |true=>
   cases cK with
   |true=>
    go_enter func118,ntmps118;go_wp2;(try simp only[Exit.inBlock,Exit.then])
    refine bodyPost_ret (v:=_) ?_ rfl ⟨rfl,?_⟩
    ·rw[results_cell_tmp rfl];go_simp;simp[qb,cM.result]
    ·exact(I.refl _ _).alloc _
   |false=>
    rcases Nat.eq_zero_or_pos v with rfl|hp
    ·cases top<;>cases neg;all_goals
      go_enter func118,ntmps118;go_wp2;(try simp only[Exit.inBlock,Exit.then])
      refine bodyPost_ret (v:=_) ?_ rfl ⟨rfl,?_⟩
      ·rw[results_cell_tmp rfl];go_simp;simp[qb,cM.result];try decide
      ·exact(I.refl _ _).alloc _
    ·have mo:decide ((0:Int)<v)=true:=by rw[decide_eq_true_eq];omega
     have eK:IntKind.u64.wrap ((v:Int)-1)=(((v+18446744073709551615) % 18446744073709551616:Nat):Int):=by rw[IntKind.wrap_u64];omega
     have iP:(0:Int)<v:=by omega
     have HP:=hid hp;clear hp hv;cases top<;>cases neg;all_goals
      go_enter func118,ntmps118;go_wp2;(try simp only[Exit.inBlock,Exit.then])
      refine bodyPost_ret (v:=_) ?_ rfl ⟨rfl,?_⟩
      ·rw[results_cell_tmp rfl];go_simp;simp[qb,cM.result,HP.out]
      ·exact(I.refl _ _).alloc _
 ·go_enter func118,ntmps118;go_wp2;all_goals
   go_region;go_wp2;(try simp only[Exit.inBlock,Exit.then])
   refine bodyPost_ret (v:=_) ?_ rfl ⟨rfl,?_⟩
   ·rw[results_cell_tmp rfl];go_simp;simp[qb,cM.result,he]
   ·first|exact(I.refl _ _).alloc _|exact((I.refl _ _).alloc _).drew
end Go.Proofs.YthffblhdjjbkaaaGreat
