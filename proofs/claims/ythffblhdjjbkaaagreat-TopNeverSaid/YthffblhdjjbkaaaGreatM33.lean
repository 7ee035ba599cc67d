/- queue.Queue at an offset of a block -/
import Derived.Test.YthffblhdjjbkaaaGreatM30
import Derived.Test.YthffblhdjjbkaaaGreatM23
import Derived.Deep.AppendSrc
import Derived.StillTailTactics
set_option maxHeartbeats 100000000
set_option maxRecDepth 1000000
open Go.Lib (hid)
open Go.Proofs.Tryz
open Or (inl inr)
namespace Go.Tru
open Go.RowKit
def fL (q:List (List UInt8)):List Value:=q.map fun l=> .string (bytesOf l)
theorem lZ (q:List (List UInt8)):(fL q).length=q.length:=by simp[fL]
def ec (w:World) (v:Value) (q:List (List UInt8)):Prop:=
 (v= .slice none 0 0∧q= [])∨∃g o c cur,v= .slice (some ⟨g,o,none⟩) q.length c∧w.heap[g]? =some (.cells cur 9 (0,0))∧q.length≤c∧c≤maxLen∧o+c≤cur.size∧(cur.toList.drop o).take q.length=fL q
theorem ec.nil (w:World):ec w (.slice none 0 0) []:=inl ⟨rfl,rfl⟩
theorem ec.shape {w:World} {v:Value} {q:List (List UInt8)} (h:ec w v q): ∃a c,v= .slice a q.length c:=by
 rcases h with⟨rfl,rfl⟩|⟨g,o,c,cur,rfl,_⟩
 ·exact⟨_,_,rfl⟩
 ·exact⟨_,_,rfl⟩
theorem ec.lt {w:World} {v:Value} {q:List (List UInt8)} (h:ec w v q): ∀i∈ae v,i<w.heap.size:=by
 intro i hi;rcases h with⟨rfl,rfl⟩|⟨g,o,c,cur,rfl,hg,_⟩
 ·simp[aR] at hi
 ·rw[aa] at hi;injection hi with hi;subst hi;exact lt_of_block hg
theorem ec.keeps {F:List Nat} {w w':World} {v:Value} {q:List (List UInt8)} (h:ec w v q) (k:I F w w') (hF: ∀i∈ae v,i∉F):ec w' v q:=by
 rcases h with⟨rfl,rfl⟩|⟨g,o,c,cur,rfl,hg,hr⟩
 ·exact ec.nil _
 ·exact inr ⟨g,o,c,cur,rfl,k.heap hg (hF g (aa.2 rfl)),hr⟩
theorem ec.head {w:World} {v:Value} {x:List UInt8} {q:List (List UInt8)} (h:ec w v (x::q)): ∃g o c,v= .slice (some ⟨g,o,none⟩) (q.length+1) c∧g<w.heap.size∧q.length+1≤c∧c≤maxLen∧w.cell? ⟨g,o,none⟩=some (.string (bytesOf x))∧w.frozen? ⟨g,o,none⟩=false:=by
 rcases h with⟨_,h⟩|⟨g,o,c,cur,rfl,hg,hn,hm,hs,ht⟩
 ·cases h
 ·refine⟨g,o,c,rfl,lt_of_block hg,hn,hm,?_,by simp[World.frozen?,hg]⟩;have h0:=congrArg (fun l=>l[0]?) ht;simp only[fL,List.map_cons,List.getElem?_cons_zero,List.length_cons] at h0;rw[List.getElem?_take_of_lt (by omega),List.getElem?_drop] at h0;simp only[World.cell?,hg];simpa using h0
open Go.K0 in
theorem ec.JR {w:World} {g o n c:Nat} {x y:List UInt8} {q:List (List UInt8)} (h:ec w (.slice (some ⟨g,o,none⟩) n c) (x::q)):ec (w.setCell ⟨g,o,none⟩ (.string (bytesOf y))) (.slice (some ⟨g,o,none⟩) n c) (y::q):=q29
open Go.K1 in
theorem ec.pop {w:World} {g o n c:Nat} {x:List UInt8} {q:List (List UInt8)} (h:ec w (.slice (some ⟨g,o,none⟩) n c) (x::q)):ec w (.slice (some ⟨g,o+1,none⟩) q.length (c-1)) q:=q29
structure Bk (w:World) (b:Nat) (pre post:List Value) (T:TypeId) (v:Value) (q:List (List UInt8)):Prop where
 az:Has w b (pre++[v,.int .i64 (cT q)]++post) T
 row:ec w v q
 own:b∉ae v
 full: ∀c∈q,c≠[]
theorem Bk.keeps {F:List Nat} {w w':World} {b:Nat} {pre post:List Value} {T:TypeId} {v:Value} {q:List (List UInt8)} (h:Bk w b pre post T v q) (k:I F w w') (hb:b∉F) (hF: ∀i∈ae v,i∉F):Bk w' b pre post T v q:=⟨h.az.keeps k hb,h.row.keeps k hF,h.own,h.full⟩
theorem Bk.facts {w:World} {b:Nat} {pre post:List Value} {T:TypeId} {v:Value} {q:List (List UInt8)} (h:Bk w b pre post T v q) {off:Nat} (ho:off=pre.length):w.cell? ⟨b,off,none⟩=some v∧w.cell? ⟨b,off+1,none⟩=some (.int .i64 (cT q))∧w.frozen? ⟨b,off,none⟩=false∧w.frozen? ⟨b,off+1,none⟩=false:=⟨bR h.az ho 0 (by simp),bR h.az ho 1 (by simp),h.az.free _,h.az.free _⟩
end Go.Tru
namespace Go.Proofs.YthffblhdjjbkaaaGreat
open Go.RowKit Go.Tru
theorem Qm:(Tryz.prog.info? 9).map (fun i=>(i.zero,i.size,i.bytes))=some (some (.string ⟨#[]⟩),1,16):=by kernel_rfl
theorem EZ {w:World} {ty:TypeId} {v:Value} {q:List (List UInt8)} (au:ec w v q) (ad:Addr) (t:List UInt8) (aJ:w.cell? (ad.add 0)=some (.string (bytesOf t))) (hlen:q.length≤1000000): ∃v' w',(Builtin.append_ #[38,38] ty #[v,.slice (some ad) 1 1]).run prog w= .ok v' w'∧ec w' v' (q++[t])∧I (ae v) w w'∧(v'.ownBlock=v.ownBlock∨v'.ownBlock=some w.heap.size):=by
 obtain⟨i0,hi,ko,gv,gW⟩:=info_parts Qm;have aaq:Src prog i0.size 38 (.slice (some ad) 1 1) 1 [.string (bytesOf t)] w:=Src.ofSlice w underlying38 ad 1 1 _ (by rw[gv];rfl) (fun j u hu=>by
  cases j with
  |zero=>simp only[List.getElem?_cons_zero,Option.some.injEq] at hu;rw[←hu];exact aJ
  |succ j=>simp at hu) (by simp[Value.oneCell'])
 have grow: ∀ (base:Option Addr) (cap:Nat) (hv:v= .slice base q.length cap) (hc:cap<q.length+1) (hold:(Builtin.firstCells i0.size q.length (.slice base q.length cap)).run prog w.drew= .ok (fL q).toArray w.drew),∃v' w',(Builtin.append_ #[38,38] ty #[v,.slice (some ad) 1 1]).run prog w= .ok v' w'∧ec w' v' (q++[t])∧I (ae v) w w'∧(v'.ownBlock=v.ownBlock∨v'.ownBlock=some w.heap.size):=by
  intro base cap hv hc hold;subst hv;have hr:=run_append_grow_src (P:=prog) w 38 38 ty 9 i0 (.string ⟨#[]⟩) underlying38 hi ko base q.length cap (fL q) hold (.slice (some ad) 1 1) 1 [.string (bytesOf t)] aaq (by omega) (by omega) (by rw[gW];exact growslice_fits (by omega) (by omega));have Ft:=grownCap_ge w (q.length+1) cap 9;refine⟨_,_,hr,inr ⟨w.heap.size,0,grownCap w (q.length+1) cap 9,_,by simp,heap_alloc_new w.drew _,by simpa using Ft,grownCap_le_maxLen w _ _ _ (by unfold maxLen;omega),?_,?_⟩,((I.refl _ _).drew).alloc _,inr rfl⟩
  ·simp only[Array.size_append,List.size_toArray,List.length_append,lZ,size_zeroCells,List.length_singleton];have:(Value.string ⟨#[]⟩).cells.size=1:=rfl;rw[this];omega
  ·simp only[List.drop_zero,Array.toList_append];rw[List.take_append_of_le_length (by simp[lZ]),List.take_of_length_le (by simp[lZ])];simp[fL]
 rcases au with⟨rfl,rfl⟩|⟨g,o,c,cur,rfl,hg,hn,hm,hs,ht⟩
 ·exact grow none 0 rfl (by simp) (by simpa[fL] using run_firstCells_none (P:=prog) w.drew i0.size 0 0 0)
 ·have XD: ∀j u,(fL q)[j]? =some u→w.cell? ((⟨g,o,none⟩:Addr).add j)=some u:=by
   intro j u hu;rw[←ht] at hu;have hj:j<q.length:=by have:=(List.getElem?_eq_some_iff.1 hu).1;simp only[List.length_take] at this;omega
   rw[List.getElem?_take_of_lt hj,List.getElem?_drop] at hu;rw[Addr.add_lit];simp only[World.cell?,hg];simpa using hu
  by_cases dH:q.length+1≤c
  ·have hr:=run_append_room_src (P:=prog) w 38 38 ty 9 i0 underlying38 hi g o q.length c (.slice (some ad) 1 1) 1 [.string (bytesOf t)] aaq dH (fun j hj=>by
    obtain rfl:j=0:=by simp at hj;exact hj
    rw[gv];simp only[World.cell?,hg];rw[Array.getElem?_eq_getElem (by omega)];rfl) (fun j hj=>by simp[World.frozen?,hg])
   rw[gv] at hr;refine⟨_,_,hr,inr ⟨g,o,c,cur.setIfInBounds (o+q.length*1) (.string (bytesOf t)),by simp,heap_setCell_same w g _ cur _ _ hg,by simpa using dH,hm,by simpa using hs,?_⟩,(I.refl _ _).setCell (p:=⟨g,_,none⟩) (inl (aa.2 rfl)) _,inl rfl⟩;have aar:q.length<(cur.toList.drop o).length:=by simp[Array.length_toList];omega
   rw[Array.toList_setIfInBounds,Nat.mul_one,List.drop_set,if_neg (by omega),show o+q.length-o=q.length by omega,List.length_append,List.length_singleton,List.take_succ_eq_append_getElem (by simpa using aar),List.take_set_of_le (by omega),ht];simp[fL]
  ·exact grow (some ⟨g,o,none⟩) c rfl (by omega) (run_firstCells_some (P:=prog) w.drew i0.size q.length ⟨g,o,none⟩ q.length c (fL q) (by rw[lZ,gv,Nat.mul_one]) (by simpa using XD))
theorem T2 {ops:Array Oper} {rest:List Oper} {o:Oper} {a:Act} {w:World} {Q:Exit→Act→World→Prop} (sU:o.guard=none) (s x:Operand) (ho:o.op= .call {callee:= .builtin .append,args:= #[s,x],argTypes:= #[38,38]}) (v:Value) (q:List (List UInt8)) (hs:a.eval s=v) (au:ec w v q) (ad:Addr) (t:List UInt8) (hx:a.eval x= .slice (some ad) 1 1) (aJ:w.cell? (ad.add 0)=some (.string (bytesOf t))) (hlen:q.length≤1000000) (h: ∀v' w',ec w' v' (q++[t])→I (ae v) w w'→(v'.ownBlock=v.ownBlock∨v'.ownBlock=some w.heap.size)→wpList prog ops Q rest (a.put o.dst v') w'):wpList prog ops Q (o::rest) a w:=by refine wpList_plain sU fun K hK=> ?_;obtain⟨v',w',hr,h2,h3,h4⟩:=EZ (ty:=o.type) au ad t aJ hlen;unfold Oper.wp execOp;simp only[ho,resolve,invoke,builtin,Sem.run_bind,Sem.run_pure,Result.andThen_ok,List.map_toArray,List.map_cons,List.map_nil,hs,hx,hr];exact hK _ _ (h v' w' h2 h3 h4)
theorem mN (w:World) (b:Nat) (pre post:List Value) (T:TypeId) (v:Value) (q:List (List UInt8)) (h:Bk w b pre post T v q) (off:Nat) (ho:off=pre.length):Calls prog 70 #[.pointer (some ⟨b,off,none⟩)] w fun e w'=>e= .returned (.int .i64 (cT q))∧w=w':=by
 obtain⟨c0,c1,f0,f1⟩:=h.facts ho;clear h ho;go_enter func70,ntmps70;go_wp2_with fail
 go_ret;exact⟨rfl,rfl⟩
theorem Mn (w:World) (b off:Nat):Calls prog 84 #[.pointer (some ⟨b,off,none⟩),.string (bytesOf [])] w fun e w'=>e= .returned (.tuple #[])∧w=w':=by
 show Calls prog 84 #[.pointer (some ⟨b,off,none⟩),.string ⟨#[]⟩] w _;go_enter func84,ntmps84;go_wp2_with fail
 refine bodyPost_ret_by (results_none rfl _ _ _) rfl ?_;exact⟨rfl,rfl⟩
theorem Qn (w:World) (b:Nat) (pre post:List Value) (T:TypeId) (v:Value) (q:List (List UInt8)) (h:Bk w b pre post T v q) (off:Nat) (ho:off=pre.length) (t:List UInt8) (hq:cT q≤1000000) (Mo:q.length≤1000000) (ht:t.length≤1000000):Calls prog 84 #[.pointer (some ⟨b,off,none⟩),.string (bytesOf t)] w fun e w'=>e= .returned (.tuple #[])∧∃v',Bk w' b pre post T v' (kj q t)∧I (b::ae v) w w'∧∀i∈ae v',i∈ae v∨w.heap.size≤i:=by
 by_cases h0:t= []
 ·subst h0;refine(Mn w b off).mono ?_;rintro e w' ⟨rfl,rfl⟩;exact⟨rfl,v,by simpa[kj] using h,I.refl _ _,fun i hi=>inl hi⟩
 ·have aeG:(bytesOf t).toList.isEmpty=false:=by rw[Lib.toList_data];simp[bytesOf,h0]
  obtain⟨c0,c1,f0,f1⟩:=h.facts ho;obtain⟨a,c,rfl⟩:=h.row.shape;obtain⟨S,hS⟩: ∃S,bytesOf t=S:=⟨_,rfl⟩
  have BI:S.size=t.length:=by rw[←hS,an]
  have bP:=h.az.lt;have eK:=da (x:=(cT q:Int)+(t.length:Int)) (by omega);have H:=hid h;have HO:=hid ho;have HS:=hid hS;rw[hS] at aeG⊢;clear h ho hS;go_enter func84,ntmps84;go_wp2_with (at_builtin;go_must (refine T2 rfl _ _ rfl _ q rfl (H.out.row.keeps ((I.refl [] _).alloc _) (by simp)) ⟨_,0,none⟩ t rfl (by rw[HS.out];exact aA [.string S] (by simp) 0 _ rfl) Mo ?_))
  intro v4 w4 dx re nK;obtain⟨a4,c4,tx⟩:=dx.shape;obtain⟨N,hN⟩: ∃N,(q++[t]).length=N:=⟨_,rfl⟩
  rw[hN] at tx;subst tx;clear hN;have uJ:=((I.refl (ae (.slice a q.length c)) w).alloc (.cells #[.string S] 9)).trans re;have mE:=H.out.az.keeps uJ H.out.own;have pK:=mE.lt;obtain⟨c0',YT,f0',f1'⟩:=(show w4.cell? ⟨b,off,none⟩=some (.slice a q.length c)∧w4.cell? ⟨b,off+1,none⟩=some (.int .i64 (cT q))∧w4.frozen? ⟨b,off,none⟩=false∧w4.frozen? ⟨b,off+1,none⟩=false from⟨bR mE HO.out 0 (by simp),bR mE HO.out 1 (by simp),mE.free _,mE.free _⟩)
  have Ci:b∉ae (.slice a4 N c4):=fun hm=>by
   rw[aa] at hm;rcases nK with h1|h1
   ·rw[h1] at hm;exact H.out.own (aa.2 hm)
   ·rw[h1] at hm;injection hm with hm;first|omega|(simp at hm;omega)
  have ef: ∀i∈ae (.slice a4 N c4),i∈ae (.slice a q.length c)∨w.heap.size≤i:=fun i hi=>by
   rw[aa] at hi⊢;rcases nK with h1|h1
   ·exact inl (h1▸hi)
   ·rw[h1] at hi;injection hi with hi;right;first|omega|(simp at hi;omega)
  have Ys:kj q t=q++[t]:=by unfold kj;rw[if_neg h0]
  have aas:((cT (q++[t]):Nat):Int)=(cT q:Int)+(t.length:Int):=by simp[cT]
  have aeI:=hid dx;have HK:=hid uJ;have HB:=hid mE;have T3:=hid Ci;have nI:=hid ef;have HQA:=hid Ys;have HQL:=hid aas;clear c0 c1 f0 f1 dx re nK uJ mE Ci ef Ys aas;go_wp2_with fail
  go_end0;have bn:=cd (kU HB.out HO.out (.slice a4 N c4) (by simp)) HO.out 1 (.int .i64 ((cT q:Int)+(t.length:Int))) (by simp);have Pc:I (b::ae (.slice a q.length c)) w ((w4.setCell ⟨b,off,none⟩ (.slice a4 N c4)).setCell ⟨b,off+1,none⟩ (.int .i64 ((cT q:Int)+(t.length:Int)))):=(((HK.out.mono mc).setCell (inl (by simp)) _).setCell (inl (by simp)) _)
  refine⟨rfl,.slice a4 N c4,?_,?_,nI.out⟩
  ·rw[HQA.out];refine⟨bn.conv (by simp[HQL.out]),?_,T3.out,?_⟩
   ·exact(aeI.out.keeps ((I.refl [b] w4).ax _) (fun i hi hm=>T3.out (by rw[List.mem_singleton] at hm;exact hm▸hi))).keeps ((I.refl [b] _).ax _) (fun i hi hm=>T3.out (by rw[List.mem_singleton] at hm;exact hm▸hi))
   ·intro c hc;rcases List.mem_append.1 hc with hc|hc
    ·exact H.out.full c hc
    ·rw[List.mem_singleton] at hc;exact hc▸h0
  ·exact Pc
theorem _root_.Go.Tru.cR (c:List UInt8) (r:List (List UInt8)):cT (c::r)=c.length+cT r:=by simp[cT]
theorem _root_.Go.Tru.qd: ∀ (q:List (List UInt8)) (m:Nat),(∀c∈q,c≠[])→cT q≤m→bm m q=(q.flatten,[])
 | [],m,_,_=>by simp[bm]
 |c::r,m,hf,hm=>by rw[cR] at hm;have hc:0<c.length:=List.length_pos_iff.2 (hf c ms);unfold bm;rw[if_neg (by omega),if_neg (by omega),qd r (m-c.length) (fun x hx=>hf x (List.mem_cons_of_mem _ hx)) (by omega)];simp
theorem _root_.Go.Tru.nC {c:List UInt8} {rest:List (List UInt8)} {r:Nat} (h0:r≠0) (h:r<c.length):bm r (c::rest)=(c.take r,c.drop r::rest):=by unfold bm;rw[if_neg h0,if_pos h]
theorem _root_.Go.Tru.gH {c:List UInt8} {rest:List (List UInt8)} {r:Nat} (h0:r≠0) (h: ¬r<c.length):bm r (c::rest)=(c++(bm (r-c.length) rest).1,(bm (r-c.length) rest).2):=by
 conv=>lhs;unfold bm
 rw[if_neg h0,if_neg h]
theorem _root_.Go.Tru.jG (q:List (List UInt8)):bm 0 q=([],q):=by cases q<;>simp[bm]
theorem _root_.Go.Tru.oB (l:List UInt8):(bytesOf l).data.toList=l:=by simp[bytesOf]
theorem _root_.Go.Tru.tF {S:ByteArray} {c:List UInt8} (h:S.data.toList=c) {r:Nat}:bytesOf (c.drop r)=S.extract r c.length:=by apply ByteArray.ext;apply Array.ext';rw[Lib.extract_data,oB,h,List.take_of_length_le (by simp)]
theorem _root_.Go.Tru.Bk.aat {w:World} {b:Nat} {pre post:List Value} {T:TypeId} {g o n cap:Nat} {c:List UInt8} {rest:List (List UInt8)} (h:Bk w b pre post T (.slice (some ⟨g,o,none⟩) n cap) (c::rest)) {off:Nat} (ho:off=pre.length) {r:Nat} (hr:r<c.length) {sv nv:Value} (hs:sv= .string (bytesOf (c.drop r))) (hn:nv= .int .i64 (cT (c.drop r::rest))):Bk ((w.setCell ⟨g,o,none⟩ sv).setCell ⟨b,off+1,none⟩ nv) b pre post T (.slice (some ⟨g,o,none⟩) n cap) (c.drop r::rest):=by
 subst hs hn;have lr:b≠g:=fun e=>h.own (aa.2 (by rw[e];rfl));refine⟨(cd (h.az.other (p:=⟨g,o,none⟩) lr _) ho 1 _ (by simp)).conv (by simp),h.row.JR.keeps ((I.refl [b] _).ax _) (fun i hi hm=>h.own (by rw[List.mem_singleton] at hm;exact hm▸hi)),h.own,?_⟩;intro x hx;rcases List.mem_cons.1 hx with rfl|hx
 ·intro e;have:=congrArg List.length e;simp at this;omega
 ·exact h.full x (List.mem_cons_of_mem _ hx)
theorem _root_.Go.Tru.Bk.E1 {w:World} {b:Nat} {pre post:List Value} {T:TypeId} {g o n cap:Nat} {c y:List UInt8} {rest:List (List UInt8)} (h:Bk w b pre post T (.slice (some ⟨g,o,none⟩) n cap) (c::rest)) {off:Nat} (ho:off=pre.length) {o2:Nat} {sv:Value} {x:Int} (hs:sv= .string (bytesOf y)) (ID:o2=o+1∨(cap=1∧o2=o)) (hn:x=(cT rest:Nat)):Bk (((w.setCell ⟨g,o,none⟩ sv).setCell ⟨b,off,none⟩ (.slice (some ⟨g,o2,none⟩) rest.length (cap-1))).setCell ⟨b,off+1,none⟩ (.int .i64 x)) b pre post T (.slice (some ⟨g,o2,none⟩) rest.length (cap-1)) rest:=by
 subst hs hn;have lr:b≠g:=fun e=>h.own (aa.2 (by rw[e];rfl));have aeJ:ec (w.setCell ⟨g,o,none⟩ (.string (bytesOf y))) (.slice (some ⟨g,o2,none⟩) rest.length (cap-1)) rest:=by
  have h1:=(h.row.JR (y:=y)).pop;rcases ID with rfl|⟨rfl,rfl⟩
  ·exact h1
  ·have hr:rest= []:=by
    rcases h.row with⟨e,_⟩|⟨g',o',c',cur,e,_,hn,_⟩
    ·cases e
    ·injection e with e1 e2 e3;subst e3;simp only[List.length_cons] at hn;exact List.length_eq_zero_iff.1 (by omega)
   subst hr;rcases h1 with⟨e,_⟩|⟨g',o',c',cur,e,hg,_,_,hs,_⟩
   ·cases e
   ·injection e with e1 e2 e3;injection e1 with e1;injection e1 with e1 e4;subst e1;exact inr ⟨_,_,_,cur,rfl,hg,by simp,by unfold maxLen;omega,by omega,by simp[fL]⟩
 have Ve: ∀i∈ae (.slice (some ⟨g,o2,none⟩) rest.length (cap-1)),i∉[b]:=fun i hi hm=>by rw[aa] at hi;injection hi with hi;rw[List.mem_singleton] at hm;exact lr (hm▸hi.symm)
 refine⟨(cd (kU (h.az.other (p:=⟨g,o,none⟩) lr _) ho (.slice (some ⟨g,o2,none⟩) rest.length (cap-1)) (by simp)) ho 1 _ (by simp)).conv (by simp),(aeJ.keeps ((I.refl [b] _).ax _) Ve).keeps ((I.refl [b] _).ax _) Ve,fun hm=>Ve b hm (by simp),fun x hx=>h.full x (List.mem_cons_of_mem _ hx)⟩
def E2 (q0:List (List UInt8)) (N:Nat) (b bb:Nat) (pre post:List Value) (T:TypeId) (v0:Value) (w:World) (n:Value) (wr:World):Prop:=
 ∃ (r:Nat) (q:List (List UInt8)) (out:List UInt8) (v:Value),n= .int .i64 r∧Bk wr b pre post T v q∧gS wr w.heap.size bb out∧out++(bm r q).1=(bm N q0).1∧(bm r q).2=(bm N q0).2∧r≤cT q∧(out.length+r≤N∧cT q≤900000)∧
  I (b::ae v0) w wr∧∀i∈ae v,i∈ae v0
theorem Mp (w:World) (b:Nat) (pre post:List Value) (T:TypeId) (v:Value) (q0:List (List UInt8)) (h:Bk w b pre post T v q0) (off:Nat) (ho:off=pre.length) (n:Nat) (hq:cT q0≤900000):Calls prog 76 #[.pointer (some ⟨b,off,none⟩),.int .i64 n] w fun e w'=>e= .returned (.string (bytesOf (bm n q0).1))∧∃v',Bk w' b pre post T v' (bm n q0).2∧I (b::ae v) w w'∧∀i∈ae v',i∈ae v:=by
 obtain⟨N,hN,hNq,Sg⟩: ∃N:Nat,bm n q0=bm N q0∧N≤cT q0∧(((n:Int)≤(cT q0:Int)∧N=n)∨(¬ (n:Int)≤(cT q0:Int)∧N=cT q0)):=by
  by_cases hle:n≤cT q0
  ·exact⟨n,rfl,hle,inl ⟨by omega,rfl⟩⟩
  ·refine⟨cT q0,?_,Nat.le_refl _,inr ⟨by omega,rfl⟩⟩;rw[qd q0 n h.full (by omega),qd q0 _ h.full (Nat.le_refl _)]
 have hlen:=mN w b pre post T v q0 h off ho;have H:=hid h;have HO:=hid ho;have uK:=hid hlen;have HN:=hid hN;have bP:=h.az.lt;clear h ho hlen hN;go_enter func76,ntmps76;go_wp2_with fail
 have aJ:=Has.new w [.pointer none,.slice none 0 0] 132;have ka:=(I.refl [] w).alloc (.cells #[.pointer none,.slice none 0 0] 132);have H1:=hid (H.out.keeps ka (by simp) (by simp));have HLB:=hid (gS.new (base:=w.heap.size) aJ);have KA:=hid ka;obtain⟨w1,eK⟩: ∃w1,w.alloc (.cells #[.pointer none,.slice none 0 0] 132)=w1:=⟨_,rfl⟩
 rw[eK] at H1 HLB KA⊢;clear aJ ka eK;refine(mN w1 b pre post T v q0 H1.out off HO.out).mono ?_;rintro e w2 ⟨rfl,rfl⟩;rcases Sg with⟨Pe,ly⟩|⟨Pe,ly⟩
 ·subst ly;go_wp2_with fail
  clear Pe;go_loopw [1] (fun n' wr=>E2 q0 N b w.heap.size pre post T v w n' wr) (fun n' _=>(intOf n').toNat);case atStart=>exact⟨N,q0,[],v,rfl,H1.out,HLB.out,rfl,rfl,hNq,⟨by simp,hq⟩,KA.out.mono (by simp),fun i hi=>hi⟩
  case round=>
   obtain⟨r,q,out,vq,rfl,hQ,hL,AU,ID,hr,⟨mr,VV⟩,hK,ef⟩:=hrel;have hz:=hK.size;have gT: ∀i∈ae vq,i<w.heap.size:=fun i hi=>H.out.row.lt i (ef i hi);by_cases h0:r=0
   ·subst h0;have Ft: ¬ (0:Int)<((0:Nat):Int):=by omega
    rw[jG] at AU ID;simp only[List.append_nil] at AU ID;have DZ:=sw wr w.heap.size w.heap.size out hL;have XE:=hid DZ;have HQ:=hid hQ;have HK:=hid hK;have AJ:=hid AU;have wK:=hid ID;clear hQ hL hK AU ID DZ;go_wp2_with fail
    refine XE.out.mono ?_;rintro e w5 ⟨rfl,F,k5,hF⟩;have I6:=hid (HK.out.trans' k5 (fun i hi=>inr (hF i hi)));have HQ5:=hid (HQ.out.keeps k5 (fun hm=>by have:=hF b hm;omega) (fun i hi hm=>by have:=hF i hm;have:=gT i hi;omega));clear k5 hF;go_wp2_with fail
    go_ret;exact⟨by first|(rw[HN.out,←AJ.out];rfl)|(rw[←AJ.out];rfl),vq,by first|(rw[HN.out,←wK.out];exact HQ5.out)|(rw[←wK.out];exact HQ5.out),I6.out,ef⟩
   ·have hgt:(0:Int)<(r:Int):=by omega
    obtain⟨c,rest,rfl⟩: ∃c rest,q=c::rest:=by
     cases q with
     |nil=>simp[cT] at hr;omega
     |cons c rest=>exact⟨c,rest,rfl⟩
    have wV:=hQ.full;have hc:0<c.length:=List.length_pos_iff.2 (wV c ms);rw[cR] at hr VV;obtain⟨c0,c1,f0,f1⟩:=hQ.facts HO.out;obtain⟨g,o,cap,rfl,hgl,hgr,hgm,cg,fg⟩:=hQ.row.head;have lr: ¬g=b:=fun e=>hQ.own (aa.2 (by rw[←e];rfl));have cY: ¬b=g:=fun e=>lr e.symm;obtain⟨S,hS⟩: ∃S,bytesOf c=S:=⟨_,rfl⟩
    have BI:S.size=c.length:=by rw[←hS,an]
    have hSd:S.data.toList=c:=by rw[←hS];exact oB _
    rw[hS] at cg;obtain⟨M,hM⟩: ∃M,c.length+cT rest=M:=⟨_,rfl⟩
    rw[cR,hM] at c1;have hM2:M≤900000:=by omega
    have S6:(0:Int)<(rest.length:Int)+1:=by omega
    have aeM:(0:Int)≤0:=by omega
    have aaw:(1:Int)≤(rest.length:Int)+1:=by omega
    unfold maxLen at hgm;have HQ:=hid hQ;have HK:=hid hK;have HL:=hid hL;have AJ:=hid AU;have wK:=hid ID;have Mq:=hid hSd;have aax:=hid wV;have HS:=hid hS;clear hQ hL hK AU ID hSd wV hS;by_cases hA:r<c.length
    ·have hle:(r:Int)≤(S.size:Int):=by omega
     have fX:((r:Int)==(S.size:Int))=false:=by simp;omega
     have Z2:(0:Int)≤(r:Int):=by omega
     have Dv:(r:Int)≤(c.length:Int):=by omega
     have FH:((r:Int)==(c.length:Int))=false:=by simp;omega
     have gU:=da (x:=(M:Int)- (r:Int)) (by omega);have jN:IntKind.i64.wrap ((r:Int)- (r:Int))=0:=by rw[IntKind.wrap_i64];omega
     go_wp2_with fail
     refine(hZ wr w.heap.size w.heap.size out (S.extract 0 r) HL.out (Nat.le_refl _) (by rw[ByteArray.size_extract];omega)).mono ?_;rintro e w4 ⟨rfl,g4,F,k4,hF⟩;have kF:=HQ.out.keeps k4 (fun hm=>by have:=hF b hm;omega) (fun i hi hm=>by have:=hF i hm;have:=gT i hi;omega);have ry:=HK.out.trans' k4 (fun i hi=>inr (hF i hi));obtain⟨d0,d1,e0,e1⟩:=kF.facts HO.out;rw[cR,hM] at d1;have dg:w4.cell? ⟨g,o,none⟩=some (.string S):=k4.cell cg (fun hm=>by have:=hF g hm;have:=gT g (aa.2 rfl);omega);have eg:w4.frozen? ⟨g,o,none⟩=false:=by obtain⟨g',o',fB,e',-,-,-,-,Bl⟩:=kF.row.head;injection e' with e';injection e' with e';injection e' with Bm Bn;rw[Bm,Bn];exact Bl
     have Bo:=hid kF;have Bp:=hid g4;have uh:=hid ry;clear kF g4 k4 hF ry c0 c1 f0 f1 cg fg;go_upto_region 7 with fail;go_still_tail 7,(by kernel_rfl);change wpList _ _ _ _ _ w4.drew;go_wp2_with fail
     go_roundw;case rel=>
      refine⟨0,c.drop r::rest,out++c.take r,_,rfl,(Bo.out.aat HO.out hA (by rw[tF Mq.out]) (by rw[cR,List.length_drop];congr 1;omega)).keeps ((I.refl [] _).drew) (by simp) (by simp),?_,?_,?_,Nat.zero_le _,?_,?_,ef⟩
      ·have h4:=Bp.out;have hex:(S.extract 0 r).data.toList=c.take r:=by rw[Lib.extract_data,Mq.out];simp
       rw[hex] at h4;exact h4.keeps (F:=[g,b]) (((I.refl _ _).setCell (p:=⟨g,o,none⟩) (inl (by simp)) _).setCell (p:=⟨b,off+1,none⟩) (inl (by simp)) _).drew (Nat.le_refl _) (fun i hi=>by
        have Bq:=gT g (aa.2 rfl);rcases List.mem_cons.1 hi with rfl|hi
        ·exact Bq
        ·rw[List.mem_singleton] at hi;subst hi;exact bP)
      ·rw[jG,←AJ.out,nC h0 hA,List.append_nil]
      ·rw[jG,←wK.out,nC h0 hA]
      ·refine⟨by rw[List.length_append,List.length_take];omega,by rw[cR,List.length_drop];omega⟩
      ·have Br:g∈ae v:=ef g (aa.2 rfl);exact((uh.out.setCell (p:=⟨g,o,none⟩) (inl (List.mem_cons_of_mem _ Br)) _).setCell (p:=⟨b,off+1,none⟩) (inl (by simp)) _).drew
     case measure=>simp[intOf];omega
    ·have Nz:(c.length:Int)≤(S.size:Int):=by omega
     have aeN:(c.length:Int)≤(c.length:Int):=by omega
     have heq:((c.length:Int)==(c.length:Int))=true:=by simp
     have nN:(0:Int)≤(c.length:Int):=by omega
     have gU:=da (x:=(M:Int)- (c.length:Int)) (by omega);by_cases Na:cap=1
     ·subst Na;obtain rfl:rest= []:=List.length_eq_zero_iff.1 (by omega);by_cases hB:r=c.length
      ·subst hB;have hle:(c.length:Int)≤(S.size:Int):=by omega
       have jN:IntKind.i64.wrap ((c.length:Int)- (c.length:Int))=0:=by rw[IntKind.wrap_i64];omega
       go_wp2_with fail
       refine(hZ wr w.heap.size w.heap.size out (S.extract 0 c.length) HL.out (Nat.le_refl _) (by rw[ByteArray.size_extract];omega)).mono ?_;rintro e w4 ⟨rfl,g4,F,k4,hF⟩;have kF:=HQ.out.keeps k4 (fun hm=>by have:=hF b hm;omega) (fun i hi hm=>by have:=hF i hm;have:=gT i hi;omega);have ry:=HK.out.trans' k4 (fun i hi=>inr (hF i hi));obtain⟨d0,d1,e0,e1⟩:=kF.facts HO.out;rw[cR,hM] at d1;have dg:w4.cell? ⟨g,o,none⟩=some (.string S):=k4.cell cg (fun hm=>by have:=hF g hm;have:=gT g (aa.2 rfl);omega);have eg:w4.frozen? ⟨g,o,none⟩=false:=by obtain⟨g',o',fB,e',-,-,-,-,Bl⟩:=kF.row.head;injection e' with e';injection e' with e';injection e' with Bm Bn;rw[Bm,Bn];exact Bl
       have Bo:=hid kF;have Bp:=hid g4;have uh:=hid ry;clear kF g4 k4 hF ry c0 c1 f0 f1 cg fg;go_upto_region 7 with fail;go_still_tail 7,(by kernel_rfl);change wpList _ _ _ _ _ w4.drew;go_wp2_with fail
       go_roundw;case rel=>
        have wW:bm c.length (c::([]:List (List UInt8)))=(c++(bm (c.length-c.length) ([]:List (List UInt8))).1,(bm (c.length-c.length) ([]:List (List UInt8))).2):=gH (by omega) (by omega);have hex:(S.extract 0 c.length).data.toList=c:=by rw[Lib.extract_data,Mq.out];simp
        refine⟨c.length-c.length,([]:List (List UInt8)),out++c,.slice (some ⟨g,o,none⟩) ([]:List (List UInt8)).length (1-1),by congr 1;omega,(Bo.out.E1 HO.out (y:=[]) (sv:= .string ByteArray.empty) (o2:=o) (x:=(M:Int)- (c.length:Int)) rfl (by omega) (by omega)).keeps (F:=[]) ((I.refl [] _).drew) (by simp) (by simp),?_,?_,?_,by omega,⟨by rw[List.length_append];omega,by omega⟩,?_,ef⟩
        ·have h4:=Bp.out;rw[hex] at h4;exact h4.keeps (F:=[g,b]) ((((I.refl _ _).setCell (p:=⟨g,o,none⟩) (inl (by simp)) _).setCell (p:=⟨b,off,none⟩) (inl (by simp)) _).setCell (p:=⟨b,off+1,none⟩) (inl (by simp)) _).drew (Nat.le_refl _) (fun i hi=>by
          have Bq:=gT g (aa.2 rfl);rcases List.mem_cons.1 hi with rfl|hi
          ·exact Bq
          ·rw[List.mem_singleton] at hi;subst hi;exact bP)
        ·rw[←AJ.out,wW,List.append_assoc]
        ·rw[←wK.out,wW]
        ·have Br:g∈ae v:=ef g (aa.2 rfl);exact(((uh.out.setCell (p:=⟨g,o,none⟩) (inl (List.mem_cons_of_mem _ Br)) _).setCell (p:=⟨b,off,none⟩) (inl (by simp)) _).setCell (p:=⟨b,off+1,none⟩) (inl (by simp)) _).drew
       case measure=>simp[intOf];omega
      ·skip;have hle: ¬ (r:Int)≤(S.size:Int):=by omega
       have Dv: ¬ (r:Int)≤(c.length:Int):=by omega
       have jN:=da (x:=(r:Int)- (c.length:Int)) (by omega);go_wp2_with fail
       refine(hZ wr w.heap.size w.heap.size out (S.extract 0 c.length) HL.out (Nat.le_refl _) (by rw[ByteArray.size_extract];omega)).mono ?_;rintro e w4 ⟨rfl,g4,F,k4,hF⟩;have kF:=HQ.out.keeps k4 (fun hm=>by have:=hF b hm;omega) (fun i hi hm=>by have:=hF i hm;have:=gT i hi;omega);have ry:=HK.out.trans' k4 (fun i hi=>inr (hF i hi));obtain⟨d0,d1,e0,e1⟩:=kF.facts HO.out;rw[cR,hM] at d1;have dg:w4.cell? ⟨g,o,none⟩=some (.string S):=k4.cell cg (fun hm=>by have:=hF g hm;have:=gT g (aa.2 rfl);omega);have eg:w4.frozen? ⟨g,o,none⟩=false:=by obtain⟨g',o',fB,e',-,-,-,-,Bl⟩:=kF.row.head;injection e' with e';injection e' with e';injection e' with Bm Bn;rw[Bm,Bn];exact Bl
       have Bo:=hid kF;have Bp:=hid g4;have uh:=hid ry;clear kF g4 k4 hF ry c0 c1 f0 f1 cg fg;go_upto_region 7 with fail;go_still_tail 7,(by kernel_rfl);change wpList _ _ _ _ _ w4.drew;go_wp2_with fail
       go_roundw;case rel=>
        have wW:bm r (c::([]:List (List UInt8)))=(c++(bm (r-c.length) ([]:List (List UInt8))).1,(bm (r-c.length) ([]:List (List UInt8))).2):=gH (by omega) (by omega);have hex:(S.extract 0 c.length).data.toList=c:=by rw[Lib.extract_data,Mq.out];simp
        refine⟨r-c.length,([]:List (List UInt8)),out++c,.slice (some ⟨g,o,none⟩) ([]:List (List UInt8)).length (1-1),by congr 1;omega,(Bo.out.E1 HO.out (y:=[]) (sv:= .string ByteArray.empty) (o2:=o) (x:=(M:Int)- (c.length:Int)) rfl (by omega) (by omega)).keeps (F:=[]) ((I.refl [] _).drew) (by simp) (by simp),?_,?_,?_,by omega,⟨by rw[List.length_append];omega,by omega⟩,?_,ef⟩
        ·have h4:=Bp.out;rw[hex] at h4;exact h4.keeps (F:=[g,b]) ((((I.refl _ _).setCell (p:=⟨g,o,none⟩) (inl (by simp)) _).setCell (p:=⟨b,off,none⟩) (inl (by simp)) _).setCell (p:=⟨b,off+1,none⟩) (inl (by simp)) _).drew (Nat.le_refl _) (fun i hi=>by
          have Bq:=gT g (aa.2 rfl);rcases List.mem_cons.1 hi with rfl|hi
          ·exact Bq
          ·rw[List.mem_singleton] at hi;subst hi;exact bP)
        ·rw[←AJ.out,wW,List.append_assoc]
        ·rw[←wK.out,wW]
        ·have Br:g∈ae v:=ef g (aa.2 rfl);exact(((uh.out.setCell (p:=⟨g,o,none⟩) (inl (List.mem_cons_of_mem _ Br)) _).setCell (p:=⟨b,off,none⟩) (inl (by simp)) _).setCell (p:=⟨b,off+1,none⟩) (inl (by simp)) _).drew
       case measure=>simp[intOf];omega
     ·by_cases hB:r=c.length
      ·subst hB;have hle:(c.length:Int)≤(S.size:Int):=by omega
       have jN:IntKind.i64.wrap ((c.length:Int)- (c.length:Int))=0:=by rw[IntKind.wrap_i64];omega
       go_wp2_with fail
       refine(hZ wr w.heap.size w.heap.size out (S.extract 0 c.length) HL.out (Nat.le_refl _) (by rw[ByteArray.size_extract];omega)).mono ?_;rintro e w4 ⟨rfl,g4,F,k4,hF⟩;have kF:=HQ.out.keeps k4 (fun hm=>by have:=hF b hm;omega) (fun i hi hm=>by have:=hF i hm;have:=gT i hi;omega);have ry:=HK.out.trans' k4 (fun i hi=>inr (hF i hi));obtain⟨d0,d1,e0,e1⟩:=kF.facts HO.out;rw[cR,hM] at d1;have dg:w4.cell? ⟨g,o,none⟩=some (.string S):=k4.cell cg (fun hm=>by have:=hF g hm;have:=gT g (aa.2 rfl);omega);have eg:w4.frozen? ⟨g,o,none⟩=false:=by obtain⟨g',o',fB,e',-,-,-,-,Bl⟩:=kF.row.head;injection e' with e';injection e' with e';injection e' with Bm Bn;rw[Bm,Bn];exact Bl
       have Bo:=hid kF;have Bp:=hid g4;have uh:=hid ry;clear kF g4 k4 hF ry c0 c1 f0 f1 cg fg;go_upto_region 7 with fail;go_still_tail 7,(by kernel_rfl);change wpList _ _ _ _ _ w4.drew;go_wp2_with fail
       go_roundw;case rel=>
        have wW:bm c.length (c::rest)=(c++(bm (c.length-c.length) rest).1,(bm (c.length-c.length) rest).2):=gH (by omega) (by omega);have hex:(S.extract 0 c.length).data.toList=c:=by rw[Lib.extract_data,Mq.out];simp
        refine⟨c.length-c.length,rest,out++c,.slice (some ⟨g,o+1,none⟩) rest.length (cap-1),by congr 1;omega,(Bo.out.E1 HO.out (y:=[]) (sv:= .string ByteArray.empty) (o2:=o+1) (x:=(M:Int)- (c.length:Int)) rfl (by omega) (by omega)).keeps (F:=[]) ((I.refl [] _).drew) (by simp) (by simp),?_,?_,?_,by omega,⟨by rw[List.length_append];omega,by omega⟩,?_,ef⟩
        ·have h4:=Bp.out;rw[hex] at h4;exact h4.keeps (F:=[g,b]) ((((I.refl _ _).setCell (p:=⟨g,o,none⟩) (inl (by simp)) _).setCell (p:=⟨b,off,none⟩) (inl (by simp)) _).setCell (p:=⟨b,off+1,none⟩) (inl (by simp)) _).drew (Nat.le_refl _) (fun i hi=>by
          have Bq:=gT g (aa.2 rfl);rcases List.mem_cons.1 hi with rfl|hi
          ·exact Bq
          ·rw[List.mem_singleton] at hi;subst hi;exact bP)
        ·rw[←AJ.out,wW,List.append_assoc]
        ·rw[←wK.out,wW]
        ·have Br:g∈ae v:=ef g (aa.2 rfl);exact(((uh.out.setCell (p:=⟨g,o,none⟩) (inl (List.mem_cons_of_mem _ Br)) _).setCell (p:=⟨b,off,none⟩) (inl (by simp)) _).setCell (p:=⟨b,off+1,none⟩) (inl (by simp)) _).drew
       case measure=>simp[intOf];omega
      ·skip;have hle: ¬ (r:Int)≤(S.size:Int):=by omega
       have Dv: ¬ (r:Int)≤(c.length:Int):=by omega
       have jN:=da (x:=(r:Int)- (c.length:Int)) (by omega);go_wp2_with fail
       refine(hZ wr w.heap.size w.heap.size out (S.extract 0 c.length) HL.out (Nat.le_refl _) (by rw[ByteArray.size_extract];omega)).mono ?_;rintro e w4 ⟨rfl,g4,F,k4,hF⟩;have kF:=HQ.out.keeps k4 (fun hm=>by have:=hF b hm;omega) (fun i hi hm=>by have:=hF i hm;have:=gT i hi;omega);have ry:=HK.out.trans' k4 (fun i hi=>inr (hF i hi));obtain⟨d0,d1,e0,e1⟩:=kF.facts HO.out;rw[cR,hM] at d1;have dg:w4.cell? ⟨g,o,none⟩=some (.string S):=k4.cell cg (fun hm=>by have:=hF g hm;have:=gT g (aa.2 rfl);omega);have eg:w4.frozen? ⟨g,o,none⟩=false:=by obtain⟨g',o',fB,e',-,-,-,-,Bl⟩:=kF.row.head;injection e' with e';injection e' with e';injection e' with Bm Bn;rw[Bm,Bn];exact Bl
       have Bo:=hid kF;have Bp:=hid g4;have uh:=hid ry;clear kF g4 k4 hF ry c0 c1 f0 f1 cg fg;go_upto_region 7 with fail;go_still_tail 7,(by kernel_rfl);change wpList _ _ _ _ _ w4.drew;go_wp2_with fail
       go_roundw;case rel=>
        have wW:bm r (c::rest)=(c++(bm (r-c.length) rest).1,(bm (r-c.length) rest).2):=gH (by omega) (by omega);have hex:(S.extract 0 c.length).data.toList=c:=by rw[Lib.extract_data,Mq.out];simp
        refine⟨r-c.length,rest,out++c,.slice (some ⟨g,o+1,none⟩) rest.length (cap-1),by congr 1;omega,(Bo.out.E1 HO.out (y:=[]) (sv:= .string ByteArray.empty) (o2:=o+1) (x:=(M:Int)- (c.length:Int)) rfl (by omega) (by omega)).keeps (F:=[]) ((I.refl [] _).drew) (by simp) (by simp),?_,?_,?_,by omega,⟨by rw[List.length_append];omega,by omega⟩,?_,ef⟩
        ·have h4:=Bp.out;rw[hex] at h4;exact h4.keeps (F:=[g,b]) ((((I.refl _ _).setCell (p:=⟨g,o,none⟩) (inl (by simp)) _).setCell (p:=⟨b,off,none⟩) (inl (by simp)) _).setCell (p:=⟨b,off+1,none⟩) (inl (by simp)) _).drew (Nat.le_refl _) (fun i hi=>by
          have Bq:=gT g (aa.2 rfl);rcases List.mem_cons.1 hi with rfl|hi
          ·exact Bq
          ·rw[List.mem_singleton] at hi;subst hi;exact bP)
        ·rw[←AJ.out,wW,List.append_assoc]
        ·rw[←wK.out,wW]
        ·have Br:g∈ae v:=ef g (aa.2 rfl);exact(((uh.out.setCell (p:=⟨g,o,none⟩) (inl (List.mem_cons_of_mem _ Br)) _).setCell (p:=⟨b,off,none⟩) (inl (by simp)) _).setCell (p:=⟨b,off+1,none⟩) (inl (by simp)) _).drew
       case measure=>simp[intOf];omega
 ·go_wp2_with fail
  rw[←ly];clear Pe ly;go_loopw [1] (fun n' wr=>E2 q0 N b w.heap.size pre post T v w n' wr) (fun n' _=>(intOf n').toNat);case atStart=>exact⟨N,q0,[],v,rfl,H1.out,HLB.out,rfl,rfl,hNq,⟨by simp,hq⟩,KA.out.mono (by simp),fun i hi=>hi⟩
  case round=>
   obtain⟨r,q,out,vq,rfl,hQ,hL,AU,ID,hr,⟨mr,VV⟩,hK,ef⟩:=hrel;have hz:=hK.size;have gT: ∀i∈ae vq,i<w.heap.size:=fun i hi=>H.out.row.lt i (ef i hi);by_cases h0:r=0
   ·subst h0;have Ft: ¬ (0:Int)<((0:Nat):Int):=by omega
    rw[jG] at AU ID;simp only[List.append_nil] at AU ID;have DZ:=sw wr w.heap.size w.heap.size out hL;have XE:=hid DZ;have HQ:=hid hQ;have HK:=hid hK;have AJ:=hid AU;have wK:=hid ID;clear hQ hL hK AU ID DZ;go_wp2_with fail
    refine XE.out.mono ?_;rintro e w5 ⟨rfl,F,k5,hF⟩;have I6:=hid (HK.out.trans' k5 (fun i hi=>inr (hF i hi)));have HQ5:=hid (HQ.out.keeps k5 (fun hm=>by have:=hF b hm;omega) (fun i hi hm=>by have:=hF i hm;have:=gT i hi;omega));clear k5 hF;go_wp2_with fail
    go_ret;exact⟨by first|(rw[HN.out,←AJ.out];rfl)|(rw[←AJ.out];rfl),vq,by first|(rw[HN.out,←wK.out];exact HQ5.out)|(rw[←wK.out];exact HQ5.out),I6.out,ef⟩
   ·have hgt:(0:Int)<(r:Int):=by omega
    obtain⟨c,rest,rfl⟩: ∃c rest,q=c::rest:=by
     cases q with
     |nil=>simp[cT] at hr;omega
     |cons c rest=>exact⟨c,rest,rfl⟩
    have wV:=hQ.full;have hc:0<c.length:=List.length_pos_iff.2 (wV c ms);rw[cR] at hr VV;obtain⟨c0,c1,f0,f1⟩:=hQ.facts HO.out;obtain⟨g,o,cap,rfl,hgl,hgr,hgm,cg,fg⟩:=hQ.row.head;have lr: ¬g=b:=fun e=>hQ.own (aa.2 (by rw[←e];rfl));have cY: ¬b=g:=fun e=>lr e.symm;obtain⟨S,hS⟩: ∃S,bytesOf c=S:=⟨_,rfl⟩
    have BI:S.size=c.length:=by rw[←hS,an]
    have hSd:S.data.toList=c:=by rw[←hS];exact oB _
    rw[hS] at cg;obtain⟨M,hM⟩: ∃M,c.length+cT rest=M:=⟨_,rfl⟩
    rw[cR,hM] at c1;have hM2:M≤900000:=by omega
    have S6:(0:Int)<(rest.length:Int)+1:=by omega
    have aeM:(0:Int)≤0:=by omega
    have aaw:(1:Int)≤(rest.length:Int)+1:=by omega
    unfold maxLen at hgm;have HQ:=hid hQ;have HK:=hid hK;have HL:=hid hL;have AJ:=hid AU;have wK:=hid ID;have Mq:=hid hSd;have aax:=hid wV;have HS:=hid hS;clear hQ hL hK AU ID hSd wV hS;by_cases hA:r<c.length
    ·have hle:(r:Int)≤(S.size:Int):=by omega
     have fX:((r:Int)==(S.size:Int))=false:=by simp;omega
     have Z2:(0:Int)≤(r:Int):=by omega
     have Dv:(r:Int)≤(c.length:Int):=by omega
     have FH:((r:Int)==(c.length:Int))=false:=by simp;omega
     have gU:=da (x:=(M:Int)- (r:Int)) (by omega);have jN:IntKind.i64.wrap ((r:Int)- (r:Int))=0:=by rw[IntKind.wrap_i64];omega
     go_wp2_with fail
     refine(hZ wr w.heap.size w.heap.size out (S.extract 0 r) HL.out (Nat.le_refl _) (by rw[ByteArray.size_extract];omega)).mono ?_;rintro e w4 ⟨rfl,g4,F,k4,hF⟩;have kF:=HQ.out.keeps k4 (fun hm=>by have:=hF b hm;omega) (fun i hi hm=>by have:=hF i hm;have:=gT i hi;omega);have ry:=HK.out.trans' k4 (fun i hi=>inr (hF i hi));obtain⟨d0,d1,e0,e1⟩:=kF.facts HO.out;rw[cR,hM] at d1;have dg:w4.cell? ⟨g,o,none⟩=some (.string S):=k4.cell cg (fun hm=>by have:=hF g hm;have:=gT g (aa.2 rfl);omega);have eg:w4.frozen? ⟨g,o,none⟩=false:=by obtain⟨g',o',fB,e',-,-,-,-,Bl⟩:=kF.row.head;injection e' with e';injection e' with e';injection e' with Bm Bn;rw[Bm,Bn];exact Bl
     have Bo:=hid kF;have Bp:=hid g4;have uh:=hid ry;clear kF g4 k4 hF ry c0 c1 f0 f1 cg fg;go_upto_region 7 with fail;go_still_tail 7,(by kernel_rfl);change wpList _ _ _ _ _ w4.drew;go_wp2_with fail
     go_roundw;case rel=>
      refine⟨0,c.drop r::rest,out++c.take r,_,rfl,(Bo.out.aat HO.out hA (by rw[tF Mq.out]) (by rw[cR,List.length_drop];congr 1;omega)).keeps ((I.refl [] _).drew) (by simp) (by simp),?_,?_,?_,Nat.zero_le _,?_,?_,ef⟩
      ·have h4:=Bp.out;have hex:(S.extract 0 r).data.toList=c.take r:=by rw[Lib.extract_data,Mq.out];simp
       rw[hex] at h4;exact h4.keeps (F:=[g,b]) (((I.refl _ _).setCell (p:=⟨g,o,none⟩) (inl (by simp)) _).setCell (p:=⟨b,off+1,none⟩) (inl (by simp)) _).drew (Nat.le_refl _) (fun i hi=>by
        have Bq:=gT g (aa.2 rfl);rcases List.mem_cons.1 hi with rfl|hi
        ·exact Bq
        ·rw[List.mem_singleton] at hi;subst hi;exact bP)
      ·rw[jG,←AJ.out,nC h0 hA,List.append_nil]
      ·rw[jG,←wK.out,nC h0 hA]
      ·refine⟨by rw[List.length_append,List.length_take];omega,by rw[cR,List.length_drop];omega⟩
      ·have Br:g∈ae v:=ef g (aa.2 rfl);exact((uh.out.setCell (p:=⟨g,o,none⟩) (inl (List.mem_cons_of_mem _ Br)) _).setCell (p:=⟨b,off+1,none⟩) (inl (by simp)) _).drew
     case measure=>simp[intOf];omega
    ·have Nz:(c.length:Int)≤(S.size:Int):=by omega
     have aeN:(c.length:Int)≤(c.length:Int):=by omega
     have heq:((c.length:Int)==(c.length:Int))=true:=by simp
     have nN:(0:Int)≤(c.length:Int):=by omega
     have gU:=da (x:=(M:Int)- (c.length:Int)) (by omega);by_cases Na:cap=1
     ·subst Na;obtain rfl:rest= []:=List.length_eq_zero_iff.1 (by omega);by_cases hB:r=c.length
      ·subst hB;have hle:(c.length:Int)≤(S.size:Int):=by omega
       have jN:IntKind.i64.wrap ((c.length:Int)- (c.length:Int))=0:=by rw[IntKind.wrap_i64];omega
       go_wp2_with fail
       refine(hZ wr w.heap.size w.heap.size out (S.extract 0 c.length) HL.out (Nat.le_refl _) (by rw[ByteArray.size_extract];omega)).mono ?_;rintro e w4 ⟨rfl,g4,F,k4,hF⟩;have kF:=HQ.out.keeps k4 (fun hm=>by have:=hF b hm;omega) (fun i hi hm=>by have:=hF i hm;have:=gT i hi;omega);have ry:=HK.out.trans' k4 (fun i hi=>inr (hF i hi));obtain⟨d0,d1,e0,e1⟩:=kF.facts HO.out;rw[cR,hM] at d1;have dg:w4.cell? ⟨g,o,none⟩=some (.string S):=k4.cell cg (fun hm=>by have:=hF g hm;have:=gT g (aa.2 rfl);omega);have eg:w4.frozen? ⟨g,o,none⟩=false:=by obtain⟨g',o',fB,e',-,-,-,-,Bl⟩:=kF.row.head;injection e' with e';injection e' with e';injection e' with Bm Bn;rw[Bm,Bn];exact Bl
       have Bo:=hid kF;have Bp:=hid g4;have uh:=hid ry;clear kF g4 k4 hF ry c0 c1 f0 f1 cg fg;go_upto_region 7 with fail;go_still_tail 7,(by kernel_rfl);change wpList _ _ _ _ _ w4.drew;go_wp2_with fail
       go_roundw;case rel=>
        have wW:bm c.length (c::([]:List (List UInt8)))=(c++(bm (c.length-c.length) ([]:List (List UInt8))).1,(bm (c.length-c.length) ([]:List (List UInt8))).2):=gH (by omega) (by omega);have hex:(S.extract 0 c.length).data.toList=c:=by rw[Lib.extract_data,Mq.out];simp
        refine⟨c.length-c.length,([]:List (List UInt8)),out++c,.slice (some ⟨g,o,none⟩) ([]:List (List UInt8)).length (1-1),by congr 1;omega,(Bo.out.E1 HO.out (y:=[]) (sv:= .string ByteArray.empty) (o2:=o) (x:=(M:Int)- (c.length:Int)) rfl (by omega) (by omega)).keeps (F:=[]) ((I.refl [] _).drew) (by simp) (by simp),?_,?_,?_,by omega,⟨by rw[List.length_append];omega,by omega⟩,?_,ef⟩
        ·have h4:=Bp.out;rw[hex] at h4;exact h4.keeps (F:=[g,b]) ((((I.refl _ _).setCell (p:=⟨g,o,none⟩) (inl (by simp)) _).setCell (p:=⟨b,off,none⟩) (inl (by simp)) _).setCell (p:=⟨b,off+1,none⟩) (inl (by simp)) _).drew (Nat.le_refl _) (fun i hi=>by
          have Bq:=gT g (aa.2 rfl);rcases List.mem_cons.1 hi with rfl|hi
          ·exact Bq
          ·rw[List.mem_singleton] at hi;subst hi;exact bP)
        ·rw[←AJ.out,wW,List.append_assoc]
        ·rw[←wK.out,wW]
        ·have Br:g∈ae v:=ef g (aa.2 rfl);exact(((uh.out.setCell (p:=⟨g,o,none⟩) (inl (List.mem_cons_of_mem _ Br)) _).setCell (p:=⟨b,off,none⟩) (inl (by simp)) _).setCell (p:=⟨b,off+1,none⟩) (inl (by simp)) _).drew
       case measure=>simp[intOf];omega
      ·skip;have hle: ¬ (r:Int)≤(S.size:Int):=by omega
       have Dv: ¬ (r:Int)≤(c.length:Int):=by omega
       have jN:=da (x:=(r:Int)- (c.length:Int)) (by omega);go_wp2_with fail
       refine(hZ wr w.heap.size w.heap.size out (S.extract 0 c.length) HL.out (Nat.le_refl _) (by rw[ByteArray.size_extract];omega)).mono ?_;rintro e w4 ⟨rfl,g4,F,k4,hF⟩;have kF:=HQ.out.keeps k4 (fun hm=>by have:=hF b hm;omega) (fun i hi hm=>by have:=hF i hm;have:=gT i hi;omega);have ry:=HK.out.trans' k4 (fun i hi=>inr (hF i hi));obtain⟨d0,d1,e0,e1⟩:=kF.facts HO.out;rw[cR,hM] at d1;have dg:w4.cell? ⟨g,o,none⟩=some (.string S):=k4.cell cg (fun hm=>by have:=hF g hm;have:=gT g (aa.2 rfl);omega);have eg:w4.frozen? ⟨g,o,none⟩=false:=by obtain⟨g',o',fB,e',-,-,-,-,Bl⟩:=kF.row.head;injection e' with e';injection e' with e';injection e' with Bm Bn;rw[Bm,Bn];exact Bl
       have Bo:=hid kF;have Bp:=hid g4;have uh:=hid ry;clear kF g4 k4 hF ry c0 c1 f0 f1 cg fg;go_upto_region 7 with fail;go_still_tail 7,(by kernel_rfl);change wpList _ _ _ _ _ w4.drew;go_wp2_with fail
       go_roundw;case rel=>
        have wW:bm r (c::([]:List (List UInt8)))=(c++(bm (r-c.length) ([]:List (List UInt8))).1,(bm (r-c.length) ([]:List (List UInt8))).2):=gH (by omega) (by omega);have hex:(S.extract 0 c.length).data.toList=c:=by rw[Lib.extract_data,Mq.out];simp
        refine⟨r-c.length,([]:List (List UInt8)),out++c,.slice (some ⟨g,o,none⟩) ([]:List (List UInt8)).length (1-1),by congr 1;omega,(Bo.out.E1 HO.out (y:=[]) (sv:= .string ByteArray.empty) (o2:=o) (x:=(M:Int)- (c.length:Int)) rfl (by omega) (by omega)).keeps (F:=[]) ((I.refl [] _).drew) (by simp) (by simp),?_,?_,?_,by omega,⟨by rw[List.length_append];omega,by omega⟩,?_,ef⟩
        ·have h4:=Bp.out;rw[hex] at h4;exact h4.keeps (F:=[g,b]) ((((I.refl _ _).setCell (p:=⟨g,o,none⟩) (inl (by simp)) _).setCell (p:=⟨b,off,none⟩) (inl (by simp)) _).setCell (p:=⟨b,off+1,none⟩) (inl (by simp)) _).drew (Nat.le_refl _) (fun i hi=>by
          have Bq:=gT g (aa.2 rfl);rcases List.mem_cons.1 hi with rfl|hi
          ·exact Bq
          ·rw[List.mem_singleton] at hi;subst hi;exact bP)
        ·rw[←AJ.out,wW,List.append_assoc]
        ·rw[←wK.out,wW]
        ·have Br:g∈ae v:=ef g (aa.2 rfl);exact(((uh.out.setCell (p:=⟨g,o,none⟩) (inl (List.mem_cons_of_mem _ Br)) _).setCell (p:=⟨b,off,none⟩) (inl (by simp)) _).setCell (p:=⟨b,off+1,none⟩) (inl (by simp)) _).drew
       case measure=>simp[intOf];omega
     ·by_cases hB:r=c.length
      ·subst hB;have hle:(c.length:Int)≤(S.size:Int):=by omega
       have jN:IntKind.i64.wrap ((c.length:Int)- (c.length:Int))=0:=by rw[IntKind.wrap_i64];omega
       go_wp2_with fail
       refine(hZ wr w.heap.size w.heap.size out (S.extract 0 c.length) HL.out (Nat.le_refl _) (by rw[ByteArray.size_extract];omega)).mono ?_;rintro e w4 ⟨rfl,g4,F,k4,hF⟩;have kF:=HQ.out.keeps k4 (fun hm=>by have:=hF b hm;omega) (fun i hi hm=>by have:=hF i hm;have:=gT i hi;omega);have ry:=HK.out.trans' k4 (fun i hi=>inr (hF i hi));obtain⟨d0,d1,e0,e1⟩:=kF.facts HO.out;rw[cR,hM] at d1;have dg:w4.cell? ⟨g,o,none⟩=some (.string S):=k4.cell cg (fun hm=>by have:=hF g hm;have:=gT g (aa.2 rfl);omega);have eg:w4.frozen? ⟨g,o,none⟩=false:=by obtain⟨g',o',fB,e',-,-,-,-,Bl⟩:=kF.row.head;injection e' with e';injection e' with e';injection e' with Bm Bn;rw[Bm,Bn];exact Bl
       have Bo:=hid kF;have Bp:=hid g4;have uh:=hid ry;clear kF g4 k4 hF ry c0 c1 f0 f1 cg fg;go_upto_region 7 with fail;go_still_tail 7,(by kernel_rfl);change wpList _ _ _ _ _ w4.drew;go_wp2_with fail
       go_roundw;case rel=>
        have wW:bm c.length (c::rest)=(c++(bm (c.length-c.length) rest).1,(bm (c.length-c.length) rest).2):=gH (by omega) (by omega);have hex:(S.extract 0 c.length).data.toList=c:=by rw[Lib.extract_data,Mq.out];simp
        refine⟨c.length-c.length,rest,out++c,.slice (some ⟨g,o+1,none⟩) rest.length (cap-1),by congr 1;omega,(Bo.out.E1 HO.out (y:=[]) (sv:= .string ByteArray.empty) (o2:=o+1) (x:=(M:Int)- (c.length:Int)) rfl (by omega) (by omega)).keeps (F:=[]) ((I.refl [] _).drew) (by simp) (by simp),?_,?_,?_,by omega,⟨by rw[List.length_append];omega,by omega⟩,?_,ef⟩
        ·have h4:=Bp.out;rw[hex] at h4;exact h4.keeps (F:=[g,b]) ((((I.refl _ _).setCell (p:=⟨g,o,none⟩) (inl (by simp)) _).setCell (p:=⟨b,off,none⟩) (inl (by simp)) _).setCell (p:=⟨b,off+1,none⟩) (inl (by simp)) _).drew (Nat.le_refl _) (fun i hi=>by
          have Bq:=gT g (aa.2 rfl);rcases List.mem_cons.1 hi with rfl|hi
          ·exact Bq
          ·rw[List.mem_singleton] at hi;subst hi;exact bP)
        ·rw[←AJ.out,wW,List.append_assoc]
        ·rw[←wK.out,wW]
        ·have Br:g∈ae v:=ef g (aa.2 rfl);exact(((uh.out.setCell (p:=⟨g,o,none⟩) (inl (List.mem_cons_of_mem _ Br)) _).setCell (p:=⟨b,off,none⟩) (inl (by simp)) _).setCell (p:=⟨b,off+1,none⟩) (inl (by simp)) _).drew
       case measure=>simp[intOf];omega
      ·skip;have hle: ¬ (r:Int)≤(S.size:Int):=by omega
       have Dv: ¬ (r:Int)≤(c.length:Int):=by omega
       have jN:=da (x:=(r:Int)- (c.length:Int)) (by omega);go_wp2_with fail
       refine(hZ wr w.heap.size w.heap.size out (S.extract 0 c.length) HL.out (Nat.le_refl _) (by rw[ByteArray.size_extract];omega)).mono ?_;rintro e w4 ⟨rfl,g4,F,k4,hF⟩;have kF:=HQ.out.keeps k4 (fun hm=>by have:=hF b hm;omega) (fun i hi hm=>by have:=hF i hm;have:=gT i hi;omega);have ry:=HK.out.trans' k4 (fun i hi=>inr (hF i hi));obtain⟨d0,d1,e0,e1⟩:=kF.facts HO.out;rw[cR,hM] at d1;have dg:w4.cell? ⟨g,o,none⟩=some (.string S):=k4.cell cg (fun hm=>by have:=hF g hm;have:=gT g (aa.2 rfl);omega);have eg:w4.frozen? ⟨g,o,none⟩=false:=by obtain⟨g',o',fB,e',-,-,-,-,Bl⟩:=kF.row.head;injection e' with e';injection e' with e';injection e' with Bm Bn;rw[Bm,Bn];exact Bl
       have Bo:=hid kF;have Bp:=hid g4;have uh:=hid ry;clear kF g4 k4 hF ry c0 c1 f0 f1 cg fg;go_upto_region 7 with fail;go_still_tail 7,(by kernel_rfl);change wpList _ _ _ _ _ w4.drew;go_wp2_with fail
       go_roundw;case rel=>
        have wW:bm r (c::rest)=(c++(bm (r-c.length) rest).1,(bm (r-c.length) rest).2):=gH (by omega) (by omega);have hex:(S.extract 0 c.length).data.toList=c:=by rw[Lib.extract_data,Mq.out];simp
        refine⟨r-c.length,rest,out++c,.slice (some ⟨g,o+1,none⟩) rest.length (cap-1),by congr 1;omega,(Bo.out.E1 HO.out (y:=[]) (sv:= .string ByteArray.empty) (o2:=o+1) (x:=(M:Int)- (c.length:Int)) rfl (by omega) (by omega)).keeps (F:=[]) ((I.refl [] _).drew) (by simp) (by simp),?_,?_,?_,by omega,⟨by rw[List.length_append];omega,by omega⟩,?_,ef⟩
        ·have h4:=Bp.out;rw[hex] at h4;exact h4.keeps (F:=[g,b]) ((((I.refl _ _).setCell (p:=⟨g,o,none⟩) (inl (by simp)) _).setCell (p:=⟨b,off,none⟩) (inl (by simp)) _).setCell (p:=⟨b,off+1,none⟩) (inl (by simp)) _).drew (Nat.le_refl _) (fun i hi=>by
          have Bq:=gT g (aa.2 rfl);rcases List.mem_cons.1 hi with rfl|hi
          ·exact Bq
          ·rw[List.mem_singleton] at hi;subst hi;exact bP)
        ·rw[←AJ.out,wW,List.append_assoc]
        ·rw[←wK.out,wW]
        ·have Br:g∈ae v:=ef g (aa.2 rfl);exact(((uh.out.setCell (p:=⟨g,o,none⟩) (inl (List.mem_cons_of_mem _ Br)) _).setCell (p:=⟨b,off,none⟩) (inl (by simp)) _).setCell (p:=⟨b,off+1,none⟩) (inl (by simp)) _).drew
       case measure=>simp[intOf];omega
end Go.Proofs.YthffblhdjjbkaaaGreat
