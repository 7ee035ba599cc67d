/- The writers' open containers; A JSON writer in memory; jsonout's open containers; What a pipe writes where all goes well -/
import Derived.Test.YthffblhdjjbkaaaGreatM31
set_option maxHeartbeats 100000000
set_option maxRecDepth 1000000
open Go.Proofs.Tryz
namespace Go.Proofs.YthffblhdjjbkaaaGreat
open Go.RowKit Go.Tru
theorem Th:(Tryz.prog.info? 301).map (fun i=>(i.zero,i.size,i.bytes))=some (some (.agg #[.bool false,.int .i64 0,.int .i64 0]),3,24):=by kernel_rfl
theorem Ti:(Tryz.prog.info? 299).map (fun i=>(i.zero,i.size,i.bytes))=some (some (.agg #[.bool false,.int .i64 0,.int .i64 0]),3,24):=by kernel_rfl
theorem Df (l:List af): ∀u∈bJ l,u.oneCell'=true:=by intro u hu;obtain⟨c,_,h⟩:=List.mem_flatMap.1 hu;exact ve c u h
theorem Dg (l d:List af):bJ l++bJ d=bJ (d++l):=by unfold bJ;rw[List.reverse_append,List.flatMap_append]
theorem eM {o:Oper} {a:Act} {w:World} {K:Act→World→Prop} {Q:Exit→Act→World→Prop} (s x:Operand) (ho:o.op= .call {callee:= .builtin .append,args:= #[s,x],argTypes:= #[168,168]}) (base:Nat) (v:Value) (l:List af) (hs:a.eval s=v) (au:ai w base 301 v l) (ad:Addr) (m c:Nat) (ds:List af) (hx:a.eval x= .slice (some ad) m c) (hm:ds.length=m) (fO: ∀ (j:Nat) (u:Value),(bJ ds)[j]? =some u→w.cell? (ad.add j)=some u) (hlen:l.length+m≤1000000) (ak:base≤w.heap.size) (h: ∀v' w',ai w' base 301 v' (ds++l)→I (ae v) w w'→(v'.ownBlock=v.ownBlock∨v'.ownBlock=some w.heap.size)→K (a.put o.dst v') w'):Oper.wp prog o a w K Q:=by obtain⟨i0,hi,ko,gv,gW⟩:=info_parts Th;subst hm;obtain⟨v',w',hr,h2,h3,_,h5⟩:=run_append_own_at (P:=prog) w base 168 o.type 301 i0 (.agg #[.bool false,.int .i64 0,.int .i64 0]) 3 24 underlying168 hi ko gv gW rfl (by decide) v l.length (bJ l) au ad ds.length c (bJ ds) (fN ds) fO (Df ds) (by unfold maxLen;omega) (by omega) ak;unfold Oper.wp execOp;simp only[ho,resolve,invoke,builtin,Sem.run_bind,Sem.run_pure,Result.andThen_ok,List.map_toArray,List.map_cons,List.map_nil,hs,hx,hr];refine h v' w' ?_ (cD h3) h5;unfold ai;rw[←Dg,List.length_append,Nat.add_comm];exact h2
theorem eL {o:Oper} {a:Act} {w:World} {K:Act→World→Prop} {Q:Exit→Act→World→Prop} (s x:Operand) (ho:o.op= .call {callee:= .builtin .append,args:= #[s,x],argTypes:= #[164,164]}) (base:Nat) (v:Value) (l:List af) (hs:a.eval s=v) (au:ai w base 299 v l) (ad:Addr) (m c:Nat) (ds:List af) (hx:a.eval x= .slice (some ad) m c) (hm:ds.length=m) (fO: ∀ (j:Nat) (u:Value),(bJ ds)[j]? =some u→w.cell? (ad.add j)=some u) (hlen:l.length+m≤1000000) (ak:base≤w.heap.size) (h: ∀v' w',ai w' base 299 v' (ds++l)→I (ae v) w w'→(v'.ownBlock=v.ownBlock∨v'.ownBlock=some w.heap.size)→K (a.put o.dst v') w'):Oper.wp prog o a w K Q:=by obtain⟨i0,hi,ko,gv,gW⟩:=info_parts Ti;subst hm;obtain⟨v',w',hr,h2,h3,_,h5⟩:=run_append_own_at (P:=prog) w base 164 o.type 299 i0 (.agg #[.bool false,.int .i64 0,.int .i64 0]) 3 24 underlying164 hi ko gv gW rfl (by decide) v l.length (bJ l) au ad ds.length c (bJ ds) (fN ds) fO (Df ds) (by unfold maxLen;omega) (by omega) ak;unfold Oper.wp execOp;simp only[ho,resolve,invoke,builtin,Sem.run_bind,Sem.run_pure,Result.andThen_ok,List.map_toArray,List.map_cons,List.map_nil,hs,hx,hr];refine h v' w' ?_ (cD h3) h5;unfold ai;rw[←Dg,List.length_append,Nat.add_comm];exact h2
end Go.Proofs.YthffblhdjjbkaaaGreat
namespace Go.Tru
def af.ow (c:af):List Value:=[.bool c.bg,.int .i64 c.parts]
def ea (s:List af):List Value:=s.reverse.flatMap af.ow
theorem kE (s:List af):(ea s).length=s.length*2:=by
 unfold ea;induction s with
 |nil=>rfl
 |cons c s ih=>rw[List.reverse_cons,List.flatMap_append,List.length_append,ih];simp[af.ow];omega
theorem ia (c:af) (s:List af):ea (c::s)=ea s++c.ow:=by unfold ea;rw[List.reverse_cons,List.flatMap_append,List.flatMap_cons,List.flatMap_nil,List.append_nil]
def bE (w:World) (base:Nat) (v:Value) (s:List af):Prop:=w.ownsRow base 274 2 v s.length (ea s)
theorem bE.nil (w:World) (base:Nat):bE w base (.slice none 0 0) []:=World.ownsRow_nil _ _ _ _
theorem bE.some_ {w:World} {base:Nat} {v:Value} {c:af} {s:List af} (h:bE w base v (c::s)): ∃g cap,v= .slice (some ⟨g,0,none⟩) (s.length+1) cap∧base≤g∧g<w.heap.size∧s.length+1≤cap∧cap≤maxLen∧w.cell? ⟨g,s.length*2,none⟩=some (.bool c.bg)∧w.cell? ⟨g,s.length*2+1,none⟩=some (.int .i64 c.parts)∧∀j,w.frozen? ⟨g,j,none⟩=false:=by
 have dD:=World.ownsRow.lt h;rcases h.2 with⟨_,h2⟩|⟨g,cap,cur,rfl,hb,hg,hn,hm,_⟩
 ·simp at h2
 ·have hl:=kE s;refine⟨g,cap,rfl,hb,(dD g rfl).2,hn,hm,?_,?_,fun j=>h.frozenAt j⟩;all_goals rw[h.cellAt _ (by simp only[List.length_cons];omega),ia,List.getElem?_append_right (by omega),hl];simp[af.ow]
theorem bE.pop {w:World} {base g cap:Nat} {c:af} {s:List af} (h:bE w base (.slice (some ⟨g,0,none⟩) (s.length+1) cap) (c::s)):bE w base (.slice (some ⟨g,0,none⟩) s.length cap) s:=by unfold bE at h⊢;rw[ia] at h;exact ownsRow_pop (kE s) h
theorem bE.gV {w:World} {base g cap:Nat} {c:af} {s:List af} (h:bE w base (.slice (some ⟨g,0,none⟩) (s.length+1) cap) (c::s)) (p:Int):bE (w.setCell ⟨g,s.length*2+1,none⟩ (.int .i64 p)) base (.slice (some ⟨g,0,none⟩) (s.length+1) cap) ({c with parts:=p}::s):=by
 have h1:=(World.ownsRow.stored h (s.length*2+1) (.int .i64 p)).1;unfold bE;have e:(ea (c::s)).set (s.length*2+1) (.int .i64 p)=ea ({c with parts:=p}::s):=by
  have hl:=kE s;rw[ia,ia,List.set_append_right _ _ (by omega),hl];have:s.length*2+1-s.length*2=1:=by omega
  rw[this];simp[af.ow]
 rw[e] at h1;exact h1
theorem bE.shape {w:World} {base:Nat} {v:Value} {s:List af} (h:bE w base v s): ∃a cap,v= .slice a s.length cap:=by
 rcases h.2 with⟨h1,h2⟩|⟨g,cap,cur,h1,_⟩
 ·exact⟨none,0,by rw[h1,h2]⟩
 ·exact⟨_,_,h1⟩
theorem Ly (c:af): ∀u∈c.ow,u.oneCell'=true:=by intro u hu;simp only[af.ow,List.mem_cons,List.not_mem_nil,or_false] at hu;rcases hu with rfl|rfl<;>rfl
theorem bE.push {w:World} {base n:Nat} {v:Value} {c:af} {s:List af} (h:w.ownsRow base 274 2 v n (ea s++c.ow)) (hn:n=s.length+1):bE w base v (c::s):=by subst hn;unfold bE;rw[ia];exact h
structure cV (w:World) (base b:Nat) (ov:Value) (st:Wr):Prop where
 az:Has w b [ov,.bool st.done] 162
 bu:bE w base ov st.open_
 bo:b∉ae ov
theorem cV.keeps {F:List Nat} {w w':World} {base b:Nat} {ov:Value} {st:Wr} (h:cV w base b ov st) (k:I F w w') (hb:b∉F) (ho: ∀i∈ae ov,i∉F):cV w' base b ov st:=⟨h.az.keeps k hb,ab h.bu k (fun i hi=>ho i (aa.2 hi)),h.bo⟩
theorem cV.cells {w:World} {base b:Nat} {ov:Value} {st:Wr} (h:cV w base b ov st):w.cell? ⟨b,0,none⟩=some ov∧w.cell? ⟨b,1,none⟩=some (.bool st.done):=⟨h.az.cell 0,h.az.cell 1⟩
theorem cV.fin {w:World} {base b:Nat} {ov:Value} {st:Wr} (h:cV w base b ov st) (d:Bool):cV (w.setCell ⟨b,1,none⟩ (.bool d)) base b ov ⟨st.open_,d⟩:=⟨(h.az.set 1 (.bool d)).conv rfl,ab h.bu ((I.refl [b] _).ax _) (fun i hi hm=>h.bo (by rw[List.mem_singleton] at hm;exact hm▸aa.2 hi)),h.bo⟩
theorem cV.fC {w:World} {base b g cap:Nat} {c:af} {r:List af} {d:Bool} (h:cV w base b (.slice (some ⟨g,0,none⟩) (r.length+1) cap) ⟨c::r,d⟩) (p:Int):cV (w.setCell ⟨g,r.length*2+1,none⟩ (.int .i64 p)) base b (.slice (some ⟨g,0,none⟩) (r.length+1) cap) ⟨{c with parts:=p}::r,d⟩:=⟨h.az.other (fun e=>h.bo (aa.2 (by rw[show b=g from e];rfl))) _,bE.gV h.bu p,h.bo⟩
theorem cV.pop {w:World} {base b g cap:Nat} {c:af} {r:List af} {d d':Bool} (h:cV w base b (.slice (some ⟨g,0,none⟩) (r.length+1) cap) ⟨c::r,d⟩):cV ((w.setCell ⟨b,0,none⟩ (.slice (some ⟨g,0,none⟩) r.length cap)).setCell ⟨b,1,none⟩ (.bool d')) base b (.slice (some ⟨g,0,none⟩) r.length cap) ⟨r,d'⟩:=⟨((h.az.set 0 (.slice (some ⟨g,0,none⟩) r.length cap)).set 1 (.bool d')).conv rfl,ab (bE.pop h.bu) (((I.refl [b] _).ax _).ax _) (fun i hi hm=>h.bo (by rw[List.mem_singleton] at hm;rw[←hm];exact aa.2 hi)),h.bo⟩
def cX (w:World) (base b:Nat) (ov:Value) (out:List UInt8) (st:Wr) (r:Ending) (w':World):Prop:=
 r= .returned (.tuple #[.string (bytesOf out),.int .i64 0])∧∃oW,cV w' base b oW st∧I (b::ae ov) w w'∧∀i∈ae oW,i∈ae ov∨w.heap.size≤i
end Go.Tru
namespace Go.Proofs.YthffblhdjjbkaaaGreat
open Go.RowKit Go.Tru
theorem Tq:(Tryz.prog.info? 274).map (fun i=>(i.zero,i.size,i.bytes))=some (some (.agg #[.bool false,.int .i64 0]),2,16):=by kernel_rfl
theorem Ts (l:List af): ∀u∈ea l,u.oneCell'=true:=by intro u hu;obtain⟨c,_,h⟩:=List.mem_flatMap.1 hu;exact Ly c u h
theorem Tt (l d:List af):ea l++ea d=ea (d++l):=by unfold ea;rw[List.reverse_append,List.flatMap_append]
theorem dC {o:Oper} {a:Act} {w:World} {K:Act→World→Prop} {Q:Exit→Act→World→Prop} (s x:Operand) (ho:o.op= .call {callee:= .builtin .append,args:= #[s,x],argTypes:= #[160,160]}) (base:Nat) (v:Value) (l:List af) (hs:a.eval s=v) (au:bE w base v l) (ad:Addr) (m c:Nat) (ds:List af) (hx:a.eval x= .slice (some ad) m c) (hm:ds.length=m) (fO: ∀ (j:Nat) (u:Value),(ea ds)[j]? =some u→w.cell? (ad.add j)=some u) (hlen:l.length+m≤1000000) (ak:base≤w.heap.size) (h: ∀v' w',bE w' base v' (ds++l)→I (ae v) w w'→(v'.ownBlock=v.ownBlock∨v'.ownBlock=some w.heap.size)→K (a.put o.dst v') w'):Oper.wp prog o a w K Q:=by obtain⟨i0,hi,ko,gv,gW⟩:=info_parts Tq;subst hm;obtain⟨v',w',hr,h2,h3,_,h5⟩:=run_append_own_at (P:=prog) w base 160 o.type 274 i0 (.agg #[.bool false,.int .i64 0]) 2 16 underlying160 hi ko gv gW rfl (by decide) v l.length (ea l) au ad ds.length c (ea ds) (kE ds) fO (Ts ds) (by unfold maxLen;omega) (by omega) ak;unfold Oper.wp execOp;simp only[ho,resolve,invoke,builtin,Sem.run_bind,Sem.run_pure,Result.andThen_ok,List.map_toArray,List.map_cons,List.map_nil,hs,hx,hr];refine h v' w' ?_ (cD h3) h5;unfold bE;rw[←Tt,List.length_append,Nat.add_comm];exact h2
end Go.Proofs.YthffblhdjjbkaaaGreat
namespace Go.Tru
theorem eU {T:Pr} {p:aw} {v:Ev} {l:List Ev} (h:p.gD T (v::l)=true):(aw.held p.hold v).2.1=0∧p.out.may T (aw.held p.hold v).1=true∧(p.put T v).2.gD T l=true:=by simp only[aw.gD,Bool.and_eq_true,decide_eq_true_eq] at h;exact⟨h.1.1,h.1.2,h.2⟩
theorem lh {T:Pr} {o:Out} {v:Ev} {l:List Ev} (h:o.may T (v::l)=true):CM v=true∧(o.step T v).2.1=0∧o.small=true∧(o.step T v).2.2.may T l=true:=by simp only[Out.may,Bool.and_eq_true,decide_eq_true_eq] at h;exact⟨h.1.1.1,h.1.1.2,h.1.2,h.2⟩
theorem DR {T:Pr}: ∀ (l:List Ev) (o:Out),o.may T l=true→(o.all T l).2.1=0
 | [],_,_=>rfl
 |v::l,o,h=>by obtain⟨h1,h2,h3,h4⟩:=lh h;rw[Out.all,if_neg (by simp[h2])];exact DR l _ h4
theorem all_cons {T:Pr} {o:Out} {v:Ev} {l:List Ev} (h:(o.step T v).2.1=0):o.all T (v::l)=((o.step T v).1++((o.step T v).2.2.all T l).1,((o.step T v).2.2.all T l).2):=by rw[Out.all];exact if_neg (by simp[h])
theorem p9 {T:Pr} {p:aw} {v:Ev} {l:List Ev} (h:p.gD T (v::l)=true):p.put T v=((p.out.all T (aw.held p.hold v).1).1,{p with hold:=(aw.held p.hold v).2.2,out:=(p.out.all T (aw.held p.hold v).1).2.2,e:=0}):=by obtain⟨h1,h2,h3⟩:=eU h;have h4:=DR _ _ h2;simp[aw.put,h1,h4]
theorem sF {T:Pr} {p:aw} {v:Ev} {l:List Ev} (h:p.gD T (v::l)=true):p.gZ T (v::l)=((p.put T v).1++((p.put T v).2.gZ T l).1,((p.put T v).2.gZ T l).2):=by have h2:=p9 h;rw[aw.gZ,if_neg (by rw[h2];simp)]
theorem yW {T:Pr}: ∀ (l:List Ev) (p:aw),p.e=0→p.gD T l=true→(p.gZ T l).2.e=0
 | [],p,he,_=>he
 |v::l,p,_,h=>by rw[sF h];exact yW l _ (by rw[p9 h]) (eU h).2.2
theorem j7 {T:Pr} {p:aw} {l:List Ev} {e:Int} (he:p.e=0) (h:p.gD T l=true):p.write T l e=((p.gZ T l).1,{(p.gZ T l).2 with e:=e}):=by unfold aw.write;rw[if_neg (by rw[yW l p he h];simp)]
end Go.Tru
