/- jsonin.Parser; jsonin.Parser; jsonin.Parser; jsonin.Parser; jsonin.Parser; jsonin.Parser.parts; jsonin.Parser; jsonin.Parser -/
import Derived.Test.YthffblhdjjbkaaaGreatM2
import Derived.Test.YthffblhdjjbkaaaGreatM16
set_option maxHeartbeats 100000000
set_option maxRecDepth 1000000
open Go.Lib (hid)
open Go.Proofs.Tryz
open Or (inl inr)
namespace Go.Proofs.YthffblhdjjbkaaaGreat
open Go.RowKit Go.Tru
theorem Im (base b:Nat) (mv:Value) (p:Js) (F:List Nat) (t:ej) (w:World) (h:dr w base b mv p F) (hk: ¬ (t.kind=91∨t.kind=123)∧t.kind≠115∧t.kind≠110∧¬ (t.kind=116∨t.kind=102)∧t.kind≠48):Calls prog 120 #[.pointer (some ⟨b,0,none⟩),ew t] w fun e w'=>gn w base b mv F (p.value t) e w':=by
 have hv:p.value t=p.fail 2:=by unfold Js.value;rw[if_neg hk.1,if_neg hk.2.1,if_neg hk.2.2.1,if_neg hk.2.2.2.1,if_neg hk.2.2.2.2]
 rw[hv];obtain⟨kind,text,neg,jM⟩:=t;have eA:=ku h;have hA:=h.aI (((I.refl [] w).alloc (.cells #[.int .u8 kind,.string text,.bool neg,.int .u64 jM] 209)));obtain⟨g23,g24,zr,Kk,dD,ys⟩:=fl hA;obtain⟨f24,f25,f26⟩:=kt hA;have H:=hid hA;simp only at hk;have k1:(kind==91)=false:=beq_eq_false_iff_ne.2 (by omega);have k2:(kind==123)=false:=beq_eq_false_iff_ne.2 (by omega);have k3:(kind==115)=false:=beq_eq_false_iff_ne.2 (by omega);have k4:(kind==110)=false:=beq_eq_false_iff_ne.2 (by omega);have k5:(kind==116)=false:=beq_eq_false_iff_ne.2 (by omega);have k6:(kind==102)=false:=beq_eq_false_iff_ne.2 (by omega);have k7:(kind==48)=false:=beq_eq_false_iff_ne.2 (by omega);clear h hv hA hk;simp only[ew,ej.cells];go_enter func120,ntmps120;go_wp2_with fail
 go_ret2;exact⟨rfl,eT (H.out.uN 2) ((((I.refl _ _).alloc _)).setCell (inl eA) _)⟩
theorem FU (base b:Nat) (mv:Value) (p:Js) (F:List Nat) (t:ej) (w:World) (h:dr w base b mv p F) (hf:p.Fit) (ak:base≤w.heap.size):Calls prog 120 #[.pointer (some ⟨b,0,none⟩),ew t] w fun e w'=>gn w base b mv F (p.value t) e w':=by
 by_cases h1:t.kind=91∨t.kind=123
 ·by_cases h2:(p.maps.length:Int)=p.depth
  ·exact Ik base b mv p F t w h h1 h2
  ·exact Il base b mv p F t w h hf ak h1 h2
 ·by_cases h2:t.kind=115∨t.kind=110∨t.kind=116∨t.kind=102∨t.kind=48
  ·exact D4 base b mv p F t w h h2
  ·exact Im base b mv p F t w h ⟨h1,by omega,by omega,by omega,by omega⟩
theorem NG {w:World} {base b:Nat} {mv:Value} {p:Js} {F:List Nat} {m:Bool} {r:List Bool} (h:dr w base b mv p F) (hm:p.maps=m::r): ∃g cap,mv= .slice (some ⟨g,0,none⟩) (r.length+1) cap∧base≤g∧g<w.heap.size∧r.length+1≤cap∧cap≤maxLen∧w.cell? ⟨g,r.length,none⟩=some (.bool m)∧g≠b:=by have Vq:=h.maps;rw[hm] at Vq;obtain⟨g,cap,rfl,h1,h2,h3,h4,h5⟩:=Vq.some_;refine⟨g,cap,rfl,h1,h2,h3,h4,h5,fun he=> ?_⟩;exact(fl h).2.2.2.2.2 (aa.2 (by rw[he];rfl))
open Go.K3 in
theorem Io (base b:Nat) (mv:Value) (p:Js) (F:List Nat) (t:ej) (w:World) (h:dr w base b mv p F) (hf:p.Fit) (hA: ¬ (t.kind=58∧p.next=4)) (hB: ¬ (t.kind=44∧p.next=5)) (hD: ¬ (t.kind=115∧(p.next=3∨p.next=2))) (hE:p.next≠0∧p.next≠1) (hm:p.maps= []):Calls prog 114 #[.pointer (some ⟨b,0,none⟩),ew t] w fun e w'=>gn w base b mv F (p.fail 2) e w':=q16
open Go.K1 in
theorem Ip (base b:Nat) (mv:Value) (p:Js) (F:List Nat) (t:ej) (w:World) (h:dr w base b mv p F) (hf:p.Fit) (hA: ¬ (t.kind=58∧p.next=4)) (hB: ¬ (t.kind=44∧p.next=5)) (hC: ¬p.ends t=true) (hD: ¬ (t.kind=115∧(p.next=3∨p.next=2))) (hE:p.next≠0∧p.next≠1) (m:Bool) (r:List Bool) (hm:p.maps=m::r):Calls prog 114 #[.pointer (some ⟨b,0,none⟩),ew t] w fun e w'=>gn w base b mv F (p.fail 2) e w':=q16
open Go.K1 in
theorem D5 (base b:Nat) (mv:Value) (p:Js) (F:List Nat) (t:ej) (w:World) (h:dr w base b mv p F) (hA:t.kind=58∧p.next=4):Calls prog 114 #[.pointer (some ⟨b,0,none⟩),ew t] w fun e w'=>gn w base b mv F (none,{p with next:=0}) e w':=q30
open Go.K0 in
theorem LU (base b:Nat) (mv:Value) (p:Js) (F:List Nat) (t:ej) (w:World) (h:dr w base b mv p F) (hA:t.kind=115∧(p.next=3∨p.next=2)):Calls prog 114 #[.pointer (some ⟨b,0,none⟩),ew t] w fun e w'=>gn w base b mv F (some (ah t.text),{p with next:=4}) e w':=q30
open Go.K1 in
theorem D6 (base b:Nat) (mv:Value) (p:Js) (F:List Nat) (t:ej) (w:World) (h:dr w base b mv p F) (hf:p.Fit) (hA:t.kind=44∧p.next=5) (m:Bool) (r:List Bool) (hm:p.maps=m::r):Calls prog 114 #[.pointer (some ⟨b,0,none⟩),ew t] w fun e w'=>gn w base b mv F (none,{p with next:=if m=true then 3 else 0}) e w':=q20
open Go.K0 in
theorem LV (base b:Nat) (mv:Value) (p:Js) (F:List Nat) (t:ej) (w:World) (h:dr w base b mv p F) (hf:p.Fit) (m:Bool) (r:List Bool) (hm:p.maps=m::r) (hC:(t.kind=93∧m=false∧(p.next=1∨p.next=5))∨(t.kind=125∧m=true∧(p.next=2∨p.next=5))):Calls prog 114 #[.pointer (some ⟨b,0,none⟩),ew t] w fun e w'=>gn w base b mv F (some aL,Js.behind {p with maps:=r}) e w':=q20
open Go.K2 in
theorem LW (base b:Nat) (mv:Value) (p:Js) (F:List Nat) (t:ej) (w:World) (h:dr w base b mv p F) (hf:p.Fit) (ak:base≤w.heap.size) (hE:p.next=0∨p.next=1) (hm:p.maps= []):Calls prog 114 #[.pointer (some ⟨b,0,none⟩),ew t] w fun e w'=>gn w base b mv F (p.value t) e w':=q16
open Go.K0 in
theorem LX (base b:Nat) (mv:Value) (p:Js) (F:List Nat) (t:ej) (w:World) (h:dr w base b mv p F) (hf:p.Fit) (ak:base≤w.heap.size) (hE:p.next=0∨p.next=1) (hC: ¬p.ends t=true) (m:Bool) (r:List Bool) (hm:p.maps=m::r):Calls prog 114 #[.pointer (some ⟨b,0,none⟩),ew t] w fun e w'=>gn w base b mv F (p.value t) e w':=q16
theorem LY (base b:Nat) (mv:Value) (p:Js) (F:List Nat) (t:ej) (w:World) (h:dr w base b mv p F) (hf:p.Fit) (ak:base≤w.heap.size):Calls prog 114 #[.pointer (some ⟨b,0,none⟩),ew t] w fun e w'=>gn w base b mv F (p.token t) e w':=by
 unfold Js.token;by_cases hA:t.kind=58∧p.next=4
 ·rw[if_pos hA];exact D5 base b mv p F t w h hA
 rw[if_neg hA];by_cases hB:t.kind=44∧p.next=5
 ·rw[if_pos hB];cases hm:p.maps with
  |nil=>exact absurd hm (hf.more hB.2)
  |cons m r=>have:=D6 base b mv p F t w h hf hB m r hm;simpa[hm] using this
 rw[if_neg hB];by_cases hC:p.ends t=true
 ·rw[if_pos hC];cases hm:p.maps with
  |nil=>simp[Js.ends,hm] at hC
  |cons m r=>refine LV base b mv p F t w h hf m r hm ?_;have:=hC;unfold Js.ends at this;rw[hm] at this;exact of_decide_eq_true this
 rw[if_neg hC];by_cases hD:t.kind=115∧(p.next=3∨p.next=2)
 ·rw[if_pos hD];exact LU base b mv p F t w h hD
 rw[if_neg hD];by_cases hE:p.next≠0∧p.next≠1
 ·rw[if_pos hE];cases hm:p.maps with
  |nil=>exact Io base b mv p F t w h hf hA hB hD hE hm
  |cons m r=>exact Ip base b mv p F t w h hf hA hB hC hD hE m r hm
 ·rw[if_neg hE];cases hm:p.maps with
  |nil=>exact LW base b mv p F t w h hf ak (by omega) hm
  |cons m r=>exact LX base b mv p F t w h hf ak (by omega) hC m r hm
end Go.Proofs.YthffblhdjjbkaaaGreat
namespace Go.Tru
open Go.RowKit
structure sI (w:World) (o:Option Addr) (n c:Nat) (ts:List ej):Prop where
 len:ts.length=n
 room:n≤c
 nV:c≤maxLen
 at_:n=0∨∃b off,o=some ⟨b,off,none⟩∧b<w.heap.size∧∀ (i:Nat) (t:ej),ts[i]? =some t→∀ (j:Nat) (v:Value),t.cells[j]? =some v→w.cell? ⟨b,off+i*4+j,none⟩=some v
theorem AW (ts:List ej): ∀ (i:Nat) (t:ej),ts[i]? =some t→∀ (j:Nat) (v:Value),t.cells[j]? =some v→(ts.flatMap ej.cells)[i*4+j]? =some v:=by
 induction ts with
 |nil=>intro i e h;cases i<;>cases h
 |cons x ts ih=>
  intro i e h j v hv;rw[List.flatMap_cons];have hj:j<4:=(List.getElem?_eq_some_iff.1 hv).1;have hx:x.cells.length=4:=rfl;cases i with
  |zero=>simp only[List.getElem?_cons_zero,Option.some.injEq] at h;subst h;rw[List.getElem?_append_left (by omega)];simpa using hv
  |succ i=>
   rw[List.getElem?_append_right (by omega),hx];have:(i+1)*4+j-4=i*4+j:=by omega
   rw[this];exact ih i e (by simpa using h) j v hv
theorem xY {w:World} {B:Nat} {v:Value} {ts:List ej} (h:cZ w B v ts): ∃o c,v= .slice o ts.length c∧sI w o ts.length c ts:=by
 have h:=h.1;have dD:=World.ownsRow.lt h;rcases h.2 with⟨rfl,h0⟩|⟨g,cap,cur,rfl,hb,hg,hn,hm,_⟩
 ·exact⟨none,0,by rw[h0],rfl,by omega,Nat.zero_le _,inl h0⟩
 ·refine⟨_,cap,rfl,rfl,hn,hm,inr ⟨g,0,rfl,(dD g rfl).2,fun i e he j v hv=> ?_⟩⟩;have hl:i<ts.length:=(List.getElem?_eq_some_iff.1 he).1;have hj:j<4:=(List.getElem?_eq_some_iff.1 hv).1;rw[Nat.zero_add,World.ownsRow.cellAt h _ (by omega)];exact AW ts i e he j v hv
theorem sI.keeps {F:List Nat} {w w':World} {o:Option Addr} {n c:Nat} {ts:List ej} (h:sI w o n c ts) (k:I F w w') (hF: ∀i∈ae (.slice o n c),i∉F):sI w' o n c ts:=⟨h.len,h.room,h.nV,h.at_.imp id fun⟨b,off,h1,h2,h3⟩=>⟨b,off,h1,Nat.lt_of_lt_of_le h2 k.size,fun i p hp j v hv=>k.cell (h3 i p hp j v hv) (hF b (by rw[h1];exact aa.2 rfl))⟩⟩
theorem sI.get {w:World} {o:Option Addr} {n c:Nat} {ts:List ej} (h:sI w o n c ts) {k:Nat} (hk:k<n) {t:ej} (ht:ts[k]? =some t): ∃b off,o=some ⟨b,off,none⟩∧b<w.heap.size∧w.cell? ⟨b,off+k*4,none⟩=some (.int .u8 t.kind)∧w.cell? ⟨b,off+k*4+1,none⟩=some (.string t.text)∧w.cell? ⟨b,off+k*4+2,none⟩=some (.bool t.neg)∧w.cell? ⟨b,off+k*4+3,none⟩=some (.int .u64 t.jM):=by
 rcases h.at_ with h0|⟨b,off,h1,h2,h3⟩
 ·omega
 ·have h4:=h3 k _ ht;exact⟨b,off,h1,h2,h4 0 _ rfl,h4 1 _ rfl,h4 2 _ rfl,h4 3 _ rfl⟩
theorem Iq {p:Js} {l:List ej} {k:Nat} {t:ej} (hk:l[k]? =some t) (h:(p.token t).2.e≠0):p.j0 (l.drop k)=([],(p.token t).2):=by obtain⟨xj,rfl⟩:=List.getElem?_eq_some_iff.1 hk;rw[List.drop_eq_getElem_cons xj,Js.j0,if_pos h]
theorem LZ {p:Js} {l:List ej} {k:Nat} {t:ej} (hk:l[k]? =some t) (h:(p.token t).2.e=0):p.j0 (l.drop k)=((p.token t).1.toList++((p.token t).2.j0 (l.drop (k+1))).1,((p.token t).2.j0 (l.drop (k+1))).2):=by obtain⟨xj,rfl⟩:=List.getElem?_eq_some_iff.1 hk;rw[List.drop_eq_getElem_cons xj,Js.j0,if_neg (by simp[h])]
end Go.Tru
namespace Go.Proofs.YthffblhdjjbkaaaGreat
open Go.RowKit Go.Tru
def fp (w:World) (base b:Nat) (mv:Value) (F:List Nat) (r:List Ev×Js) (e:Ending) (w':World):Prop:=
 ∃v yv F',e= .returned (.tuple #[v,.int .i64 r.2.e])∧aP w' w.heap.size v r.1∧dr w' base b yv r.2 F'∧I (F++ae mv) w w'∧(∀i∈F'++ae yv,i∈F++ae mv∨w.heap.size≤i)∧∀i∈F'++ae yv,i∉ae v
def TM (w0:World) (base b:Nat) (mv0:Value) (F0:List Nat) (l:List ej) (lY:List Ev×Js) (v i:Value) (wr:World):Prop:=
 ∃ (k:Nat) (acc:List Ev) (p:Js) (mv:Value) (F:List Nat),k≤l.length∧i= .int .i64 k∧aP wr w0.heap.size v acc∧dr wr base b mv p F∧(p.Fit∧p.e=0)∧acc.length≤k∧
  lY=(acc++(p.j0 (l.drop k)).1,(p.j0 (l.drop k)).2)∧I (F0++ae mv0) w0 wr∧(∀i∈F++ae mv,i∈F0++ae mv0∨w0.heap.size≤i)∧∀i∈F++ae mv,i∉ae v
theorem Ir (p:Ev):p.part= .nilIface∨∃T v,p.part= .iface T v:=by
 unfold Ev.part;repeat' split
 all_goals first|exact inl rfl|exact inr ⟨_,_,rfl⟩
theorem Ma {q:Ev} {pv:Value} (h:q.part=pv) {w:World} {t:TypeId} {g:Nat} (hg:g=w.heap.size): ∀ (j:Nat) (u:Value),([q].map Ev.part)[j]? =some u→(w.alloc (.cells #[pv] t)).cell? ((⟨g,0,none⟩:Addr).add j)=some u:=by subst h;exact aA ([q].map Ev.part) hg
theorem Z8 {w:World} {base b:Nat} {mv:Value} {p:Js} {F:List Nat} (h:dr w base b mv p F): ∀i∈F++ae mv,i<w.heap.size:=by
 intro i hi;rcases List.mem_append.1 hi with h1|h1
 ·exact h.lex.1.2 i h1
 ·exact(World.ownsRow.lt h.maps i (aa.1 h1)).2
theorem Km (base b:Nat) (mv:Value) (p:Js) (F:List Nat) (tv:Value) (l:List ej) (B:Nat) (e:Int) (w:World) (h:dr w base b mv p F) (hf:p.Fit) (qk:p.e=0) (ak:base≤w.heap.size) (ht:cZ w B tv l) (hl:l.length≤1000) (hd: ∀i∈ae tv,i∉F++ae mv):Calls prog 108 #[.pointer (some ⟨b,0,none⟩),tv,.int .i64 e] w fun r w'=>fp w base b mv F (p.parts l e) r w':=by
 obtain⟨lY,wJ⟩: ∃lY,p.j0 l=lY:=⟨_,rfl⟩
 have hp:p.parts l e=if lY.2.e≠0 then lY else(lY.1,{lY.2 with e:=e}):=by unfold Js.parts;rw[wJ]
 rw[hp];obtain⟨res,iI⟩: ∃res,(if lY.2.e≠0 then lY else(lY.1,{lY.2 with e:=e}))=res:=⟨_,rfl⟩
 rw[iI];have rO:=hid iI;have oh:lY=([]++(p.j0 (l.drop 0)).1,(p.j0 (l.drop 0)).2):=by rw[←wJ];simp
 obtain⟨to,tc,rfl,hti⟩:=xY ht;have HTI:=hid hti;have HD:=hid hd;have FA:=hid (fun i hi=>(World.ownsRow.lt ht.1 i (aa.1 hi)).2: ∀i∈ae (.slice to l.length tc),i<w.heap.size);have P4:=hid oh;have H:=hid h;have HF:=hid hf;have YP:=hid qk;have dH:=hti.room;have ahK:=hti.nV;clear iI oh wJ hp h hf ht hti hd qk;go_enter func108,ntmps108;go_wp2_with fail
 go_loopw [8,15] (fun v i wr=>TM w base b mv F l lY v i wr) (fun _ i _=>l.length- (intOf i).toNat);case atStart=>exact⟨0,[],p,mv,F,Nat.zero_le _,rfl,aP.nil _ _,H.out,⟨HF.out,YP.out⟩,by simp,P4.out,I.refl _ _,fun i hi=>inl hi,by simp[aR]⟩
 case round=>
  obtain⟨k,acc,q,mvk,Fk,hk,rfl,au,kq,⟨tM,LI⟩,alz,wJ,hK,ef,Z9⟩:=hrel;have HE1:=hid LI;obtain⟨ao,co,rfl⟩:=au.shape;have hzw:=hK.size;have adD:=(fl kq).2.2.2.2.1;have cO:=hid au;have P5:=hid kq;have rQ:=hid tM;have Xp:=hid wJ;have HK:=hid hK;have nI:=hid ef;have TN:=hid Z9;have Xq:=HTI.out.keeps hK HD.out;clear au kq tM wJ hK ef Z9 LI;by_cases dD:k<l.length
  ·obtain⟨t,Ld⟩: ∃t,l[k]? =some t:=⟨_,List.getElem?_eq_getElem dD⟩
   obtain⟨tb,alB,rfl,htb,g0,g1,g2,g3⟩:=Xq.get dD Ld;have Xr:=fun W hW hb=>LY base b mvk q Fk t W hW rQ.out hb;have JL:=Js.sf rQ.out t;obtain⟨o2,q2,hr⟩: ∃o2 q2,q.token t=(o2,q2):=⟨_,_,rfl⟩
   have TO:=Iq (p:=q) Ld;have hgo:=LZ (p:=q) Ld;have aaa:=Js.td (p:=q) (t:=t);rw[hr] at Xr JL TO hgo aaa;simp only at JL TO hgo aaa;have aer:=hid TO;have HGO:=hid hgo;have JM:=hid JL;have aes:=hid Xr;clear Xq TO hgo JL Xr hr Ld;go_wp2_with fail
   refine(aes.out _ (P5.out.aI ((I.refl _ _).alloc _)) (by simp;omega)).mono ?_;rintro e9 w2 ⟨rfl,zu,F2,iT,iA,fD⟩;obtain⟨g23,g24,zr,Kk,WV,aet⟩:=fl iT;have gW:=iA.size;have Xs:=((I.refl (Fk++ae mvk) wr).alloc (.cells t.cells.toArray 209)).trans iA;have aab:=nI.out;have wK:=hid (ab cO.out Xs (fun i hi hm=>TN.out i hm (aa.2 hi)));have LB:=hid (HK.out.trans' Xs nI.out);have aac: ∀i∈ae (.slice ao acc.length co),i<wr.heap.size:=fun i hi=>(World.ownsRow.lt cO.out i (aa.1 hi)).2;simp only[World.size_alloc] at gW fD;have Vr: ∀i∈F2++ae zu,i∈F++ae mv∨w.heap.size≤i:=fun i hi=>(fD i hi).elim (fun h=>nI.out i h) (fun h=>inr (by omega));have Vs: ∀i∈F2++ae zu,i∉ae (.slice ao acc.length co):=fun i hi hm=>(fD i hi).elim (fun h=>TN.out i h hm) (fun h=>by have:=aac i hm;omega);have TI:=Z8 iT;have aeu:=hid (fun i hi=>(World.ownsRow.lt cO.out i (aa.1 hi)).1: ∀i∈ae (.slice ao acc.length co),w.heap.size≤i);have Xt:=hid iT;have P6:=hid Vr;have D7:=hid Vs;have aev:=hid TI;clear iT iA Xs fD aab aac Vr Vs TI
   simp only at g23 g24 zr Kk;by_cases um:q2.e=0
   ·have yV:=hid um;rw[um] at Kk;have HT2:=hid (Xp.out.trans (by rw[HGO.out um]):lY=(acc++(o2.toList++(q2.j0 (l.drop (k+1))).1),(q2.j0 (l.drop (k+1))).2));clear um;cases o2 with
    |none=>
     simp only[rR];go_wp2_with fail
     go_roundw;case rel=>exact⟨k+1,acc,q2,zu,F2,by omega,by go_num,wK.out,Xt.out,⟨JM.out,yV.out⟩,by omega,by rw[HT2.out];simp,LB.out,P6.out,D7.out⟩
     case measure=>simp[intOf];omega
    |some qe=>
     simp only[rR];rcases Ir qe with YL|⟨T,pv,YL⟩;all_goals
      rw[YL];have TP:=hid YL;clear YL;go_wp2_with (at_builtin;go_must (refine nj rfl _ _ rfl w.heap.size _ acc rfl (ab wK.out ((I.refl [] _).alloc _) (by simp)) ⟨_,0,none⟩ 1 1 [qe] rfl rfl (Ma TP.out rfl) (by omega) (by simp;omega) ?_))
      intro v5 w5 de qp _ yl;obtain⟨a5,c5,rfl⟩:=de.shape;have k25:=(I.refl (ae (.slice ao acc.length co)) w2).alloc (.cells #[_] 20) |>.trans qp;have HO5:=hid de;have HI5:=hid (Xt.out.keeps k25 (fun i hi=>D7.out i (List.mem_append_left _ hi)) (fun i hi=>D7.out i (List.mem_append_right _ hi)));have I6:=hid (LB.out.trans' k25 (fun i hi=>inr (aeu.out i hi)));have HD5:=hid (show∀i∈F2++ae zu,i∉ae (.slice a5 (acc++[qe]).length c5) from fun i hi hm=>by
       rw[aa] at hm;rcases yl with h1|h1
       ·rw[h1] at hm;exact D7.out i hi (aa.2 hm)
       ·rw[h1] at hm;injection hm with hm;have:=aev.out i hi;first|omega|(simp at hm;omega))
      clear de qp yl k25;go_wp2_with fail
      go_roundw;case rel=>exact⟨k+1,acc++[qe],q2,zu,F2,by omega,by go_num,HO5.out,HI5.out,⟨JM.out,yV.out⟩,by simp;omega,by rw[HT2.out];simp,I6.out,P6.out,HD5.out⟩
      case measure=>simp[intOf];omega
   ·have R8:(q2.e != 0)=true:=by simpa using um
    have Fz:(if lY.2.e≠0 then lY else(lY.1,{lY.2 with e:=e}))=(acc,q2):=by rw[Xp.out,aer.out um];simp[um]
    have ez:=hid Fz;clear um Fz;cases o2;all_goals
     simp only[rR];go_wp2_with fail
     go_region;all_goals
      go_wp2_with fail
      go_ret2;rw[rO.out.symm.trans ez.out];exact⟨_,zu,F2,rfl,wK.out,Xt.out.aI (I.refl _ _).drew,LB.out.drew,P6.out,D7.out⟩
  ·obtain rfl:k=l.length:=by omega
   obtain⟨g23,g24,zr,Kk,WV,aet⟩:=fl P5.out;obtain⟨f24,f25,f26⟩:=kt P5.out;have eA:=ku P5.out;have Fz:(if lY.2.e≠0 then lY else(lY.1,{lY.2 with e:=e}))=(acc,{q with e:=e}):=by rw[Xp.out,List.drop_length,Js.j0];simp[HE1.out]
   have ez:=hid Fz;clear Fz Xq;go_wp2_with fail
   go_ret2;rw[rO.out.symm.trans ez.out];have k9:=(I.refl [b] wr).ax (i:=26) (.int .i64 e);exact⟨_,mvk,Fk,rfl,ab cO.out k9 (fun i hi hm=>TN.out b eA (by rw[List.mem_singleton] at hm;exact hm▸aa.2 hi)),P5.out.uN e,HK.out.setCell (nI.out b eA) _,nI.out,TN.out⟩
theorem NC {w w1:World} {base b:Nat} {mv:Value} {p:Js} {F F':List Nat} {L':Lex} (h:dr w base b mv p F) (h1:dK w1 base b (rP p mv) 185 L' F') (k:I F w w1) (hs: ∀i∈F',i∈F∨w.heap.size≤i):dr w1 base b mv {p with l:=L'} F':=by
 refine⟨h1,ab h.maps k (fun i hi hm=>h.apart i hm (aa.2 hi)),fun i hi hm=> ?_⟩;rcases hs i hi with h2|h2
 ·exact h.apart i h2 hm
 ·have:=(World.ownsRow.lt h.maps i (aa.1 hm)).2;omega
theorem xv {w w1:World} {base b:Nat} {mv v:Value} {p:Js} {F F':List Nat} {l:List ej} (h:dr w base b mv p F) (ho:cZ w1 w.heap.size v l) (hd: ∀i∈F',i∉ae v): ∀i∈ae v,i∉F'++ae mv:=by
 intro i hi hm;rcases List.mem_append.1 hm with h1|h1
 ·exact hd i h1 hi
 ·have h2:=(World.ownsRow.lt h.maps i (aa.1 h1)).2;have h3:=(World.ownsRow.lt ho.1 i (aa.1 hi)).1;omega
theorem fp.before {w w1 w':World} {base b:Nat} {mv:Value} {F F':List Nat} {r:List Ev×Js} {e:Ending} (k:I F w w1) (hs: ∀i∈F',i∈F∨w.heap.size≤i) (h:fp w1 base b mv F' r e w'):fp w base b mv F r e w':=by
 obtain⟨v,yv,F2,h1,h2,h3,h4,h5,h6⟩:=h;have hs': ∀i∈F'++ae mv,i∈F++ae mv∨w.heap.size≤i:=fun i hi=>by
  rcases List.mem_append.1 hi with h|h
  ·rcases hs i h with h|h
   ·exact inl (List.mem_append_left _ h)
   ·exact inr h
  ·exact inl (List.mem_append_right _ h)
 refine⟨v,yv,F2,h1,gM h2 k.size,h3,(k.mono (fun i hi=>List.mem_append_left _ hi)).trans' h4 hs',fun i hi=> ?_,h6⟩;rcases h5 i hi with h|h
 ·exact hs' i h
 ·exact inr (Nat.le_trans k.size h)
theorem Kn {w w':World} {base b:Nat} {mv:Value} {F:List Nat} {p:Js} {e:Ending} (he:e= .returned (.tuple #[.slice none 0 0,.int .i64 p.e])) (h:dr w' base b mv p F) (k:I (F++ae mv) w w'):fp w base b mv F ([],p) e w':=⟨_,mv,F,he,aP.nil _ _,h,k,fun _ hi=>inl hi,by simp[aR]⟩
open Go.K1 in
theorem TQ (base b:Nat) (mv:Value) (p:Js) (F:List Nat) (x:Int) (w:World) (h:dr w base b mv p F) (hf:p.Fit) (ak:base≤w.heap.size) (hx:0≤x) (dE:x≤255):Calls prog 141 #[.pointer (some ⟨b,0,none⟩),.int .u8 x] w fun r w'=>fp w base b mv F (p.step x) r w':=q9
theorem P7 {w:World} {base n:Nat} (hn:n=w.heap.size) (hb:base≤n) (d:Int) (cs:Array Value) (hc:cs=(Lex.new.cells (.pointer none) (.slice none 0 0)++rP (Js.new d) (.slice none 0 0)).toArray):dr (w.alloc (.cells cs 185)) base n (.slice none 0 0) (Js.new d) [n]:=by subst hn hc;refine⟨⟨⟨by simp,fun i hi=>by rw[List.mem_singleton] at hi;subst hi;simp⟩,.pointer none,.slice none 0 0,Has.new _ _ _,fun h=>by simp[Js.new,Lex.new] at h⟩,dY.nil _ _,by simp[aR]⟩
theorem FN (d:Int) (hd:1≤d∧d≤16) (w:World):Calls prog 101 #[.int .i64 d] w fun e w'=>e= .returned (.pointer (some ⟨w.heap.size,0,none⟩))∧dr w' w.heap.size w.heap.size (.slice none 0 0) (Js.new d) [w.heap.size]∧I [] w w':=by
 have h1: ¬d<1:=by omega
 have h2: ¬16<d:=by omega
 go_enter func101,ntmps101;go_wp2_with fail
 go_ret;exact⟨rfl,P7 rfl (Nat.le_refl _) d _ rfl,(I.refl _ _).alloc _⟩
theorem Kl {L:Lex} (h:L.Fit∧L.Sl):L.fin.1.Fit∧L.fin.1.Sl:=by
 unfold Lex.fin;repeat' split
 ·exact h
 ·refine⟨Lex.sd h.1,fun he=> ?_⟩;rw[Lex.zO];rename_i h1 _;exact h.2 (Decidable.not_not.1 (fun hh=>h1 (inl hh)))
 ·exact⟨⟨h.1.r,h.1.v,h.1.s,h.1.rest⟩,fun he=>by simp at he⟩
open Go.K0 in
theorem Xu (base b:Nat) (mv:Value) (p:Js) (F:List Nat) (w:World) (h:dr w base b mv p F) (hf:p.Fit) (ak:base≤w.heap.size):Calls prog 96 #[.pointer (some ⟨b,0,none⟩)] w fun r w'=>fp w base b mv F p.fin r w':=q9
end Go.Proofs.YthffblhdjjbkaaaGreat
