/- pipe.Pipe; pipe.Pipe.Held; pipe.Pipe.End; pipe.New; A session in memory.; session.Session.end; session.Session.once -/
import Derived.Test.YthffblhdjjbkaaaGreatM40
import Derived.Test.YthffblhdjjbkaaaGreatM33
set_option maxHeartbeats 100000000
set_option maxRecDepth 1000000
open Go.Lib (hid)
open Go.Proofs.Tryz
open Or (inl inr)
namespace Go.Proofs.YthffblhdjjbkaaaGreat
open Go.RowKit Go.Tru
theorem Qg (T:Pr) (p:aw) (v:Ev):(p.put T v).2.bG=p.bG:=by unfold aw.put;split<;>rfl
theorem JO (T:Pr): ∀ (l:List Ev) (p:aw),(p.gZ T l).2.bG=p.bG
 | [],_=>rfl
 |v::l,p=>by
  rw[aw.gZ];split
  ·exact Qg T p v
  ·exact(JO T l _).trans (Qg T p v)
theorem Qh (r:Rd) (b:Int):Mj (r.step b).2.2=Mj r:=by cases r<;>rfl
theorem mM {p:aw} (h:p.may=0):p.e=0∧p.cK=false:=by
 unfold aw.may at h;by_cases he:p.e=0
 ·rw[if_neg (by simp[he])] at h;refine⟨he,?_⟩;cases ho:p.cK with
  |false=>rfl
  |true=>rw[ho] at h;simp at h
 ·rw[if_pos he] at h;exact absurd h he
theorem ru {t:bq} {w:World} {base pb ob sb:Nat} {iE ov hv sv:Value} {p:aw} (h:dh t w base pb ob sb iE ov hv sv p):Calls prog 93 #[.pointer (some ⟨pb,0,none⟩)] w fun r w'=>r= .returned (.int .i64 p.may)∧w'=w:=by
 obtain⟨-,-,-,c3,c4,bP,-,-⟩:=h.cells;clear h;unfold aw.may;by_cases he:p.e=0
 ·have fX:(p.e != 0)=false:=by simp[he]
  rw[if_neg (by simp[he])];cases ho:p.cK with
  |false=>
   rw[ho] at c3;rw[he] at c4;go_enter func93,ntmps93;go_wp2_with fail
   go_ret;exact⟨rfl,rfl⟩
  |true=>
   rw[ho] at c3;rw[he] at c4;go_enter func93,ntmps93;go_wp2_with fail
   go_ret;exact⟨rfl,rfl⟩
 ·have fX:(p.e != 0)=true:=by simpa using he
  rw[if_pos he];go_enter func93,ntmps93;go_wp2_with fail
  go_ret;exact⟨rfl,rfl⟩
theorem dh.read {t:bq} {w w':World} {base pb ob sb:Nat} {iE ov hv sv:Value} {p:aw} {G:List Nat} (r':Rd) (h:dh t w base pb ob sb iE ov hv sv p) (k:I G w w') (hG: ∀i∈G,i∉cJ pb ob sb ov hv sv p.hold) (hT: ∀i∈G,base≤i):dh t w' base pb ob sb iE ov hv sv {p with bG:=r'}:=by have h':=h.keeps k (fun i hi hm=>hG i hm hi) (fun i hi=>Nat.lt_of_lt_of_le h.low.1 (hT i hi));exact⟨h'.az,h'.out,h'.hold,h'.sO,h'.low⟩
theorem IB {t:bq} {N:Int} {w w1 w2:World} {base pb ob sb rb:Nat} {ov hv sv nL jz xl:Value} {p:aw} {G G1:List Nat} {r':Rd} {l:List Ev} {e:Int} {ovr:Bool} (h1: ∀i∈cJ pb ob sb ov hv sv p.hold,base≤i∧i<w.heap.size) (hG: ∀i∈G,i∉cJ pb ob sb ov hv sv p.hold) (ak:base≤w.heap.size) (he:p.e=0) (cS:aw.gD t.pr {p with bG:=r',cK:=ovr} l=true) (hr:yq N w1 base rb G1 r') (ij: ∀i∈G1,i∈G∨w.heap.size≤i) (gq:w.heap.size≤w1.heap.size) (hp:dh t w2 base pb ob sb (.iface (Mj r') (.pointer (some ⟨rb,0,none⟩))) nL jz xl (aw.write t.pr {p with bG:=r',cK:=ovr} l e).2) (k2:I (cJ pb ob sb ov hv sv p.hold) w1 w2) (ju: ∀i∈cJ pb ob sb nL jz xl (aw.write t.pr {p with bG:=r',cK:=ovr} l e).2.hold,i∈cJ pb ob sb ov hv sv p.hold∨w1.heap.size≤i): ∃F',gu t N w2 base pb F' (aw.write t.pr {p with bG:=r',cK:=ovr} l e).2∧∀i∈F',i∈cJ pb ob sb ov hv sv p.hold++G∨w.heap.size≤i:=by
 have kq:(aw.write t.pr {p with bG:=r',cK:=ovr} l e).2.bG=r':=by rw[j7 (p:={p with bG:=r',cK:=ovr}) he cS];exact JO _ _ _
 have hd: ∀i∈G1,i∉cJ pb ob sb ov hv sv p.hold:=fun i hi hm=>by
  rcases ij i hi with h|h
  ·exact hG i h hm
  ·have:=(h1 i hm).2;omega
 refine⟨_,⟨ob,sb,rb,nL,jz,xl,G1,by rw[kq];exact hp,by rw[kq];exact hr.keeps k2 hd,fun i hi hm=> ?_,rfl,Nat.le_trans ak (Nat.le_trans gq k2.size)⟩,fun i hi=> ?_⟩
 ·rcases ju i hm with h|h
  ·exact hd i hi h
  ·have:=(hr.lt i hi).2;omega
 ·rcases List.mem_append.1 hi with hi|hi
  ·rcases ju i hi with h|h
   ·exact inl (List.mem_append_left _ h)
   ·exact inr (Nat.le_trans gq h)
  ·exact(ij i hi).imp (List.mem_append_right _) id
theorem oR {T:Pr} {p:aw} {l:List Ev} (h:p.Ww T l=true):p.gD T l=true∧(∀v∈l,v.text.size≤1000000)∧l.length≤100000∧(p.gZ T l).1.length≤900000:=by simp only[aw.Ww,Bool.and_eq_true,decide_eq_true_eq,List.all_eq_true] at h;exact⟨h.1.1.1,h.1.1.2,h.1.2,h.2⟩
theorem Mk {t:bq} {N:Int} {w:World} {base pb:Nat} {F:List Nat} {p:aw} (h:gu t N w base pb F p) (hN:0≤N∧N<100000000) (b:UInt8) (hf:p.fE t.pr (some b)=true):Calls prog 85 #[.pointer (some ⟨pb,0,none⟩),.int .u8 b.toNat] w (Qf t (N+1) w base pb F (p.step t.pr b.toNat)):=by
 obtain⟨ob,sb,rb,ov,hv,sv,G,h1,h2,h3,rfl,h5⟩:=h;simp only[aw.fE,Bool.and_eq_true,decide_eq_true_eq] at hf;obtain⟨⟨⟨dW,Bg⟩,Af⟩,-⟩:=hf;obtain⟨cS,JP,FB,mr⟩:=oR Bg;obtain⟨qk,ho0⟩:=mM dW;have dP:p.step t.pr b.toNat=((aw.write t.pr {p with bG:=(p.bG.step b.toNat).2.2} (p.bG.step b.toNat).1 (p.bG.step b.toNat).2.1).1,(p.bG.step b.toNat).2.1,(aw.write t.pr {p with bG:=(p.bG.step b.toNat).2.2} (p.bG.step b.toNat).1 (p.bG.step b.toNat).2.1).2):=by unfold aw.step;rw[if_neg (by simp[dW])];have:=j7 (p:={p with bG:=(p.bG.step b.toNat).2.2}) (e:=(p.bG.step b.toNat).2.1) qk cS;rw[this]
 rw[dP];have hx:(0:Int)≤((b.toNat:Nat):Int)∧((b.toNat:Nat):Int)≤255:=by have:=b.toNat_lt;omega
 have HM:=hid (ru h1);rw[dW] at HM;have HR:=hid (TT h2 h5 hN b.toNat hx Af);have lu:=Qc h2 (b.toNat) hx.1;have HA:=hid (Vt p.bG);have HMR:=hid (TU p.bG);have HCR:=hid (TV p.bG);have hrt:=Qh p.bG b.toNat;have hG:=(fun i hi=>(h2.lt i hi).1: ∀i∈G,base≤i)
 obtain⟨c0,-,-,-,-,bP,-,-⟩:=h1.cells;have dD:=h1.lt;have H1:=hid h1;obtain⟨⟨l,e,r'⟩,hq⟩: ∃q,p.bG.step b.toNat=q:=⟨_,rfl⟩
 rw[hq] at cS JP FB mr HR lu hrt⊢;obtain⟨RT,YQ⟩: ∃RT,Mj p.bG=RT:=⟨_,rfl⟩
 obtain⟨RS,hRS⟩: ∃RS,wM p.bG=RS:=⟨_,rfl⟩
 have hA:=HA.out;have hMR:=HMR.out;have hCR:=HCR.out;rw[YQ] at c0 hA hMR;rw[hRS] at hMR hCR HR;have HRT:=hid YQ;obtain⟨x,MZ⟩: ∃x:Int,((b.toNat:Nat):Int)=x:=⟨_,rfl⟩
 rw[MZ] at HR⊢;have eN:=hid cS;have HTS:=hid JP;have qj:=hid lu;have HH3:=hid h3;have HHG:=hid hG;have HRR:=hid hrt;have FA:=hid dD;have YP:=hid qk;clear h1 h2 dP dW Bg Af hq HA HMR HCR YQ hRS MZ hx cS JP lu h3 hG hrt dD qk ho0 hN;go_enter func85,ntmps85;go_wp2_with fail
 refine HM.out.mono ?_;rintro e1 w0 ⟨rfl,yk⟩;obtain rfl:w=w0:=yk.symm;go_wp2_with fail
 refine HR.out.mono ?_;rintro e2 w1 ⟨v,rfl,au,G1,g2,k1,ij⟩;obtain⟨lo,lc,rfl,hl,Ro⟩:=lX au;simp only at g2 hl⊢;have mo:=H1.out.read r' k1 (fun i hi=>HH3.out i hi) HHG.out;have LF: ∀b off,lo=some ⟨b,off,none⟩→b∉gP sb hv sv p.hold:=fun b off e hm=>by have h1:=(World.ownsRow.lt au b (aa.1 (Ro b off e))).1;have h2:=(FA.out b (List.mem_cons_of_mem _ (List.mem_append_right _ hm))).2;omega
 have HW:=hid (sG t base pb ob sb _ ov hv sv {p with bG:=r'} l lo lc e w1 mo YP.out hl LF eN.out (fun v hv=>⟨qj.out v hv,HTS.out v hv⟩) FB mr (Nat.le_trans h5 k1.size));have G2:=hid g2;have K1:=hid k1;have HN1:=hid ij;clear au g2 k1 ij mo hl Ro LF;go_wp2_with fail
 refine HW.out.mono ?_;rintro e3 w2 ⟨rfl,nL,jz,xl,q1,-,q2,q3⟩;have qZ:=IB (ovr:=p.cK) (rb:=rb) FA.out HH3.out h5 YP.out eN.out G2.out HN1.out K1.out.size (by rw[HRR.out];exact q1) q2 q3;have nG:=hid qZ;have K12:=hid ((K1.out.mono (fun i hi=>List.mem_append_right _ hi)).trans (q2.mono (fun i hi=>List.mem_append_left G hi)));clear q1 q2 q3 qZ;go_wp2_with fail
 go_ret2;obtain⟨F',f1,f2⟩:=nG.out;exact⟨rfl,F',f1,K12.out,f2⟩
def tE (f:Nat) (b:Nat) (n:Int) (w:World):Prop:=Calls prog f #[.pointer (some ⟨b,0,none⟩)] w fun r w'=>r= .returned (.int .i64 n)∧∃m,w'=w.drewN m
theorem IC (k:Core) (w:World) (base b:Nat) (T:TypeId) (rest:List Value) (ov sv:Value) (h:a8 w base b T rest ov sv k) (hl:k.open_.length≤100) (hs:k.s.length≤1000):tE 170 b k.held w:=by
 obtain⟨g0,g1,g2,g3,g4,g5,g6,g7⟩:=bU h;obtain⟨oo,oc,rfl⟩:=h.bu.shape;obtain⟨so,sc,rfl⟩:=bz.shape h.s;clear h;unfold tE Core.held;by_cases he:k.e=0
 ·have UO:(k.e != 0)=false:=by simp[he]
  rw[if_neg (by simp[he])];clear he;go_enter func170,ntmps170;go_wp2_with fail
  go_quiet (fail)
  go_wp2_with fail
  go_ret;exact⟨rfl,_,rfl⟩
 ·have UO:(k.e != 0)=true:=by simp[he]
  rw[if_pos he];clear he;go_enter func170,ntmps170;go_wp2;go_ret;exact⟨rfl,0,rfl⟩
theorem Qi {N:Int} {w:World} {base b:Nat} {ov sv:Value} {p:Cb} (h:xZ N w base b ov sv p):tE 168 b p.c.held w:=by
 have HO:=IC p.c w base b _ _ ov sv h.bG h.core.opens (by have:=h.core.text;omega);unfold tE at HO⊢;replace HO:=hid HO;have bP:=h.bG.az.lt;clear h;go_enter func168,ntmps168;go_wp2_with fail
 refine HO.out.mono ?_;rintro e w' ⟨rfl,m,rfl⟩;go_wp2_with fail
 go_ret;exact⟨rfl,m,rfl⟩
theorem Qj {w:World} {base b:Nat} {mv:Value} {p:Js} {F:List Nat} (h:dr w base b mv p F) (hs:p.l.s.length≤1000000) (hm:p.maps.length≤1000):tE 140 b (if p.e≠0 then 0 else(p.l.held:Int)+p.maps.length) w:=by
 obtain⟨-,c1,-,c3,bP,-,-,-⟩:=D3 h.lex;obtain⟨a,cap,rfl⟩:=h.maps.shape;unfold tE;by_cases he:p.e=0
 ·have LF:p.l.held≤1000000:=by unfold Lex.held;split<;>omega
  have HL:=hid (fun n=>Qb base b _ _ p.l F (w.drewN n) (h.lex.keeps ((I.refl [] w).drewN n) (by simp)));rw[if_neg (by simp[he])];rw[he] at c3;obtain⟨LH,hLH⟩: ∃LH,p.l.held=LH:=⟨_,rfl⟩
  rw[hLH] at HL LF⊢;have hw:=da (x:=(LH:Int)+p.maps.length) (by omega);clear h he hLH hs;go_enter func140,ntmps140;go_wp2_with fail
  go_quiet ((refine(HL.out _).mono ?_;rintro e w' ⟨rfl,rfl⟩;exact⟨rfl,_,rfl⟩))
  go_wp2_with fail
  go_ret;exact⟨rfl,_,rfl⟩
 ·have UO:(p.e != 0)=true:=by simp[he]
  rw[if_pos he];clear h he;go_enter func140,ntmps140;go_wp2_with fail
  go_ret;exact⟨rfl,0,rfl⟩
theorem wO {N:Int} {w:World} {base rb:Nat} {F:List Nat} {r:Rd} (h:yq N w base rb F r):tE (wN r) rb r.held w∧0≤r.held∧r.held≤1100000:=by
 cases r with
 |js p=>
  obtain⟨mv,G,h1,⟨h2,fD⟩,-,-⟩:=h;have hm:=h2.maps;have hd:=h2.depth;have LF:p.l.held≤1000000:=by unfold Lex.held;split<;>omega
  refine⟨Qj h1 fD (by omega),?_,?_⟩
  ·show(0:Int)≤if p.e≠0 then 0 else(p.l.held:Int)+p.maps.length;split<;>omega
  ·show(if p.e≠0 then 0 else(p.l.held:Int)+p.maps.length)≤1100000;split<;>omega
 |cb p=>
  obtain⟨ov,sv,h1,-,-⟩:=h;have ho:=h1.core.opens;have ht:=h1.fit.core.aT;have hh:p.c.held=if p.c.e≠0 then 0 else(p.c.s.length:Int)+p.c.open_.length:=rfl;refine⟨Qi h1,?_,?_⟩
  ·show 0≤p.c.held;rw[hh];split<;>omega
  ·show p.c.held≤1100000;rw[hh];split<;>omega
theorem Qk (w:World):Calls prog 94 #[.pointer none] w fun r w'=>r= .returned (.int .i64 0)∧w=w':=by go_enter func94,ntmps94;go_wp2;go_ret;exact⟨rfl,rfl⟩
def ES:Option St→Int
 |none=>0
 |some s=>s.size
theorem ET (p:aw):p.mH=if p.may≠0 then 0 else p.bG.held+ES p.hold:=by
 unfold aw.mH;split
 ·rfl
 ·cases p.hold<;>rfl
theorem Ml {w:World} {base sb:Nat} {hv sv:Value} {o:Option St} (h:jt w base sb hv sv o) (n:Nat):Calls prog 94 #[tA sb o] (w.drewN n) fun r w'=>r= .returned (.int .i64 (ES o))∧w.drewN n=w':=by
 cases o with
 |none=>exact Qk _
 |some s=>exact PE s _ base sb hv sv (h.1.keeps ((I.refl [] w).drewN n) (by simp) (by simp) (by simp))
theorem yZ {w:World} {base sb:Nat} {hv sv:Value} {o:Option St} (h:jt w base sb hv sv o):0≤ES o∧ES o≤2000:=by
 cases o with
 |none=>exact⟨Int.le_refl _,by show(0:Int)≤2000;decide⟩
 |some s=>have h1:=h.2.size;have h2:=h.2.lK;show 0≤s.size∧s.size≤2000;omega
theorem Mm {t:bq} {N:Int} {w:World} {base pb:Nat} {F:List Nat} {p:aw} (h:gu t N w base pb F p):Calls prog 80 #[.pointer (some ⟨pb,0,none⟩)] w fun r w'=>r= .returned (.int .i64 p.mH)∧∃m,w'=w.drewN m:=by
 obtain⟨ob,sb,rb,ov,hv,sv,G,h1,h2,h3,rfl,h5⟩:=h;have HM:=hid (ru h1);rw[ET];by_cases hm:p.may=0
 ·rw[if_neg (by simp[hm])];rw[hm] at HM;obtain⟨hr,lq,oG⟩:=wO h2;have HR:=hid (fun n=>(wO (h2.keeps ((I.refl [] w).drewN n) (by simp))).1);have HH:=hid (fun n=>Ml h1.hold n);obtain⟨gv,gW⟩:=yZ h1.hold;obtain⟨c0,-,c2,-,-,bP,-,-⟩:=h1.cells;have hA:=Vt p.bG;have hMR:=Qd p.bG;have hCR:=Qe p.bG;obtain⟨RT,YQ⟩: ∃RT,Mj p.bG=RT:=⟨_,rfl⟩
  obtain⟨RS,hRS⟩: ∃RS,wN p.bG=RS:=⟨_,rfl⟩
  obtain⟨HV,hHV⟩: ∃HV,tA sb p.hold=HV:=⟨_,rfl⟩
  obtain⟨n1,ij⟩: ∃n,p.bG.held=n:=⟨_,rfl⟩
  obtain⟨n2,ju⟩: ∃n:Int,ES p.hold=n:=⟨_,rfl⟩
  rw[YQ] at c0 hA hMR;rw[hRS] at hMR hCR HR;rw[hHV] at c2 HH;rw[ij] at HR lq oG⊢;rw[ju] at HH gv gW⊢;unfold tE at HR;have hw:=da (x:=n1+n2) (by omega);clear h1 h2 h3 hr hm YQ hRS hHV ij ju;go_enter func80,ntmps80;go_wp2_with fail
  refine HM.out.mono ?_;rintro e1 w0 ⟨rfl,yk⟩;obtain rfl:w=w0:=yk.symm;go_wp2_with fail
  go_quiet (first|(refine(HR.out _).mono ?_;rintro e w' ⟨rfl,m,rfl⟩;exact⟨rfl,_,by rw[World.drewN_drewN]⟩)|(refine(HH.out _).mono ?_;rintro e w' ⟨rfl,rfl⟩;exact⟨rfl,_,rfl⟩))
  go_wp2_with fail
  go_ret;exact⟨rfl,_,rfl⟩
 ·have fX:(p.may != 0)=true:=by simpa using hm
  rw[if_pos hm];obtain⟨M,hM⟩: ∃M,p.may=M:=⟨_,rfl⟩
  rw[hM] at HM fX;clear h1 h2 h3 hm hM;go_enter func80,ntmps80;go_wp2_with fail
  refine HM.out.mono ?_;rintro e1 w0 ⟨rfl,yk⟩;obtain rfl:w=w0:=yk.symm;go_wp2_with fail
  go_ret;exact⟨rfl,0,rfl⟩
open Go.K1 in
theorem dh.JQ {t:bq} {w:World} {base pb ob sb:Nat} {iE ov hv sv:Value} {p:aw} (h:dh t w base pb ob sb iE ov hv sv p):dh t (w.setCell ⟨pb,3,none⟩ (.bool true)) base pb ob sb iE ov hv sv {p with cK:=true}:=q32
theorem TW (a:Value) (w:World):(Instr.typeAssert (.iface 144 a) 20 144 true).run prog w= .ok (.tuple #[a,.bool true]) w:=by kernel_rfl
theorem TX (a:Value) (w:World):(Instr.typeAssert (.iface 150 a) 20 144 true).run prog w= .ok (.tuple #[.pointer none,.bool false]) w:=by kernel_rfl
theorem TY (a:Value) (w:World):(Instr.typeAssert (.iface 150 a) 20 150 true).run prog w= .ok (.tuple #[a,.bool true]) w:=by kernel_rfl
def Bh (w:World) (F:List Nat) (q:List UInt8×Int×aw) (r:Ending) (w':World):Prop:=
 r= .returned (.tuple #[.string (bytesOf q.1),.int .i64 q.2.1])∧I F w w'
theorem EU {t:bq} {N:Int} {w:World} {base pb:Nat} {F:List Nat} {p:aw} {c:Cb} (h:gu t N w base pb F p) (kq:p.bG= .cb c) (hf:p.fE t.pr none=true):Calls prog 83 #[.pointer (some ⟨pb,0,none⟩)] w (Bh w F (p.fin t.pr)):=by
 obtain⟨ob,sb,rb,ov,hv,sv,G,h1,h2,h3,rfl,h5⟩:=h;simp only[aw.fE,Bool.and_eq_true,decide_eq_true_eq] at hf;obtain⟨⟨dW,-⟩,-⟩:=hf;obtain⟨qk,ho0⟩:=mM dW;have qZ:p.fin t.pr=([],c.c.cK,{p with bG:= .cb c,cK:=true,e:=c.c.cK}):=by unfold aw.fin;rw[if_neg (by simp[dW]),kq];simp only[Rd.fin];rw[j7 (p:={p with bG:= .cb c,cK:=true}) qk rfl];rfl
 rw[qZ];have HM:=hid (ru h1);rw[dW] at HM;rw[kq] at h1 h2;obtain⟨cov,csv,cS,rfl,-⟩:=h2;have YR:=h1.JQ;have xh:I [pb] w (w.setCell ⟨pb,3,none⟩ (.bool true)):=(I.refl [pb] _).ax _;have aan:zq (w.setCell ⟨pb,3,none⟩ (.bool true)) base rb cov csv c:=a8.keeps cS.bG xh (fun i hi hm=>by rw[List.mem_singleton] at hm;exact h3 i hi (hm▸ms));have HE:=hid (Mi aan);obtain⟨E,hE⟩: ∃E,c.c.cK=E:=⟨_,rfl⟩
 rw[hE] at HE⊢;have HW:=hid (sG t base pb ob sb _ ov hv sv {p with cK:=true} [] none 0 E _ YR qk (Ty _) (fun b off e=>by cases e) rfl (fun v hv=>by cases hv) (by simp) (by simp[aw.gZ]) (Nat.le_trans h5 xh.size));have Zm:=j7 (T:=t.pr) (p:={p with cK:=true}) (l:=[]) (e:=E) qk rfl;rw[Zm] at HW;simp only[aw.gZ,List.length_nil] at HW;obtain⟨c0,-,-,c3,-,bP,-,f3⟩:=h1.cells;simp only[Mj] at c0;have Oe:=hid xh;obtain⟨d0,-,-,-,-,-,-,-⟩:=YR.cells;simp only[Mj] at d0;have a1:=TX;have a2:=TY;clear h1 YR aan cS xh Zm qZ dW qk ho0 hE h3 kq;go_enter func83,ntmps83;go_wp2_with fail
 refine HM.out.mono ?_;rintro e1 w0 ⟨rfl,yk⟩;obtain rfl:w=w0:=yk.symm;go_wp2_with fail
 refine HE.out.mono ?_;rintro e2 w2 ⟨rfl,rfl⟩;go_wp2_with fail
 refine HW.out.mono ?_;rintro e3 w3 ⟨rfl,nL,jz,xl,-,-,q2,-⟩;have K:=hid ((Oe.out.mono (fun i hi=>by rw[List.mem_singleton] at hi;rw[hi];exact List.mem_append_left _ ms)).trans (q2.mono (fun i hi=>List.mem_append_left (cz rb cov csv) hi)));clear q2;go_wp2_with fail
 go_ret2;exact⟨rfl,K.out⟩
theorem EV {t:bq} {N:Int} {w:World} {base pb:Nat} {F:List Nat} {p:aw} {c:Js} (h:gu t N w base pb F p) (kq:p.bG= .js c) (hf:p.fE t.pr none=true):Calls prog 83 #[.pointer (some ⟨pb,0,none⟩)] w (Bh w F (p.fin t.pr)):=by
 obtain⟨ob,sb,rb,ov,hv,sv,G,h1,h2,h3,rfl,h5⟩:=h;simp only[aw.fE,Bool.and_eq_true,decide_eq_true_eq] at hf;obtain⟨⟨dW,Bg⟩,-⟩:=hf;obtain⟨cS,JP,FB,mr⟩:=oR Bg;obtain⟨qk,ho0⟩:=mM dW;have qZ:p.fin t.pr=((aw.write t.pr {p with bG:=p.bG.fin.2.2,cK:=true} p.bG.fin.1 p.bG.fin.2.1).1,p.bG.fin.2.1,(aw.write t.pr {p with bG:=p.bG.fin.2.2,cK:=true} p.bG.fin.1 p.bG.fin.2.1).2):=by unfold aw.fin;rw[if_neg (by simp[dW])];rw[j7 (p:={p with bG:=p.bG.fin.2.2,cK:=true}) (e:=p.bG.fin.2.1) qk cS]
 rw[qZ];have HM:=hid (ru h1);rw[dW] at HM;have lu:=Bf p.bG;rw[kq] at h1 h2 cS JP FB mr lu⊢;obtain⟨mv,GG,YK,⟨hjf,aeE⟩,rfl,hjl⟩:=h2;have YR:=h1.JQ;have xh:I [pb] w (w.setCell ⟨pb,3,none⟩ (.bool true)):=(I.refl [pb] _).ax _;have hpg: ∀i∈GG++ae mv,i∉[pb]:=fun i hi hm=>by rw[List.mem_singleton] at hm;exact h3 i hi (hm▸ms)
 have aao:dr (w.setCell ⟨pb,3,none⟩ (.bool true)) base rb mv c GG:=⟨YK.lex.keeps xh (fun i hi=>hpg i (List.mem_append_left _ hi)),ab YK.maps xh (fun i hi=>hpg i (List.mem_append_right _ (aa.2 hi))),YK.apart⟩
 have HE:=hid (Xu base rb mv c GG _ aao hjf (Nat.le_trans h5 xh.size));obtain⟨l,e,r',hq⟩: ∃l e r',c.fin.1=l∧c.fin.2.e=e∧c.fin.2=r':=⟨_,_,_,rfl,rfl,rfl⟩
 obtain⟨q1,q2,q3⟩:=hq;simp only[Rd.fin] at cS JP FB mr lu⊢;rw[q1,q3] at cS mr;rw[q1] at JP FB lu;rw[q1,q2,q3];have hE:=HE.out;unfold fp at hE;rw[q1,q2,q3] at hE;replace HE:=hid hE;have H1O:=hid YR;have dD:=h1.lt;obtain⟨c0,-,-,c3,-,bP,-,f3⟩:=h1.cells;simp only[Mj] at c0;have Oe:=hid xh;have HH3:=hid h3;have FA:=hid dD;have YP:=hid qk;have eN:=hid cS;have HTS:=hid JP;have qj:=hid lu;have HJL:=hid hjl;have a1:=TW;clear h1 YR YK aao xh qZ dW Bg qk ho0 h3 kq hE dD cS JP lu hjl hpg q1 q2 q3 hjf aeE;go_enter func83,ntmps83;go_wp2_with fail
 refine HM.out.mono ?_;rintro e1 w0 ⟨rfl,yk⟩;obtain rfl:w=w0:=yk.symm;go_wp2_with fail
 refine HE.out.mono ?_;rintro e2 w1 ⟨v,yv,G',rfl,au,-,k1,-,-⟩;obtain⟨lo,lc,rfl,hl,Ro⟩:=lX au;have mo:=H1O.out.read (.js r') k1 (fun i hi=>HH3.out i hi) (fun i hi=>(HJL.out i hi).1);have LF: ∀b off,lo=some ⟨b,off,none⟩→b∉gP sb hv sv p.hold:=fun b off e hm=>by have h1:=(World.ownsRow.lt au b (aa.1 (Ro b off e))).1;have h2:=(FA.out b (List.mem_cons_of_mem _ (List.mem_append_right _ hm))).2;have h3:=Oe.out.size;omega
 have HW:=hid (sG t base pb ob sb _ ov hv sv {p with bG:= .js r',cK:=true} l lo lc e w1 mo YP.out hl LF eN.out (fun v hv=>⟨qj.out v hv,HTS.out v hv⟩) FB mr (Nat.le_trans h5 (Nat.le_trans Oe.out.size k1.size)));have K1:=hid k1;clear au k1 mo hl Ro LF;go_wp2_with fail
 refine HW.out.mono ?_;rintro e3 w2 ⟨rfl,nL,jz,xl,-,-,q2,-⟩;have K:=hid (((Oe.out.mono (fun i hi=>by rw[List.mem_singleton] at hi;rw[hi];exact List.mem_append_left _ ms)).trans (K1.out.mono (fun i hi=>List.mem_append_right _ hi))).trans (q2.mono (fun i hi=>List.mem_append_left (GG++ae mv) hi)));clear q2;go_wp2_with fail
 go_ret2;exact⟨rfl,K.out⟩
theorem Ql {t:bq} {N:Int} {w:World} {base pb:Nat} {F:List Nat} {p:aw} (h:gu t N w base pb F p) (hf:p.fE t.pr none=true):Calls prog 83 #[.pointer (some ⟨pb,0,none⟩)] w (Bh w F (p.fin t.pr)):=by
 cases kq:p.bG with
 |js c=>exact EV h kq hf
 |cb c=>exact EU h kq hf
theorem jL {w:World} {base mD:Nat} {e:TypeId} {z:Nat} {v:Value} {n:Nat} {xs:List Value} (h:w.ownsRow base e z v n xs) (hb:mD≤base):w.ownsRow mD e z v n xs:=by
 refine⟨h.1,?_⟩;rcases h.2 with h0|⟨g,cap,cur,h1,h2,h3⟩
 ·exact inl h0
 ·exact inr ⟨g,cap,cur,h1,Nat.le_trans hb h2,h3⟩
theorem dr.Wa {w:World} {base mD b:Nat} {mv:Value} {p:Js} {F:List Nat} (h:dr w base b mv p F) (hb:mD≤base):dr w mD b mv p F:=by refine⟨?_,jL h.maps hb,h.apart⟩;obtain⟨h0,p',v,h1,h2⟩:=h.lex;exact⟨h0,p',v,h1,fun a b=>by obtain⟨x,y,z⟩:=h2 a b;exact⟨x,jL y hb,z⟩⟩
def lJ (t:bq) (s:Setup) (w:World) (r:Ending) (w':World):Prop:=
 ∃pb F,r= .returned (.pointer (some ⟨pb,0,none⟩))∧gu t 0 w' w.heap.size pb F (aw.new s)∧(∀i∈F,w.heap.size≤i)∧I [] w w'
open Go.K5 in
theorem wP (t:bq) (s:Setup) (hs:s.right=true) (hf:s.from_=1) (ht:s.to=1) (w:World) (hT:dt t w) (hB:br<w.heap.size):Calls prog 87 #[cp s] w (lJ t s w):=q6
open Go.K4 in
theorem wQ (t:bq) (s:Setup) (hs:s.right=true) (hf:s.from_=1) (ht:s.to=2) (w:World) (hT:dt t w) (hB:br<w.heap.size):Calls prog 87 #[cp s] w (lJ t s w):=q6
open Go.K1 in
theorem wR (t:bq) (s:Setup) (hs:s.right=true) (hf:s.from_=1) (ht:s.to=3) (w:World) (hT:dt t w) (hB:br<w.heap.size):Calls prog 87 #[cp s] w (lJ t s w):=q6
open Go.K3 in
theorem wS (t:bq) (s:Setup) (hs:s.right=true) (hf:s.from_=2) (ht:s.to=1) (w:World) (hT:dt t w) (hB:br<w.heap.size):Calls prog 87 #[cp s] w (lJ t s w):=q6
open Go.K2 in
theorem wT (t:bq) (s:Setup) (hs:s.right=true) (hf:s.from_=2) (ht:s.to=2) (w:World) (hT:dt t w) (hB:br<w.heap.size):Calls prog 87 #[cp s] w (lJ t s w):=q6
open Go.K0 in
theorem wU (t:bq) (s:Setup) (hs:s.right=true) (hf:s.from_=2) (ht:s.to=3) (w:World) (hT:dt t w) (hB:br<w.heap.size):Calls prog 87 #[cp s] w (lJ t s w):=q6
theorem Np (t:bq) (s:Setup) (hs:s.right=true) (hf:s.from_=1∨s.from_=2) (w:World) (hT:dt t w) (hB:br<w.heap.size):Calls prog 87 #[cp s] w (lJ t s w):=by
 obtain⟨-,pe,-⟩:=lI hs;have ht:s.to=1∨s.to=2∨s.to=3:=by omega
 rcases hf with hf|hf<;>rcases ht with ht|ht|ht
 ·exact wP t s hs hf ht w hT hB
 ·exact wQ t s hs hf ht w hT hB
 ·exact wR t s hs hf ht w hT hB
 ·exact wS t s hs hf ht w hT hB
 ·exact wT t s hs hf ht w hT hB
 ·exact wU t s hs hf ht w hT hB
def mO (s:ag) (pV:Value):List Value:=
 [.string (bytesOf s.header),.int .i64 s.bV.from_,.int .i64 s.bV.to,.int .i64 s.bV.depth,.int .i64 s.bV.jr,.int .i64 s.bV.cN,.bool s.told,pV,.bool s.half,.bool s.ended,.int .i64 s.e]
def dF (b:Nat):Value:= .pointer (some ⟨b,0,none⟩)
def rz (t:bq) (N:Int) (w:World) (base:Nat) (pV:Value) (FP:List Nat):Option aw→Prop
 |none=>(pV= .pointer none∨N<0)∧FP= []
 |some p=>∃pb mD,pV=dF pb∧base≤mD∧gu t N w mD pb FP p
theorem rz.keeps {t:bq} {N:Int} {G:List Nat} {w w':World} {base:Nat} {pV:Value} {F:List Nat} {o:Option aw} (h:rz t N w base pV F o) (k:I G w w') (hF: ∀i∈F,i∉G) (hT: ∀i∈G,br<i):rz t N w' base pV F o:=by
 cases o with
 |none=>exact h
 |some p=>obtain⟨pb,b',h1,h3,h2⟩:=h;exact⟨pb,b',h1,h3,h2.keeps k hF hT⟩
theorem rz.more {t:bq} {N M:Int} {w:World} {base:Nat} {pV:Value} {F:List Nat} {o:Option aw} (h:rz t N w base pV F o) (hM:0≤N∧N≤M∧M≤100000000):rz t M w base pV F o:=by
 cases o with
 |none=>exact⟨h.1.imp id (fun h=>by omega),h.2⟩
 |some p=>obtain⟨pb,b',h1,h3,h2⟩:=h;exact⟨pb,b',h1,h3,h2.more hM.2⟩
theorem rz.lt {t:bq} {N:Int} {w:World} {base:Nat} {pV:Value} {F:List Nat} {o:Option aw} (h:rz t N w base pV F o): ∀i∈F,base≤i∧i<w.heap.size:=by
 cases o with
 |none=>intro i hi;rw[h.2] at hi;cases hi
 |some p=>obtain⟨pb,b',h1,h3,h2⟩:=h;exact fun i hi=>⟨Nat.le_trans h3 (h2.lt i hi).1,(h2.lt i hi).2⟩
def fH (sb rb rg:Nat) (qv:Value) (FP:List Nat):List Nat:=sb::rb::rg::(ae qv++FP)
structure bk (t:bq) (N:Int) (w:World) (base sb rb rg:Nat) (qv pV:Value) (FP:List Nat) (s:ag):Prop where
 q:Bk w sb [dF rb] (mO s pV) 108 qv s.q
 ring:df w rb rg 64 s.dj
 pipe:rz t N w base pV FP s.p
 sO:dt t w
 ne:sb≠rb∧sb≠rg∧rb≠rg
 nq:rb∉ae qv∧rg∉ae qv
 np: ∀i∈FP,i≠sb∧i≠rb∧i≠rg∧i∉ae qv
 low:br<base∧base≤w.heap.size∧base≤sb∧base≤rb∧base≤rg∧∀i∈ae qv,base≤i
theorem bk.lt {t:bq} {N:Int} {w:World} {base sb rb rg:Nat} {qv pV:Value} {FP:List Nat} {s:ag} (h:bk t N w base sb rb rg qv pV FP s): ∀i∈fH sb rb rg qv FP,base≤i∧i<w.heap.size:=by
 obtain⟨-,-,l1,l2,l3,l4⟩:=h.low;intro i hi;rcases List.mem_cons.1 hi with rfl|hi
 ·exact⟨l1,h.q.az.lt⟩
 ·rcases List.mem_cons.1 hi with rfl|hi
  ·exact⟨l2,h.ring.lt.1⟩
  ·rcases List.mem_cons.1 hi with rfl|hi
   ·exact⟨l3,h.ring.lt.2⟩
   ·rcases List.mem_append.1 hi with hi|hi
    ·exact⟨l4 i hi,h.q.row.lt i hi⟩
    ·exact h.pipe.lt i hi
theorem bk.keeps {t:bq} {N:Int} {G:List Nat} {w w':World} {base sb rb rg:Nat} {qv pV:Value} {FP:List Nat} {s:ag} (h:bk t N w base sb rb rg qv pV FP s) (k:I G w w') (hF: ∀i∈fH sb rb rg qv FP,i∉G) (hT: ∀i∈G,br<i):bk t N w' base sb rb rg qv pV FP s:=⟨h.q.keeps k (hF sb ms) (fun i hi=>hF i (by simp[fH,hi])),h.ring.keeps k (hF rb (by simp[fH])) (hF rg (by simp[fH])),h.pipe.keeps k (fun i hi=>hF i (by simp[fH,hi])) hT,h.sO.keeps k hT,h.ne,h.nq,h.np,⟨h.low.1,Nat.le_trans h.low.2.1 k.size,h.low.2.2⟩⟩
theorem bk.aI {t:bq} {N:Int} {w w':World} {base sb rb rg:Nat} {qv pV:Value} {FP:List Nat} {s:ag} (h:bk t N w base sb rb rg qv pV FP s) (k:I [] w w'):bk t N w' base sb rb rg qv pV FP s:=h.keeps k (by simp) (by simp)
theorem bk.cells {t:bq} {N:Int} {w:World} {base sb rb rg:Nat} {qv pV:Value} {FP:List Nat} {s:ag} (h:bk t N w base sb rb rg qv pV FP s):w.cell? ⟨sb,0,none⟩=some (dF rb)∧w.cell? ⟨sb,3,none⟩=some (.string (bytesOf s.header))∧w.cell? ⟨sb,9,none⟩=some (.bool s.told)∧w.cell? ⟨sb,10,none⟩=some pV∧w.cell? ⟨sb,11,none⟩=some (.bool s.half)∧w.cell? ⟨sb,12,none⟩=some (.bool s.ended)∧w.cell? ⟨sb,13,none⟩=some (.int .i64 s.e)∧sb<w.heap.size∧∀j,w.frozen? ⟨sb,j,none⟩=false:=⟨h.q.az.cell 0,h.q.az.cell 3,h.q.az.cell 9,h.q.az.cell 10,h.q.az.cell 11,h.q.az.cell 12,h.q.az.cell 13,h.q.az.lt,fun j=>h.q.az.free j⟩
theorem bk.bV {t:bq} {N:Int} {w:World} {base sb rb rg:Nat} {qv pV:Value} {FP:List Nat} {s:ag} (h:bk t N w base sb rb rg qv pV FP s):w.cell? ⟨sb,4,none⟩=some (.int .i64 s.bV.from_)∧w.cell? ⟨sb,5,none⟩=some (.int .i64 s.bV.to)∧w.cell? ⟨sb,6,none⟩=some (.int .i64 s.bV.depth)∧w.cell? ⟨sb,7,none⟩=some (.int .i64 s.bV.jr)∧w.cell? ⟨sb,8,none⟩=some (.int .i64 s.bV.cN):=⟨h.q.az.cell 4,h.q.az.cell 5,h.q.az.cell 6,h.q.az.cell 7,h.q.az.cell 8⟩
theorem bk.queue {t:bq} {N:Int} {w w':World} {base sb rb rg:Nat} {qv mB pV:Value} {FP:List Nat} {s:ag} {q':List (List UInt8)} (h:bk t N w base sb rb rg qv pV FP s) (hq:Bk w' sb [dF rb] (mO s pV) 108 mB q') (k:I (sb::ae qv) w w') (hn: ∀i∈ae mB,i∈ae qv∨w.heap.size≤i):bk t N w' base sb rb rg mB pV FP {s with q:=q'}:=by
 obtain⟨l0,Mr,l1,l2,l3,l4⟩:=h.low;have lq:rb∉sb::ae qv:=by simp[h.nq.1,Ne.symm h.ne.1]
 have oG:rg∉sb::ae qv:=by simp[h.nq.2,Ne.symm h.ne.2.1]
 have hT: ∀i∈sb::ae qv,br<i:=by
  intro i hi;rcases List.mem_cons.1 hi with rfl|hi
  ·omega
  ·have:=l4 i hi;omega
 refine⟨hq,h.ring.keeps k lq oG,h.pipe.keeps k (fun i hi hm=> ?_) hT,h.sO.keeps k hT,h.ne,⟨fun hm=> ?_,fun hm=> ?_⟩,fun i hi=> ?_,⟨l0,Nat.le_trans Mr k.size,l1,l2,l3,fun i hi=> ?_⟩⟩
 ·obtain⟨n1,-,-,n4⟩:=h.np i hi;rcases List.mem_cons.1 hm with rfl|hm
  ·exact n1 rfl
  ·exact n4 hm
 ·rcases hn rb hm with h1|h1
  ·exact h.nq.1 h1
  ·have:=h.ring.lt.1;omega
 ·rcases hn rg hm with h1|h1
  ·exact h.nq.2 h1
  ·have:=h.ring.lt.2;omega
 ·obtain⟨n1,n2,n3,n4⟩:=h.np i hi;refine⟨n1,n2,n3,fun hm=> ?_⟩;rcases hn i hm with h1|h1
  ·exact n4 h1
  ·have:=(h.pipe.lt i hi).2;omega
 ·rcases hn i hi with h1|h1
  ·exact l4 i h1
  ·omega
theorem bk.No {t:bq} {N:Int} {w w':World} {base sb rb rg:Nat} {qv pV:Value} {FP:List Nat} {s:ag} {l:List UInt8} (h:bk t N w base sb rb rg qv pV FP s) (hr:df w' rb rg 64 l) (k:I [rb,rg] w w'):bk t N w' base sb rb rg qv pV FP {s with dj:=l}:=by
 obtain⟨l0,Mr,l1,l2,l3,l4⟩:=h.low;have hT: ∀i∈ [rb,rg],br<i:=by intro i hi;simp only[List.mem_cons,List.not_mem_nil,or_false] at hi;rcases hi with rfl|rfl<;>omega
 refine⟨h.q.keeps k (by simp[h.ne.1,h.ne.2.1]) (fun i hi hm=> ?_),hr,h.pipe.keeps k (fun i hi hm=> ?_) hT,h.sO.keeps k hT,h.ne,h.nq,h.np,⟨l0,Nat.le_trans Mr k.size,l1,l2,l3,l4⟩⟩
 ·simp only[List.mem_cons,List.not_mem_nil,or_false] at hm;rcases hm with rfl|rfl
  ·exact h.nq.1 hi
  ·exact h.nq.2 hi
 ·obtain⟨n1,n2,n3,n4⟩:=h.np i hi;simp only[List.mem_cons,List.not_mem_nil,or_false] at hm;rcases hm with rfl|rfl
  ·exact n2 rfl
  ·exact n3 rfl
theorem bk.put {t:bq} {N:Int} {w:World} {base sb rb rg:Nat} {qv pV:Value} {FP:List Nat} {s s':ag} (h:bk t N w base sb rb rg qv pV FP s) (i:Nat) (u:Value) (hc: ∀a b:Value,([dF rb]++[a,b]++mO s pV).set i u= [dF rb]++[a,b]++mO s' pV) (h1:s'.dj=s.dj) (h2:s'.q=s.q) (h3:s'.p=s.p):bk t N (w.setCell ⟨sb,i,none⟩ u) base sb rb rg qv pV FP s':=by
 obtain⟨l0,Mr,l1,l2,l3,l4⟩:=h.low;have k:I [sb] w (w.setCell ⟨sb,i,none⟩ u):=(I.refl [sb] _).ax _;have hT: ∀i∈ [sb],br<i:=by intro i hi;rw[List.mem_singleton] at hi;omega
 have hb:=(h.q.az.set i u).conv (hc _ _)
 refine⟨⟨by rw[h2];exact hb,by rw[h2];exact h.q.row.keeps k (fun j hj hm=>by rw[List.mem_singleton] at hm;exact h.q.own (hm▸hj)),h.q.own,by rw[h2];exact h.q.full⟩,by rw[h1];exact h.ring.keeps k (by simp[Ne.symm h.ne.1]) (by simp[Ne.symm h.ne.2.1]),by rw[h3];exact h.pipe.keeps k (fun j hj hm=>by rw[List.mem_singleton] at hm;exact(h.np j hj).1 hm) hT,h.sO.keeps k hT,h.ne,h.nq,h.np,⟨l0,Nat.le_trans Mr k.size,l1,l2,l3,l4⟩⟩
theorem E3: ∀ (q:List (List UInt8)),(∀c∈q,c≠[])→q.length≤cT q
 | [],_=>Nat.zero_le _
 |c::q,h=>by have h1:=E3 q (fun x hx=>h x (List.mem_cons_of_mem _ hx));have h2:0<c.length:=List.length_pos_iff.2 (h c ms);rw[cR,List.length_cons];omega
theorem Cd {t:bq} {N:Int} {w:World} {base sb rb rg:Nat} {qv pV:Value} {FP:List Nat} {s:ag} (h:bk t N w base sb rb rg qv pV FP s) (x:List UInt8) (hq:cT s.q≤1000000) (hx:x.length≤1000000):Calls prog 84 #[.pointer (some ⟨sb,1,none⟩),.string (bytesOf x)] w fun e w'=>e= .returned (.tuple #[])∧∃mB,bk t N w' base sb rb rg mB pV FP {s with q:=kj s.q x}∧I (sb::ae qv) w w'∧∀i∈ae mB,i∈ae qv∨w.heap.size≤i:=by refine(Qn w sb _ _ _ qv s.q h.q 1 rfl x hq (Nat.le_trans (E3 s.q h.q.full) hq) hx).mono ?_;rintro e w' ⟨rfl,mB,g1,k1,hn⟩;exact⟨rfl,mB,h.queue g1 k1 hn,k1,hn⟩
theorem bk.drop {t:bq} {N:Int} {w:World} {base sb rb rg:Nat} {qv pV:Value} {FP:List Nat} {s:ag} (h:bk t N w base sb rb rg qv pV FP s):bk t N (w.setCell ⟨sb,10,none⟩ (.pointer none)) base sb rb rg qv (.pointer none) [] {s with p:=none}:=by
 obtain⟨l0,Mr,l1,l2,l3,l4⟩:=h.low;have k:I [sb] w (w.setCell ⟨sb,10,none⟩ (.pointer none)):=(I.refl [sb] _).ax _;have hT: ∀i∈ [sb],br<i:=by intro i hi;rw[List.mem_singleton] at hi;omega
 have hb:Has (w.setCell ⟨sb,10,none⟩ (.pointer none)) sb ([dF rb]++[qv,.int .i64 (cT s.q)]++mO {s with p:=none} (.pointer none)) 108:=(h.q.az.set 10 (.pointer none)).conv rfl
 exact⟨⟨hb,h.q.row.keeps k (fun j hj hm=>by rw[List.mem_singleton] at hm;exact h.q.own (hm▸hj)),h.q.own,h.q.full⟩,h.ring.keeps k (by simp[Ne.symm h.ne.1]) (by simp[Ne.symm h.ne.2.1]),⟨inl rfl,rfl⟩,h.sO.keeps k hT,h.ne,h.nq,nn,⟨l0,Nat.le_trans Mr k.size,l1,l2,l3,l4⟩⟩
def T4 (t:bq) (N:Int) (w:World) (base sb rb rg:Nat) (qv:Value) (s:ag) (r:Ending) (w':World):Prop:=
 r= .returned (.tuple #[])∧∃mB,bk t N w' base sb rb rg mB (.pointer none) [] s∧I (sb::rb::ae qv) w w'∧∀i∈ae mB,i∈ae qv∨w.heap.size≤i
theorem Qo {t:bq} {N:Int} {w:World} {base sb rb rg:Nat} {qv pV:Value} {FP:List Nat} {s:ag} (h:bk t N w base sb rb rg qv pV FP s) (e:Int) (he:0≤e∧e≤15) (told:Bool) (hq:cT s.q≤1000000):Calls prog 74 #[.pointer (some ⟨sb,0,none⟩),.int .i64 e,.bool told] w (T4 t N w base sb rb rg qv (s.end_ e told)):=by
 have hlw:(cf e told).length≤1000000:=by simp[cf]
 have YU:=hid (fun W=>C2 e he W);have FC:=hid (fun W=>Wz e he W);have HSE:Hid (∀W',I [] w W'→bk t N W' base sb rb rg qv pV FP s):=hid (fun W' k=>h.aI k);have bP:=h.q.az.lt;have tail: ∀ (w2:World) (Qp:Value),bk t N w2 base sb rb rg Qp pV FP {s with q:=kj s.q (cf e told)}→bk t N (((w2.setCell ⟨sb,12,none⟩ (.bool true)).setCell ⟨sb,13,none⟩ (.int .i64 e)).setCell ⟨sb,10,none⟩ (.pointer none)) base sb rb rg Qp (.pointer none) [] {s with q:=kj s.q (cf e told),ended:=true,e:=e,p:=none}:=fun w2 Qp h2=>((h2.put 12 (.bool true) (s':={s with q:=kj s.q (cf e told),ended:=true}) (fun a b=>rfl) rfl rfl rfl).put 13 (.int .i64 e) (s':={s with q:=kj s.q (cf e told),ended:=true,e:=e}) (fun a b=>rfl) rfl rfl rfl).drop
 have TL:=hid tail;have HQ:=hid hq;have HLW:=hid hlw;clear h tail he hq hlw;cases told with
 |true=>
  go_enter func74,ntmps74;go_wp2_with fail
  refine Go.Tru.rg (fun w'=>I (sb::ae qv) w w') ((I.refl _ _).drew) fun HH=> ?_;refine tk 0 HH.out ?_;try simp only[gz]
  refine tk 1 HH.out ?_;try simp only[gz]
  refine tk 2 HH.out ?_;try simp only[gz]
  refine tk 3 HH.out ?_;try simp only[gz]
  refine rd 4 fun K hK=> ?_;go_simp;refine(YU.out _).mono ?_;rintro e1 w1 ⟨rfl,k1⟩;have K1:=hid (((I.refl [] w).drew).trans k1);clear k1;try simp only[]
  clear HH;refine hK.out _ _ (K1.out.mono nn) fun HH=> ?_;clear hK K;refine rd 5 fun K hK=> ?_;go_simp;refine(Cd (HSE.out _ K1.out) (cf e true) HQ.out HLW.out).mono ?_;rintro e2 w2 ⟨rfl,Qp,g2,k2,ju⟩;try simp only[]
  clear HH;refine hK.out _ _ ((K1.out.mono nn).trans k2) fun HH=> ?_;clear hK K;refine wpAnyH_done (by kernel_rfl) ?_ _;have g3:=TL.out w2 Qp g2;obtain⟨d0,-,-,d10,-,d12,d13,Ca,MX⟩:=g2.cells;simp only[dF] at d0;have f10:=MX 10;have f12:=MX 12;have f13:=MX 13;have qj:=hid (pD _ rb rg 64 s.dj g3.ring);have G3:=hid g3;have KW:=hid ((K1.out.mono nn).trans' k2 (fun i hi=>inl hi));have rG:=hid (fun i (hi:i∈ae Qp)=>(ju i hi).imp id (fun h=>Nat.le_trans K1.out.size h));clear g2 g3 k2 ju MX;go_wp2_with fail
  refine qj.out.mono ?_;rintro e4 w4 ⟨⟨n,rfl⟩,g4,k4⟩;have g5:=G3.out.No g4 (k4.mono (fun i hi=>by rw[List.mem_singleton] at hi;simp[hi]));have G5:=hid g5;have KF:=hid ((((((KW.out.mono (G:=sb::rb::ae qv) (fun i hi=>by rcases List.mem_cons.1 hi with rfl|hi<;>simp_all)).setCell (p:=⟨sb,12,none⟩) (inl ms) (.bool true)).setCell (p:=⟨sb,13,none⟩) (inl ms) (.int .i64 e)).setCell (p:=⟨sb,10,none⟩) (inl ms) (.pointer none))).trans (k4.mono (fun i hi=>by rw[List.mem_singleton] at hi;simp[hi])));clear g4 k4 g5;go_wp2_with fail
  refine bodyPost_ret_by (results_none rfl _ _ _) rfl ?_;exact⟨rfl,Qp,G5.out,KF.out,rG.out⟩
 |false=>
  go_enter func74,ntmps74;go_wp2_with fail
  refine Go.Tru.rg (fun w'=>I (sb::ae qv) w w') ((I.refl _ _).drew) fun HH=> ?_;refine tk 0 HH.out ?_;try simp only[gz]
  refine tk 1 HH.out ?_;try simp only[gz]
  refine tk 2 HH.out ?_;try simp only[gz]
  refine tk 3 HH.out ?_;try simp only[gz]
  refine rd 4 fun K hK=> ?_;go_simp;refine(FC.out _).mono ?_;rintro e1 w1 ⟨rfl,k1⟩;have K1:=hid (((I.refl [] w).drew).trans k1);clear k1;try simp only[]
  clear HH;refine hK.out _ _ (K1.out.mono nn) fun HH=> ?_;clear hK K;refine rd 5 fun K hK=> ?_;go_simp;refine(Cd (HSE.out _ K1.out) (cf e false) HQ.out HLW.out).mono ?_;rintro e2 w2 ⟨rfl,Qp,g2,k2,ju⟩;try simp only[]
  clear HH;refine hK.out _ _ ((K1.out.mono nn).trans k2) fun HH=> ?_;clear hK K;refine wpAnyH_done (by kernel_rfl) ?_ _;have g3:=TL.out w2 Qp g2;obtain⟨d0,-,-,d10,-,d12,d13,Ca,MX⟩:=g2.cells;simp only[dF] at d0;have f10:=MX 10;have f12:=MX 12;have f13:=MX 13;have qj:=hid (pD _ rb rg 64 s.dj g3.ring);have G3:=hid g3;have KW:=hid ((K1.out.mono nn).trans' k2 (fun i hi=>inl hi));have rG:=hid (fun i (hi:i∈ae Qp)=>(ju i hi).imp id (fun h=>Nat.le_trans K1.out.size h));clear g2 g3 k2 ju MX;go_wp2_with fail
  refine qj.out.mono ?_;rintro e4 w4 ⟨⟨n,rfl⟩,g4,k4⟩;have g5:=G3.out.No g4 (k4.mono (fun i hi=>by rw[List.mem_singleton] at hi;simp[hi]));have G5:=hid g5;have KF:=hid ((((((KW.out.mono (G:=sb::rb::ae qv) (fun i hi=>by rcases List.mem_cons.1 hi with rfl|hi<;>simp_all)).setCell (p:=⟨sb,12,none⟩) (inl ms) (.bool true)).setCell (p:=⟨sb,13,none⟩) (inl ms) (.int .i64 e)).setCell (p:=⟨sb,10,none⟩) (inl ms) (.pointer none))).trans (k4.mono (fun i hi=>by rw[List.mem_singleton] at hi;simp[hi])));clear g4 k4 g5;go_wp2_with fail
  refine bodyPost_ret_by (results_none rfl _ _ _) rfl ?_;exact⟨rfl,Qp,G5.out,KF.out,rG.out⟩
theorem bk.aay {t:bq} {N M:Int} {w w':World} {base bs sb rb rg pb:Nat} {qv pV:Value} {FP xk:List Nat} {s:ag} {p:aw} (h:bk t N w base sb rb rg qv pV FP s) (hv:pV=dF pb) (CK:base≤bs) (hp:gu t M w' bs pb xk p) (k:I FP w w') (hn: ∀i∈xk,i∈FP∨w.heap.size≤i):bk t M w' base sb rb rg qv pV xk {s with p:=some p}:=by
 obtain⟨l0,Mr,l1,l2,l3,l4⟩:=h.low;have dD:=h.pipe.lt;have hT: ∀i∈FP,br<i:=fun i hi=>Nat.lt_of_lt_of_le l0 (dD i hi).1;refine⟨h.q.keeps k (fun hm=>(h.np _ hm).1 rfl) (fun i hi hm=>(h.np i hm).2.2.2 hi),h.ring.keeps k (fun hm=>(h.np _ hm).2.1 rfl) (fun hm=>(h.np _ hm).2.2.1 rfl),⟨pb,bs,hv,CK,hp⟩,h.sO.keeps k hT,h.ne,h.nq,fun i hi=> ?_,⟨l0,Nat.le_trans Mr k.size,l1,l2,l3,l4⟩⟩;rcases hn i hi with hi|hi
 ·exact h.np i hi
 ·have h1:=h.q.az.lt;have h2:=h.ring.lt;refine⟨by omega,by omega,by omega,fun hm=> ?_⟩;have:=h.q.row.lt i hm;omega
theorem bk.gone {t:bq} {N:Int} {w w':World} {base sb rb rg:Nat} {qv pV:Value} {FP:List Nat} {s:ag} (h:bk t N w base sb rb rg qv pV FP s) (k:I FP w w'):bk t (-1) w' base sb rb rg qv pV [] {s with p:=none}:=by obtain⟨l0,Mr,l1,l2,l3,l4⟩:=h.low;have dD:=h.pipe.lt;have hT: ∀i∈FP,br<i:=fun i hi=>Nat.lt_of_lt_of_le l0 (dD i hi).1;exact⟨h.q.keeps k (fun hm=>(h.np _ hm).1 rfl) (fun i hi hm=>(h.np i hm).2.2.2 hi),h.ring.keeps k (fun hm=>(h.np _ hm).2.1 rfl) (fun hm=>(h.np _ hm).2.2.1 rfl),⟨inr (by omega),rfl⟩,h.sO.keeps k hT,h.ne,h.nq,nn,⟨l0,Nat.le_trans Mr k.size,l1,l2,l3,l4⟩⟩
theorem bk.level {t:bq} {N M:Int} {w:World} {base sb rb rg:Nat} {qv:Value} {FP:List Nat} {s:ag} (h:bk t N w base sb rb rg qv (.pointer none) FP s) (hs:s.p=none):bk t M w base sb rb rg qv (.pointer none) FP s:=by have hp:=h.pipe;rw[hs] at hp;exact⟨h.q,h.ring,by rw[hs];exact⟨inl rfl,hp.2⟩,h.sO,h.ne,h.nq,h.np,h.low⟩
theorem bk.more {t:bq} {N M:Int} {w:World} {base sb rb rg:Nat} {qv pV:Value} {FP:List Nat} {s:ag} (h:bk t N w base sb rb rg qv pV FP s) (hM:0≤N∧N≤M∧M≤100000000):bk t M w base sb rb rg qv pV FP s:=⟨h.q,h.ring,h.pipe.more hM,h.sO,h.ne,h.nq,h.np,h.low⟩
def rA (t:bq) (N:Int) (w:World) (base sb rb rg:Nat) (qv:Value) (FP:List Nat) (s:ag) (v:Value) (r:Ending) (w':World):Prop:=
 r= .returned v∧∃mB NH xk,bk t N w' base sb rb rg mB NH xk s∧I (fH sb rb rg qv FP) w w'∧∀i∈fH sb rb rg mB xk,i∈fH sb rb rg qv FP∨w.heap.size≤i
theorem nO (sb rb rg:Nat) (qv:Value) (FP:List Nat):sb∈fH sb rb rg qv FP:=ms
theorem nP (sb rb rg:Nat) (qv:Value) (FP:List Nat):rb∈fH sb rb rg qv FP:=by simp[fH]
theorem FJ (sb rb rg:Nat) (qv:Value) (FP:List Nat):rg∈fH sb rb rg qv FP:=by simp[fH]
theorem rK (sb rb rg:Nat) (qv:Value) (FP:List Nat) {i:Nat} (h:i∈ae qv):i∈fH sb rb rg qv FP:=by simp[fH,h]
theorem IE (sb rb rg:Nat) (qv:Value) (FP:List Nat) {i:Nat} (h:i∈FP):i∈fH sb rb rg qv FP:=by simp[fH,h]
theorem kO {sb rb rg:Nat} {qv mB:Value} {FP xk:List Nat} {n:Nat} (h1: ∀i∈ae mB,i∈ae qv∨n≤i) (h2: ∀i∈xk,i∈FP∨n≤i): ∀i∈fH sb rb rg mB xk,i∈fH sb rb rg qv FP∨n≤i:=by
 intro i hi;rcases List.mem_cons.1 hi with rfl|hi
 ·exact inl (nO ..)
 ·rcases List.mem_cons.1 hi with rfl|hi
  ·exact inl (nP ..)
  ·rcases List.mem_cons.1 hi with rfl|hi
   ·exact inl (FJ ..)
   ·rcases List.mem_append.1 hi with hi|hi
    ·exact(h1 i hi).imp (fun h=>rK _ _ _ _ _ h) id
    ·exact(h2 i hi).imp (fun h=>IE _ _ _ _ _ h) id
theorem qu {sb rb rg:Nat} {qv:Value} {FP:List Nat}: ∀i∈sb::ae qv,i∈fH sb rb rg qv FP:=fun i hi=>by
 rcases List.mem_cons.1 hi with rfl|hi
 · exact nO ..
 · exact rK _ _ _ _ _ hi
theorem T5 {sb rb rg:Nat} {qv:Value} {FP:List Nat}: ∀i∈sb::rb::ae qv,i∈fH sb rb rg qv FP:=fun i hi=>by
 rcases List.mem_cons.1 hi with rfl|hi
 · exact nO ..
 · rcases List.mem_cons.1 hi with rfl|hi
   · exact nP ..
   · exact rK _ _ _ _ _ hi
theorem E4 (q:List (List UInt8)) (x:List UInt8):cT (kj q x)=cT q+x.length:=by
 unfold kj;split
 ·simp_all
 ·simp[cT]
end Go.Proofs.YthffblhdjjbkaaaGreat
