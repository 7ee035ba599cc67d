/- The gateway; The gateway; The gateway; session.Session.Run in a gateway. -/
import Derived.Test.YthffblhdjjbkaaaGreatM43
set_option maxHeartbeats 100000000
set_option maxRecDepth 1000000
open Go.Lib (hid)
open Go.Proofs.Tryz
open Or (inl inr)
namespace Go.Tru
def Gt.out (g:Gt) (k j:Nat):Gt:={g with ss:=g.ss.set k none,pu:=⟨g.pu.rest,g.pu.has.set k 0,g.pu.bu.set k false⟩,wh:=g.wh.eraseIdx j}
def ag.wrote (s:ag) (n:Nat):ag:={s with q:=(bm n s.q).2}
end Go.Tru
namespace Go.Proofs.YthffblhdjjbkaaaGreat
open Go.RowKit Go.Tru
theorem Ff {S:ByteArray} (h: ¬S=⟨#[]⟩):S.toList.isEmpty=false∧¬S.toList= []:=by
 have h1: ¬S.toList= []:=fun e=>h (by
  have e2:S.data.toList= []:=by rw[←ByteArray.toList_eq];exact e
  apply ByteArray.ext;exact Array.toList_inj.1 e2)
 exact⟨by cases hl:S.toList with|nil=>exact absurd hl h1|cons a b=>rfl,h1⟩
theorem Fg {t:bq} {N:Int} {w:World} {base:Nat} {L:dG} {g:Gt} (h:dz t N w base L g) {k:Nat} (hk:k<g.n) (jW:g.pu.bu.getD k false=true):Calls prog 50 #[.pointer (some ⟨L.pb,0,none⟩),.int .i64 k] w fun e w'=>(∃y,e= .returned (.int .i64 y))∧dz t N w' base L {g with pu:=⟨g.pu.rest,g.pu.has.set k 0,g.pu.bu.set k false⟩}∧Below base w w':=by refine(E8 w L.pb L.ph L.po g.pu h.pu k (by rw[h.lens.2.2.2.1];exact hk) jW).mono ?_;rintro e w' ⟨h1,h2,h3⟩;exact⟨h1,h.pu_ h2 (by simp) h3 (by simp),h.below h3 3 (by simp[cu])⟩
theorem za {t:bq} {N:Int} {w:World} {base:Nat} {L:dG} {g:Gt} (h:dz t N w base L g) {j k:Nat} (hx:g.wh[j]? =some (k:Int)) (ui: ∀i y,i<j→g.wh[i]? =some y→¬ (k:Int)=y):Calls prog 51 #[.pointer (some ⟨L.wb,0,none⟩),.int .i64 k] w fun e w'=>e= .returned (.bool true)∧∃L',dz t N w' base L' {g with wh:=g.wh.eraseIdx j}∧L'.gb=L.gb∧L'.gs=L.gs∧Below base w w':=by refine(rD w L.wb g.n L.wv g.wh h.wh j k hx ui).mono ?_;rintro e w' ⟨h1,v',h2,h3,h4⟩;exact⟨h1,_,h.wh_ h2 h3 (fun i hi=>inl (h4 i hi)),rfl,rfl,h.below h3 4 (fun i hi=>hi)⟩
theorem J0 {t:bq} {N:Int} {w:World} {base:Nat} {L:dG} {g:Gt} (h:dz t N w base L g) {k:Nat} (hk:k≤1000):Calls prog 52 #[.pointer (some ⟨L.gb,5,none⟩),.int .i64 k] w fun e w'=>(∃y,e= .returned (.bool y))∧dz t N w' base L g∧Below base w w':=by refine(IM w L.gb (IQ L g) [] _ L.now L.mv L.tn L.M L.G h.tm 5 rfl k hk).mono ?_;rintro e w' ⟨h1,h2,h3⟩;have hF: ∀i∈L.M,i∈L.gb::(L.M++L.G):=fun i hi=>List.mem_cons_of_mem _ (List.mem_append_left _ hi);exact⟨h1,h.tm_ h2 h3 hF (fun i hi=>inl hi) h.jA.1,h.below h3 0 hF⟩
def oS (t:bq) (N:Int) (w:World) (base gb:Nat) (g:Gt) (k j:Nat) (s:ag) (v:Value) (r:Ending) (w':World):Prop:=
 fJ t N w base gb (if(s.ended&&decide (cT s.q=0))=true then(g.put k s).out k j else g.put k s) v r w'
theorem uC {t:bq} {N:Int} (hN:0≤N∧N≤100000000) {w:World} {base:Nat} {L:dG} {g:Gt} (h:dz t N w base L g) {k id:Nat} {s:ag} (a:At g k id s) (n:Nat) (hq:cT s.q≤900000) (hf:g.fits k (s.wrote n)) {j:Nat} (hx:g.wh[j]? =some (k:Int)) (ui: ∀i y,i<j→g.wh[i]? =some y→¬ (k:Int)=y):Calls prog 13 #[.pointer (some ⟨L.gb,0,none⟩),.int .i64 id,.int .i64 n] w (oS t N w base L.gb g k j (s.wrote n) (.string (bytesOf (bm n s.q).1))):=by
 obtain⟨l,hl,-,-⟩:=h.slot a.s_;have dU:=fv a.s_;rw[h.lens.1] at dU;have ju:=h.lens.2.2.2.2;obtain⟨-,-,-,-,-,bP,-⟩:=h.cells;have HF:=hid (fun W (kk:I [] w W)=>T8 ((h.aI kk).se k s l a.s_ hl) n hq);obtain⟨s2,fD⟩: ∃s2,s.wrote n=s2:=⟨_,rfl⟩
 have WC:({s with q:=(bm n s.q).2}:ag)=s2:=fD;rw[WC] at HF;rw[fD] at hf⊢;obtain⟨S,hS⟩: ∃S,bytesOf (bm n s.q).1=S:=⟨_,rfl⟩
 rw[hS] at HF⊢;have HO:=hid (Sr h a.s_ hl id a.i_ a.m_ a.b_);have HH:=hid h;have HA:=hid a;have UT:=hid hf;have zB:=hid hl;have HX:=hid hx;have FC:=hid ui;clear h a hf fD WC hl hS hx ui;unfold oS;obtain⟨B,hB⟩: ∃B,(s2.ended&&decide (cT s2.q=0))=B:=⟨_,rfl⟩
 rw[hB];have HB:=hid hB;clear hB;go_enter func13,ntmps13;go_wp2_with fail
 refine HO.out.mono ?_;rintro e1 w1 ⟨rfl,k1⟩;have K1:=hid k1;clear k1;go_wp2_with fail
 refine(HF.out w1 K1.out).mono ?_;rintro e3 w3 ⟨rfl,mB,g3,k3,FK⟩;have h2:=HH.out.aI K1.out;have aaM: ∀i∈sB ⟨l.sb,l.rb,l.rg,mB,l.pV,l.FP⟩,i∈sB l∨w1.heap.size≤i:=kO (fun i hi=>inl (FK i hi)) (fun i hi=>inl hi);have h3:=h2.Zo HA.out.s_ zB.out (l':=⟨l.sb,l.rb,l.rg,mB,l.pV,l.FP⟩) rfl g3 k3 qu aaM ⟨hN.1,Int.le_refl _,hN.2⟩;have Kt:=HA.out.xz (s':=s2);have HC:=hid (kS hN.1 h3 (k:=k) (s:=s2) Kt.s_ Kt.o_ UT.out.1 UT.out.2);have B3:=hid ((HH.out.fw K1.out).trans (qE h2 k3 HA.out.s_ zB.out qu));have H3:=hid h3;clear h2 h3 g3 k3 FK aaM;go_wp2_with fail
 refine HC.out.mono ?_;rintro e4 w4 ⟨rfl,g4,k4⟩;have B4:=hid (B3.out.trans (kT H3.out k4));have g4':dz t N w4 base _ (g.put k s2):=g4;have hs4:(g.put k s2).ss[k]? =some (some s2):=Kt.s_;have ho4:(g.put k s2).pu.bu.getD k false=true:=HA.out.o_;have hx4:(g.put k s2).wh[j]? =some (k:Int):=HX.out;have aaN: ∀i y,i<j→(g.put k s2).wh[i]? =some y→¬ (k:Int)=y:=FC.out;have By:k<(g.put k s2).n:=dU;have HPT:=hid (show(g.put k s2).n=g.n from rfl);have aaO:({L with ls:=L.ls.set k ⟨l.sb,l.rb,l.rg,mB,l.pV,l.FP⟩}:dG).ls[k]? =some ⟨l.sb,l.rb,l.rg,mB,l.pV,l.FP⟩:=List.getElem?_set_self (fv zB.out);have HSB:=hid aaO;have aaP:({L with ls:=L.ls.set k ⟨l.sb,l.rb,l.rg,mB,l.pV,l.FP⟩}:dG).gb=L.gb:=rfl;clear g4 k4 Kt aaO;generalize ({L with ls:=L.ls.set k ⟨l.sb,l.rb,l.rg,mB,l.pV,l.FP⟩}:dG)=L4 at*;have HS4:=hid hs4;have YX:=hid ho4;have HX4:=hid hx4;have aaQ:=hid aaN;have G4:=hid g4';have FD:=hid aaP;clear hs4 ho4 hx4 aaN g4' aaP;have main: ∀w5,dz t N w5 base L4 (g.put k s2)→Below base w w5→Calls prog 49 #[.pointer (some ⟨l.sb,0,none⟩)] w5 fun r w'=>r= .returned (.bool B)∧w'=w5:=fun w5 g5 _=>by have:=Qt (g5.se k s2 _ HS4.out HSB.out);rw[HB.out] at this;exact this
 have HT:=hid (Fe G4.out (k:=k) (by omega));rw[FD.out] at HT;obtain⟨-,-,-,-,-,Ca,-⟩:=G4.out.cells;rw[FD.out] at Ca;have amc:=FD.out;by_cases hS:S=⟨#[]⟩
 ·subst hS;go_wp2_with fail
  refine(main w4 G4.out B4.out).mono ?_;rintro e6 w6 ⟨rfl,rfl⟩;cases B with
  |false=>
   go_wp2_with fail
   go_ret;exact⟨rfl,_,G4.out,FD.out,B4.out⟩
  |true=>
   obtain⟨-,-,-,d3,-,-,-⟩:=G4.out.cells;simp only[dF,FD.out] at d3;have qj:=hid (Fg G4.out (k:=k) By YX.out);go_wp2_with fail
   refine qj.out.mono ?_;rintro e7 w7 ⟨⟨z,rfl⟩,g7,b7⟩;obtain⟨-,-,-,-,d4,dl7,-⟩:=g7.cells;rw[FD.out] at dl7;simp only[dF,FD.out] at d4;have HRM:=hid (za g7 (j:=j) (k:=k) HX4.out aaQ.out);have B7:=hid (B4.out.trans b7);clear g7 b7 d3;go_wp2_with fail
   refine HRM.out.mono ?_;rintro e8 w8 ⟨rfl,L8,g8,lC,XQ,b8⟩;rw[FD.out] at lC;have lz:=hid (J0 g8 (k:=k) (by omega));rw[lC] at lz;have B8:=hid (B7.out.trans b8);obtain⟨-,-,-,-,-,dl8,-⟩:=g8.cells;rw[lC] at dl8;have XR:=hid lC;clear g8 b8 d4 lC XQ;go_wp2_with fail
   refine lz.out.mono ?_;rintro e9 w9 ⟨⟨z9,rfl⟩,g9,b9⟩;obtain⟨q0,-,-,-,-,dl9,-⟩:=g9.cells;rw[XR.out] at q0 dl9;have hd9:=g9.Vz (k:=k) By;have k9:I [L8.gs] w9 (w9.setCell ⟨L8.gs,k,none⟩ (.pointer none)):=(I.refl [L8.gs] w9).ax _;have b9':=g9.below k9 1 (fun i hi=>hi);have fk:=g9.gs.free k;obtain⟨l9,-,c9k,-⟩:=g9.slot (k:=k) HS4.out;have Pc:(k:Int)<((g.put k s2).n:Int):=by omega
   have BH:(0:Int)≤(k:Int):=by omega
   have D9:=hid hd9;have B9:=hid ((B8.out.trans b9).trans b9');clear g9 b9 hd9 k9 b9';go_wp2_with fail
   go_ret;exact⟨rfl,_,D9.out,XR.out,B9.out⟩
 ·obtain⟨kD,iL⟩:=Ff hS;go_wp2_with fail
  refine HT.out.mono ?_;rintro e5 w5 ⟨⟨y,rfl⟩,g5,b5⟩;have G5:=hid g5;have B5:=hid (B4.out.trans b5);clear g5 b5;go_wp2_with fail
  refine(main w5 G5.out B5.out).mono ?_;rintro e6 w6 ⟨rfl,rfl⟩;cases B with
  |false=>
   go_wp2_with fail
   go_ret;exact⟨rfl,_,G5.out,FD.out,B5.out⟩
  |true=>
   obtain⟨-,-,-,d3,-,-,-⟩:=G5.out.cells;simp only[dF,FD.out] at d3;have qj:=hid (Fg G5.out (k:=k) By YX.out);go_wp2_with fail
   refine qj.out.mono ?_;rintro e7 w7 ⟨⟨z,rfl⟩,g7,b7⟩;obtain⟨-,-,-,-,d4,dl7,-⟩:=g7.cells;rw[FD.out] at dl7;simp only[dF,FD.out] at d4;have HRM:=hid (za g7 (j:=j) (k:=k) HX4.out aaQ.out);have B7:=hid (B5.out.trans b7);clear g7 b7 d3;go_wp2_with fail
   refine HRM.out.mono ?_;rintro e8 w8 ⟨rfl,L8,g8,lC,XQ,b8⟩;rw[FD.out] at lC;have lz:=hid (J0 g8 (k:=k) (by omega));rw[lC] at lz;have B8:=hid (B7.out.trans b8);obtain⟨-,-,-,-,-,dl8,-⟩:=g8.cells;rw[lC] at dl8;have XR:=hid lC;clear g8 b8 d4 lC XQ;go_wp2_with fail
   refine lz.out.mono ?_;rintro e9 w9 ⟨⟨z9,rfl⟩,g9,b9⟩;obtain⟨q0,-,-,-,-,dl9,-⟩:=g9.cells;rw[XR.out] at q0 dl9;have hd9:=g9.Vz (k:=k) By;have k9:I [L8.gs] w9 (w9.setCell ⟨L8.gs,k,none⟩ (.pointer none)):=(I.refl [L8.gs] w9).ax _;have b9':=g9.below k9 1 (fun i hi=>hi);have fk:=g9.gs.free k;obtain⟨l9,-,c9k,-⟩:=g9.slot (k:=k) HS4.out;have Pc:(k:Int)<((g.put k s2).n:Int):=by omega
   have BH:(0:Int)≤(k:Int):=by omega
   have D9:=hid hd9;have B9:=hid ((B8.out.trans b9).trans b9');clear g9 b9 hd9 k9 b9';go_wp2_with fail
   go_ret;exact⟨rfl,_,D9.out,XR.out,B9.out⟩
def sL (ei:Int) (n:Nat):Gt:=⟨n,List.replicate n none,List.replicate n 0,0,Pu.new ei n,[]⟩
theorem QG:(Tryz.prog.info? 79).map (fun i=>(i.zero,i.size,i.bytes))=some (some (.pointer none),1,8):=by kernel_rfl
theorem MF (n:Nat) (hn:n=1∨n=2):(madeCells (Value.pointer none).cells (n*1)).toList=List.replicate n (.pointer none):=by rcases hn with rfl|rfl<;>kernel_rfl
theorem MG (n:Nat) (hn:n=1∨n=2): ∃A:Array Value,A.toList=List.replicate n (.pointer none)∧∀W:World,(Instr.makeSlice 69 (.int .i64 n) (.int .i64 n)).run prog W= .ok (.slice (some ⟨W.heap.size,0,none⟩) n n) (W.alloc (.cells A 79)):=by obtain⟨i0,hi,ko,gv,gW⟩:=info_parts QG;refine⟨_,MF n hn,fun W=> ?_⟩;have hr:=run_makeSlice (P:=prog) W 69 79 i0 (.pointer none) underlying69 hi ko .i64 .i64 n n (by omega) (Int.le_refl _) (by rw[gv];omega) (by rw[gW];omega) (by omega);rw[gv] at hr;exact hr
theorem zb {w:World} {a b:Nat} {cs ds:List Value} {T U:TypeId} (h1:Has w a cs T) (h2:Has w b ds U) (hn:T≠U):a≠b:=by rintro rfl;have h:=h1.symm.trans h2;injection h with h;injection h with _ h;exact hn h
def VA:ie:=⟨0,0,0,.pointer none,.pointer none,[]⟩
theorem IT {t:bq} {ei:Int} {n:Nat} (hn:n=1∨n=2) {w w1 W:World} {gs gi wb gb pb ph po:Nat} (h0:Has W gb [.slice (some ⟨gs,0,none⟩) n n,.slice (some ⟨gi,0,none⟩) n n,.int .i64 0,.pointer (some ⟨pb,0,none⟩),.pointer (some ⟨wb,0,none⟩),.int .i64 0,.map none] 76) (h1:Has W gs (List.replicate n (.pointer none)) 79) (h2:Has W gi (fe (List.replicate n 0)) 3) (h3:fS w1 pb ph po (Pu.new ei n)) (h4:rC W wb n (.slice none 0 0) []) (k0:I [] w w1) (k1:I [] w1 W) (ht:dt t w) (htt:br<w.heap.size) (b1:w.heap.size≤pb∧w.heap.size≤ph∧w.heap.size≤po) (b2:w1.heap.size≤gs∧w1.heap.size≤gi∧w1.heap.size≤wb∧w1.heap.size≤gb): ∃L,Ending.returned (.pointer (some ⟨gb,0,none⟩))= .returned (.pointer (some ⟨L.gb,0,none⟩))∧dz t 0 W w.heap.size L (sL ei n)∧I [] w W:=by
 have n1:=zb h1 h2 (by decide);have n2:=zb h1 h4.az (by decide);have n3:=zb h2 h4.az (by decide);have n4:=zb h0 h1 (by decide);have n5:=zb h0 h2 (by decide);have n6:=zb h0 h4.az (by decide);have l1:=h3.az.lt;have l2:=h3.hs.lt;have l3:=h3.os.lt;have z0:=k0.size;have z1:=k1.size;have y0:=h0.lt;have y1:=h1.lt;have y2:=h2.lt;have y4:=h4.az.lt;have rX:ae (.slice none 0 0)= []:=rfl;have XS: ∀k,jH (List.replicate n none) (List.replicate n VA) k= []:=fun k=>by
  unfold jH;by_cases hk:k<n
  ·rw[List.getElem?_replicate,List.getElem?_replicate,if_pos hk,if_pos hk];rfl
  ·rw[List.getElem?_replicate,if_neg hk]
 refine⟨⟨gb,gs,gi,pb,ph,po,wb,.slice none 0 0,0,.map none,0,[],[],List.replicate n VA⟩,rfl,⟨⟨h0,inl ⟨rfl,rfl,rfl⟩,by simp⟩,h1.conv ?_,h2,h3.keeps k1 (by simp) (by simp) (by simp),h4,fun k s l e=> ?_,⟨fun a b i hab ha hb=> ?_,fun a i ha=> ?_⟩,ht.keeps (k0.trans k1) (by simp),⟨htt,by omega⟩,?_,⟨Nat.le_refl _,by simp[sL]⟩⟩,k0.trans k1⟩
 ·rcases hn with rfl|rfl<;>rfl
 ·simp only[sL,List.getElem?_replicate] at e;split at e<;>cases e
 ·rcases a with _|_|_|_|_|a<;>rcases b with _|_|_|_|_|b<;>first|exact absurd rfl hab|(simp only[cu,sL,XS,List.not_mem_nil] at hb;done)|(simp only[cu,sL,XS,List.not_mem_nil] at ha;done)|(simp only[cu,rX,List.append_nil,List.mem_cons,List.not_mem_nil,or_false] at ha hb;omega)
 ·rcases a with _|_|_|_|_|a<;>first|(simp only[cu,sL,rX,List.append_nil,List.mem_cons,List.not_mem_nil,or_false] at ha;omega)|(simp only[cu,sL,XS,List.not_mem_nil] at ha)
 ·simp[sL,Pu.new,hn]
theorem VB {t:bq} (ei:Int) (n:Nat) (hn:n=1∨n=2) (hb:1400≤ei∧ei≤40000) {w:World} (ht:dt t w) (h0:br<w.heap.size):Calls prog 8 #[.int .i64 ei,.int .i64 n] w fun e w'=>∃L,e= .returned (.pointer (some ⟨L.gb,0,none⟩))∧dz t 0 w' w.heap.size L (sL ei n)∧I [] w w':=by
 obtain⟨A1,hA1,Pe⟩:=MG n hn;obtain⟨A2,hA2,ly⟩:=y7 n hn;have HP:=hid (fun W=>Mx ei n hn hb W);have HW:=hid (fun W=>Mz n (by omega) W);have HT:=hid ht;have HA1:=hid hA1;have HA2:=hid hA2;clear ht hA1 hA2;go_enter func8,ntmps8;go_wp2_with fail
 refine(HP.out w).mono ?_;rintro e1 w1 ⟨pb,ph,po,rfl,g1,k1,b1,b2,b3⟩;have G1:=hid g1;have K1:=hid k1;clear g1 k1;go_wp2_with fail
 go_region_with (first|(go_at_call 28;refine(HW.out _).mono ?_;rintro e w' ⟨wb,rfl,g2,k2,b4⟩))
 all_goals
  have kz:=k2.size;simp at kz b4;go_wp2_with fail
  go_ret;refine IT hn (Has.aC _ _ _ (by first|rfl|simp)) ?_ ?_ G1.out ?_ K1.out ?_ HT.out h0 ⟨b1,b2,b3⟩ ?_
  ·rw[←HA1.out];first|exact(((Has.aC w1 A1 79 rfl).alloc _).drew.keeps k2 (by simp)).alloc _|exact((Has.aC _ A1 79 (by first|rfl|simp)).drew.keeps k2 (by simp)).alloc _|exact(((Has.aC w1 A1 79 rfl).drew.keeps k2 (by simp)).alloc _).alloc _|exact(Has.aC w' A1 79 rfl).alloc _|exact((Has.aC w' A1 79 rfl).alloc _).alloc _|exact(Has.aC _ A1 79 (by first|rfl|simp)).alloc _
  ·rw[←HA2.out];first|exact(((Has.aC w1 A2 3 rfl).alloc _).drew.keeps k2 (by simp)).alloc _|exact((Has.aC _ A2 3 (by first|rfl|simp)).drew.keeps k2 (by simp)).alloc _|exact(((Has.aC w1 A2 3 rfl).drew.keeps k2 (by simp)).alloc _).alloc _|exact(Has.aC w' A2 3 rfl).alloc _|exact((Has.aC w' A2 3 rfl).alloc _).alloc _|exact(Has.aC _ A2 3 (by first|rfl|simp)).alloc _
  ·first
    |exact g2.keeps ((I.refl [] w').alloc _) (by simp) (by simp)
    |exact g2.keeps (((I.refl [] w').alloc _).alloc _) (by simp) (by simp)
    |exact g2.keeps ((((I.refl [] w').alloc _).alloc _).alloc _) (by simp) (by simp)
  ·first
    |exact((((I.refl [] w1).alloc _).alloc _).drew.trans k2).alloc _
    |exact(((((I.refl [] w1).alloc _)).drew.trans k2).alloc _).alloc _
    |exact(((((I.refl [] w1)).drew.trans k2).alloc _).alloc _).alloc _
  ·try simp
   omega
end Go.Proofs.YthffblhdjjbkaaaGreat
namespace Go.Tru
def Gt.conn (g:Gt) (k:Nat):Gt:=
 ⟨g.n,g.ss.set k (some ag.new),g.ids.set k ((k:Int)+g.n*g.many),g.many+1,⟨g.pu.rest,g.pu.has.set k 2,g.pu.bu.set k true⟩,g.wh++[(k:Int)]⟩
end Go.Tru
namespace Go.Proofs.YthffblhdjjbkaaaGreat
open Go.RowKit Go.Tru
def Ug (k:Nat) (w:World) (i:Value) (wr:World):Prop:=∃j:Nat,j≤k∧i= .int .i64 j∧w=wr
theorem Uh {t:bq} {N:Int} {w:World} {base:Nat} {L:dG} {g:Gt} (h:dz t N w base L g) {k:Nat} (hk:k<g.n) (jW:g.pu.bu.getD k false=false):Calls prog 32 #[.pointer (some ⟨L.pb,0,none⟩),.int .i64 k] w fun e w'=>e= .returned (.bool true)∧dz t N w' base L {g with pu:={g.pu with bu:=g.pu.bu.set k true}}∧Below base w w':=by refine(IH w L.pb L.ph L.po g.pu h.pu k (by rw[h.lens.2.2.2.1];exact hk) jW).mono ?_;rintro e w' ⟨h1,h2,h3⟩;exact⟨h1,h.pu_ h2 rfl h3 (by simp),h.below h3 3 (by simp[cu])⟩
theorem XT {t:bq} {N:Int} {w:World} {base:Nat} {L:dG} {g:Gt} (h:dz t N w base L g) {k:Nat} (hk:k<g.n) (ui: ∀j y,j<g.wh.length→g.wh[j]? =some y→¬ (k:Int)=y) (hl:g.wh.length≤99):Calls prog 34 #[.pointer (some ⟨L.wb,0,none⟩),.int .i64 k] w fun e w'=>e= .returned (.bool true)∧∃L',dz t N w' base L' {g with wh:=g.wh++[(k:Int)]}∧L'.gb=L.gb∧L'.gi=L.gi∧L'.tn=L.tn∧Below base w w':=by refine(MB w L.wb g.n L.wv g.wh h.wh k hk ui hl).mono ?_;rintro e w' ⟨h1,v',h2,h3,h4⟩;exact⟨h1,_,h.wh_ h2 h3 h4,rfl,rfl,rfl,h.below h3 4 (fun i hi=>hi)⟩
theorem QH {t:bq} {N:Int} {w:World} {base:Nat} {L:dG} {g:Gt} (h:dz t N w base L g) {k:Nat} (hk:k≤1000) (hn:L.tn+1≤g.many):Calls prog 35 #[.pointer (some ⟨L.gb,5,none⟩),.int .i64 k,.int .i64 0] w fun e w'=>(∃y,e= .returned (.bool y))∧∃L',dz t N w' base L' g∧L'.gb=L.gb∧L'.gi=L.gi∧Below base w w':=by have ju:=h.jA;refine(Fc w L.gb (IQ L g) [] _ L.now L.mv L.tn L.M L.G h.tm 5 rfl k hk 0 (Int.le_refl _) (by omega)).mono ?_;rintro e w' ⟨h1,yv,M',G',h2,h3,h4⟩;exact⟨h1,_,h.tm_ h2 h3 (fun i hi=>hi) h4 hn,rfl,rfl,h.below h3 0 (fun i hi=>hi)⟩
theorem sM {t:bq} {N:Int} (hN:0≤N∧N≤100000000) {w:World} {base:Nat} {L:dG} {g:Gt} (h:dz t N w base L g) {k:Nat} (hx:g.ss[k]? =some none) (dD: ∀j,j<k→∃s,g.ss[j]? =some (some s)) (ho:g.pu.bu.getD k false=false) (mr:k<g.pu.bu.length) (hm:2≤g.pu.may k) (ui: ∀j y,j<g.wh.length→g.wh[j]? =some y→¬ (k:Int)=y) (hl:g.wh.length≤8) (hmy:g.many≤100) (htn:L.tn≤g.many):Calls prog 10 #[.pointer (some ⟨L.gb,0,none⟩)] w fun e w'=>e= .returned (.tuple #[.int .i64 ((k:Int)+g.n*g.many),.string ⟨#[]⟩])∧∃L',dz t N w' base L' (g.conn k)∧L'.gb=L.gb∧Below base w w':=by
 obtain⟨c0,c1,c2,c3,c4,bP,qg⟩:=h.cells;simp only[dF] at c3 c4;have hlen:=h.lens.1;have ju:=h.lens.2.2.2.2;have By:k<g.n:=by rw[←hlen];exact fv hx
 have H:=hid h;have HX:=hid hx;have FA:=hid dD;have HO:=hid ho;have HOL:=hid mr;have HM:=hid hm;have FC:=hid ui;have CB:=hid (fun W (kk:I [] w W)=>aaA (t:=t) (w:=W) (base:=base) (h.aI kk).sO h.low.1 (h.aI kk).low.2);clear h dD ho mr hm ui hx;go_enter func10,ntmps10;go_wp2_with fail
 go_loopw [13] (fun i wr=>Ug k w i wr) (fun i _=>k- (intOf i).toNat);case atStart=>exact⟨0,Nat.zero_le _,rfl,rfl⟩
 case round=>
  obtain⟨j,hj,rfl,rfl⟩:=hrel;have hj0:(0:Int)≤(j:Int):=by omega
  have hjn:(j:Int)<(g.n:Int):=by omega
  have eK:=da (x:=(j:Int)+1) (by omega);by_cases Vw:j<k
  ·obtain⟨s,hs⟩:=FA.out j Vw;obtain⟨l,hl,cs,-⟩:=H.out.slot hs;simp only[dF] at cs;clear hs hl;go_wp2_with fail
   go_roundw;case rel=>exact⟨j+1,by omega,by go_num,rfl⟩
   case measure=>simp[intOf];omega
  ·obtain rfl:k=j:=by omega
   have cs:=H.out.free HX.out;have afa:L.gb∉[L.gs]:=fun hm=>H.out.ap.ne 0 1 L.gb (by decide) (by simp[cu]) (by rw[List.mem_singleton] at hm;rw[hm];simp[cu]);have L3: ∀w',I [L.gs] w w'→w'.cell? ⟨L.gb,0,none⟩=some (.slice (some ⟨L.gs,0,none⟩) g.n g.n):=fun w' kk=>kk.cell c0 afa;go_upto_region 7 with fail;refine rg (fun w'=>I [L.gs] w w') ((I.refl [L.gs] w).drew) fun HH=> ?_;refine tk 0 HH.out ?_;try simp only[gz]
   refine tk 1 HH.out ?_;try simp only[gz]
   refine tk 2 HH.out ?_;try simp only[gz]
   refine tf 3 L3 HH.out ?_;try simp only[gz]
   refine tk 4 HH.out ?_;try simp only[gz]
   refine rd 5 fun K hK=> ?_;go_simp;refine(CB.out _ ((I.refl [] w).drew)).mono ?_;rintro e1 w1 ⟨sb,rb,rg,rfl,g1,k1,n1⟩;simp only[dF];have f1:=(HH.out.trans (k1.mono (by simp)))
   have fk:=(H.out.aI ((I.refl [] w).drew.trans k1)).gs.free k;have ck:=(H.out.aI ((I.refl [] w).drew.trans k1)).free HX.out;have G1:=hid g1;have K1:=hid ((I.refl [] w).drew.trans k1);have N1:=hid n1;have F1:=hid f1;clear g1 k1 n1 f1;clear HH;refine hK.out _ _ (F1.out) fun HH=> ?_;clear hK K;refine tk 6 HH.out ?_;try simp only[gz]
   refine rd 7 fun K hK=> ?_;go_simp;refine hK.out _ _ (HH.out.ax _) fun HH=> ?_;clear hK K;refine wpAnyH_done (by kernel_rfl) ?_ _;go_wp2_with fail
   have mo:XO t N w1 base ⟨sb,rb,rg,.slice none 0 0,.pointer none,[]⟩ ag.new:=bk.more G1.out ⟨Int.le_refl _,hN.1,hN.2⟩;have g2:=H.out.ae1 (k:=k) (s:=ag.new) By K1.out mo N1.out;have b2:=(H.out.fw K1.out).trans ((H.out.aI K1.out).below ((I.refl [L.gs] w1).ax (i:=k) (.pointer (some ⟨sb,0,none⟩))) 1 (fun i hi=>hi));simp only[dF] at g2;obtain⟨w2,gU⟩: ∃w2,w1.setCell ⟨L.gs,k,none⟩ (.pointer (some ⟨sb,0,none⟩))=w2:=⟨_,rfl⟩
   rw[gU] at g2 b2⊢;obtain⟨q0,q1,q2,q3,q4,qbl,qfr⟩:=g2.cells;simp only[dF] at q3 q4;have xw:k<g.ids.length:=by rw[H.out.lens.2.2.1];exact By
   have qi:=g2.id (List.getElem?_eq_getElem xw);have fi:=g2.gi.free k;have f2:=qfr 2;have hib:L.gi≠L.gb:=fun e=>H.out.ap.ne 0 2 L.gb (by decide) (by simp[cu]) (by rw[←e];simp[cu]);have amj: ¬L.gb=L.gi:=fun e=>hib e.symm;have YS:((k:Int)<(g.n:Int)):=by omega
   obtain⟨P,hP⟩: ∃P,(g.n:Int)*(g.many:Int)=P:=⟨_,rfl⟩
   have hPb:0≤P∧P≤200:=by rw[←hP];rcases ju with e|e<;>rw[e]<;>omega
   have jN:IntKind.i64.wrap P=P:=by rw[IntKind.wrap_i64];omega
   have hw4:=da (x:=(k:Int)+P) (by omega);have VZ:IntKind.i64.wrap ((g.many:Int)+1)=((g.many+1:Nat):Int):=by rw[IntKind.wrap_i64];omega
   have G2:=hid g2;have B2:=hid b2;clear g2 b2 gU mo ck fk cs c0 c1 c2 c3 c4 qg L3 HH F1;go_upto_region 8 with fail;go_still_tail 18,(by kernel_rfl);change wpList _ _ _ _ _ w2.drew;go_wp2_with fail
   have g3:=G2.out.ae2 k ((k:Int)+P);have kb:=(I.refl [L.gi] w2).ax (i:=k) (.int .i64 ((k:Int)+P));have b3:=G2.out.below kb 2 (fun i hi=>hi);have g4:=g3.aaK (g.many+1) ⟨Nat.le_succ _,by omega⟩;have b4:=g3.below ((I.refl [L.gb] _).ax (i:=2) (.int .i64 ((g.many+1:Nat):Int))) 0 m1;have aaT:((g.many+1:Nat):Int)=(g.many:Int)+1:=by omega
   rw[aaT] at g4 b4;have g5:=g4.aI ((I.refl [] _).drew);have b5:=(B2.out.trans (b3.trans b4)).trans (g4.fw ((I.refl [] _).drew));obtain⟨w5,jo⟩: ∃w5,((w2.setCell ⟨L.gi,k,none⟩ (.int .i64 ((k:Int)+P))).setCell ⟨L.gb,2,none⟩ (.int .i64 ((g.many:Int)+1))).drew=w5:=⟨_,rfl⟩
   have g5':=jo▸g5;have b5':=jo▸b5;rw[jo];have Jb:=hid (Uh g5' (k:=k) By HO.out);have B5:=hid b5';clear g3 kb b3 g4 b4 g5 b5 jo g5' b5' q0 q1 q2 q3 q4 qbl qfr qi fi f2;refine Jb.out.mono ?_;rintro e6 w6 ⟨rfl,g6,b6⟩;have hs6:(g.ss.set k (some ag.new))[k]? =some (some ag.new):=List.getElem?_set_self (by rw[hlen];exact By);have ho6:(g.pu.bu.set k true).getD k false=true:=by simp[List.getD,HOL.out]
   have QI:ag.new.bj=2:=by decide
   have HC:=hid (kS hN.1 g6 (k:=k) (s:=ag.new) hs6 ho6 (by rw[QI];omega) (by rw[QI];exact HM.out));rw[QI] at HC;have B6:=hid (B5.out.trans b6);have G6:=hid g6;clear g6 b6 hs6 ho6 QI Jb;go_wp2_with fail
   refine HC.out.mono ?_;rintro e7 w7 ⟨rfl,g7,k7⟩;have HAD:=hid (XT g7 (k:=k) By FC.out (by show g.wh.length≤99;omega));have B7:=hid (B6.out.trans (kT G6.out k7));obtain⟨-,-,-,-,r4,rbl,-⟩:=g7.cells;simp only[dF] at r4;clear g7 k7 HC G6;go_wp2_with fail
   refine HAD.out.mono ?_;rintro e8 w8 ⟨rfl,L8,g8,lC,aaV,aaW,b8⟩;have lz:=hid (QH g8 (k:=k) (by omega) (by rw[aaW];show L.tn+1≤g.many+1;omega));have B8:=hid (B7.out.trans b8);have J1:L8.gb=L.gb:=lC;have VC:L8.gi=L.gi:=aaV;rw[J1] at lz;obtain⟨-,-,-,-,-,sbl,-⟩:=g8.cells;rw[J1] at sbl;clear g8 b8 HAD r4 rbl;have FD:=hid J1;have HGI:=hid VC;clear lC aaV J1 VC aaW;go_wp2_with fail
   refine lz.out.mono ?_;rintro e9 w9 ⟨⟨y,rfl⟩,L9,g9,aaX,aaY,b9⟩;have J2:L9.gb=L.gb:=aaX;have QJ:L9.gi=L.gi:=aaY.trans HGI.out;obtain⟨-,t1,-,-,-,tbl,-⟩:=g9.cells;have ti:=g9.id (k:=k) (x:=(k:Int)+P) (List.getElem?_set_self xw);rw[J2,QJ] at t1;rw[J2] at tbl;rw[QJ] at ti;have Sp:(⟨g.n,g.ss.set k (some ag.new),g.ids.set k ((k:Int)+P),g.many+1,⟨g.pu.rest,g.pu.has.set k 2,g.pu.bu.set k true⟩,g.wh++[(k:Int)]⟩:Gt)=g.conn k:=by rw[←hP];rfl
   have G9:=hid (Sp▸g9);have HG9:=hid J2;have B9:=hid (B8.out.trans b9);have ez:=hid hP;clear g9 aaX aaY J2 QJ b9 Sp lz hP;go_wp2_with fail
   go_ret2;exact⟨by rw[ez.out];rfl,L9,G9.out,HG9.out,B9.out⟩
end Go.Proofs.YthffblhdjjbkaaaGreat
namespace Go.Tru
theorem uD {p:Pu} {i:Nat} (hi:i<p.has.length) (n:Int):({p with has:=p.has.set i n}:Pu).may i=p.may i:=by
 unfold Pu.may Pu.shared;have h1:=Bt p.has i n hi;have h2:(p.has.set i n).getD i 0=n:=by simp[List.getD,hi]
 simp only[h1,h2];omega
theorem QK {g:Gt} {k:Nat} {s:ag} (h:g.ss[k]? =some (some s)):g.xz k s=g:=by
 obtain⟨hk,hx⟩:=List.getElem?_eq_some_iff.1 h;have:g.ss.set k (some s)=g.ss:=by rw[←hx];exact List.set_getElem_self hk
 unfold Gt.xz;rw[this]
theorem QL {g:Gt} {k:Nat} (h:k<g.pu.has.length):g.xn k (g.pu.has.getD k 0)=g:=by
 have h1:g.pu.has.getD k 0=g.pu.has[k]:=by simp[List.getD,h]
 have:g.pu.has.set k (g.pu.has.getD k 0)=g.pu.has:=by rw[h1];exact List.set_getElem_self h
 unfold Gt.xn;rw[this]
theorem uE (g:Gt) (k:Nat) (x y:Int):(g.xn k x).xn k y=g.xn k y:=by unfold Gt.xn;simp
theorem zc {T:Pr} {M:Int} {n r:Nat} {s s':ag} (h:s.run T M (n+1)=some (r,s')) (hr:s.ready=true):s.fE T s.dj.head?=true∧(s.once T).bj≤M∧∃r',r=r'+1∧(s.once T).run T M n=some (r',s'):=by
 unfold ag.run at h;rw[if_pos hr] at h;split at h
 ·cases h
 ·rename_i hc;have h1:s.fE T s.dj.head?=true:=by
   cases hf:s.fE T s.dj.head? with
   |true=>rfl
   |false=>exact absurd (inl hf) hc
  have h2:(s.once T).bj≤M:=by
   rcases Int.lt_or_le M (s.once T).bj with h3|h3
   ·exact absurd (inr h3) hc
   ·exact h3
  split at h
  ·cases h
  ·rename_i k t ht;injection h with h;injection h with h3 h4;exact⟨h1,h2,k,h3.symm,by rw[ht,h4]⟩
theorem oE {T:Pr} {M:Int} {n r:Nat} {s s':ag} (h:s.run T M n=some (r,s')) (hr:n=0∨s.ready=false):r=0∧s'=s:=by
 cases n with
 |zero=>unfold ag.run at h;injection h with h;injection h with h3 h4;exact⟨h3.symm,h4.symm⟩
 |succ n=>have hr:=hr.resolve_left (by omega);unfold ag.run at h;rw[if_neg (by rw[hr];decide)] at h;injection h with h;injection h with h3 h4;exact⟨h3.symm,h4.symm⟩
end Go.Tru
namespace Go.Proofs.YthffblhdjjbkaaaGreat
open Go.RowKit Go.Tru
def aaZ (t:bq) (N:Int) (w:World) (base:Nat) (L:dG) (g:Gt) (k:Nat) (l:ie) (M:Int) (n:Nat) (s':ag) (i:Value) (wr:World):Prop:=
 ∃m:Nat,m≤16∧i= .int .i64 m∧∃sc lc x r,dz t (N+m) wr base {L with ls:=L.ls.set k lc} ((g.xz k sc).xn k x)∧lc.sb=l.sb∧(∀i∈sB lc,i∈sB l∨w.heap.size≤i)∧I (L.ph::sB l) w wr∧sc.run t.pr M (16-m)=some (r,s')∧m+r=n
theorem XU {t:bq} {N:Int} (hN:0≤N∧N+16≤100000000) {w:World} {base:Nat} {L:dG} {g:Gt} (h:dz t N w base L g) {k:Nat} {s:ag} {l:ie} (hk:g.ss[k]? =some (some s)) (hl:L.ls[k]? =some l) (jW:g.pu.bu.getD k false=true) {M:Int} (hM:g.pu.may k=M) (hM4:M≤40000) {cg cs:Nat} (Uc:w.cell? ⟨cg,0,none⟩=some (dF L.gb)) (tN:w.cell? ⟨cs,0,none⟩=some (.int .i64 k)) (XJ:cg∉L.ph::sB l) (XC:cs∉L.ph::sB l) {n:Nat} {s':ag} (hr:s.run t.pr M 16=some (n,s')):Calls prog 44 #[.pointer (some ⟨l.sb,0,none⟩),.func (.func 45) #[] #[.pointer (some ⟨cg,0,none⟩),.pointer (some ⟨cs,0,none⟩)]] w fun e w'=>e= .returned (.int .i64 n)∧∃lc x,dz t (N+16) w' base {L with ls:=L.ls.set k lc} ((g.xz k s').xn k x)∧(∀i∈sB lc,i∈sB l∨w.heap.size≤i)∧lc.sb=l.sb∧I (L.ph::sB l) w w':=by
 have By:k<g.n:=by rw[←h.lens.1];exact fv hk
 have M9:k<g.pu.has.length:=by rw[h.lens.2.2.2.1];exact By
 have bP:l.sb<w.heap.size:=(bk.cells (h.se k s l hk hl)).2.2.2.2.2.2.2.1;have H:=hid h;have HK:=hid hk;have HL:=hid hl;have Jb:=hid jW;have HM:=hid hM;have HCG:=hid Uc;have HCS:=hid tN;have HNG:=hid XJ;have HNS:=hid XC;have HR:=hid hr;clear h hk hl jW hM Uc tN XJ XC hr;have hnf: ∀W,(binOp .neq 51 (.func (.func 45) #[] #[.pointer (some ⟨cg,0,none⟩),.pointer (some ⟨cs,0,none⟩)]) .nilFunc).run prog W= .ok (.bool true) W:=fun W=>by kernel_rfl
 go_enter func44,ntmps44;go_wp2_with fail
 go_loopw [5] (fun i wr=>aaZ t N w base L g k l M n s' i wr) (fun i _=>16- (intOf i).toNat);case atStart=>refine⟨0,by omega,rfl,s,l,g.pu.has.getD k 0,n,?_,rfl,fun i hi=>inl hi,I.refl _ _,HR.out,by omega⟩;rw[QK HK.out,QL M9,Bx HL.out,show N+((0:Nat):Int)=N by omega];exact H.out
 case round=>
  obtain⟨m,hm,rfl,sc,lc,x,r,hG,V9,qg,kw,oh,hmr⟩:=hrel;obtain⟨lsb,RI,RJ,YY,lpV,lFP⟩:=lc;obtain rfl:lsb=l.sb:=V9;have hsc:((g.xz k sc).xn k x).ss[k]? =some (some sc):=List.getElem?_set_self (fv HK.out);have hlc:({L with ls:=L.ls.set k (⟨l.sb,RI,RJ,YY,lpV,lFP⟩:ie)}:dG).ls[k]? =some (⟨l.sb,RI,RJ,YY,lpV,lFP⟩:ie):=List.getElem?_set_self (fv HL.out);have yr:=hG.se k sc (⟨l.sb,RI,RJ,YY,lpV,lFP⟩:ie) hsc hlc;have lu:=(bk.cells yr)
  have Ca:=lu.2.2.2.2.2.2.2.1;have d9:=lu.2.2.1;have XV:=hid (JT yr);have HQL:=hid (fun W (kk:I [] wr W)=>mN W l.sb _ _ _ YY sc.q (bk.aI yr kk).q 1 rfl);have HG:=hid hG;have CA:=hid qg;have KW:=hid kw;have P4:=hid oh;have Tp:=hid hsc;have HLC:=hid hlc;have HSE:=hid yr;clear hG qg kw oh hsc hlc yr lu;have hmw:IntKind.i64.wrap ((m:Int)+1)=((m+1:Nat):Int):=by rw[IntKind.wrap_i64];omega
  by_cases afe:m=16
  ·subst afe;obtain⟨rfl,rfl⟩:=oE P4.out (inl rfl);obtain rfl:n=16:=by omega
   go_wp2_with fail
   go_ret;exact⟨rfl,(⟨l.sb,RI,RJ,YY,lpV,lFP⟩:ie),⟨x,HG.out.more ⟨by omega,by omega,by omega⟩⟩,CA.out,rfl,KW.out⟩
  ·have dD:(m:Int)<16:=by omega
   cases pj:sc.ready with
   |false=>
    rw[pj] at XV;obtain⟨rfl,rfl⟩:=oE P4.out (inr pj);obtain rfl:n=m:=by omega
    clear pj;go_wp2_with fail
    refine XV.out.mono ?_;rintro e1 w1 ⟨rfl,rfl⟩;go_wp2_with fail
    go_ret;exact⟨rfl,(⟨l.sb,RI,RJ,YY,lpV,lFP⟩:ie),x,HG.out.more ⟨by omega,by omega,by omega⟩,CA.out,rfl,KW.out⟩
   |true=>
    rw[pj] at XV;obtain⟨hf,Wh,r',rfl,VD⟩:=zc (by rw[show 16- (m+1)+1=16-m by omega];exact P4.out:sc.run t.pr M (16- (m+1)+1)=some (r,s')) pj;have hq:=JS pj;have HON:=hid (fun W (kk:I [] wr W)=>XH (bk.aI HSE.out kk) pj hf ⟨by omega,by omega⟩);have HCH:=hid Wh;have aa2:=hid VD;have amu:=hid pj;clear pj hf Wh VD;go_wp2_with fail
    refine XV.out.mono ?_;rintro e1 w1 ⟨rfl,rfl⟩;go_wp2_with fail
    go_quiet ((refine(HQL.out _ ((I.refl [] _).drewN _)).mono ?_;rintro e w' ⟨rfl,rfl⟩;exact⟨rfl,_,rfl⟩))
    go_wp2_with fail
    refine(HON.out _ ((I.refl [] _).drewN _)).mono ?_;rintro e2 w2 ⟨rfl,mB,NH,xk,g2,k2,n2⟩;have kd:=KW.out.drewN nq;have kw2:=kd.trans' k2 (fun i hi=>(CA.out i hi).imp (List.mem_cons_of_mem _) id);have h2:=(HG.out.aI ((I.refl [] w1).drewN nq)).Zo Tp.out HLC.out (l':=⟨l.sb,RI,RJ,mB,NH,xk⟩) rfl g2 k2 (fun i hi=>hi) n2 ⟨by omega,by omega,by omega⟩;have uw:dz t (N+m+1) w2 base {L with ls:=L.ls.set k ⟨l.sb,RI,RJ,mB,NH,xk⟩} ((g.xz k (sc.once t.pr)).xn k x):=by simp only[Gt.xn,Gt.xz,List.set_set] at h2⊢;exact h2
    have hcq:=xd (l:=⟨l.sb,RI,RJ,mB,NH,xk⟩) g2;have aa3:=HCH.out;have HC:=hid (E6 (by omega) g2 (by omega));have aa4: ∀i∈sB ⟨l.sb,RI,RJ,mB,NH,xk⟩,i∈sB l∨w.heap.size≤i:=fun i hi=>by
     rcases n2 i hi with h1|h1
     ·exact CA.out i h1
     ·exact inr (Nat.le_trans kd.size h1)
    have dW:((g.xz k (sc.once t.pr)).xn k x).pu.may k=M:=(uD M9 x).trans HM.out;have LK:=hid (fun W (kk:I [] w2 W)=>QB (uw.aI kk) (k:=k) By Jb.out (kk.cell (kw2.cell HCG.out HNG.out) (by simp)) (kk.cell (kw2.cell HCS.out HNS.out) (by simp)) (sc.once t.pr).bj ⟨by omega,by omega⟩ (by rw[dW];exact aa3));have KW2:=hid kw2;have aff:=hid aa4;clear g2 k2 n2 kd kw2 h2 uw hcq aa3 aa4 dW HON HQL XV;go_wp2_with fail
    refine HC.out.mono ?_;rintro e3 w3 ⟨rfl,mm,rfl⟩;go_wp2_with fail
    refine(LK.out _ ((I.refl [] _).drewN _)).mono ?_;rintro e4 w4 ⟨rfl,g4,k4⟩;rw[uE] at g4;have G4:=hid g4;have K4:=hid ((KW2.out.drewN mm).trans (k4.mono (by simp)));clear g4 k4 LK HC;go_wp2_with fail
    go_roundw;case rel=>exact⟨m+1,by omega,by go_num,sc.once t.pr,⟨l.sb,RI,RJ,mB,NH,xk⟩,(sc.once t.pr).bj,r',by rw[show N+((m+1:Nat):Int)=N+m+1 by omega];exact G4.out,rfl,aff.out,K4.out,by rw[show 16- (m+1)=16- (m+1) from rfl];exact aa2.out,by omega⟩
    case measure=>simp[intOf];omega
end Go.Proofs.YthffblhdjjbkaaaGreat
