/- TopNever's walk. -/
import Derived.Test.YthffblhdjjbkaaaGreatM27
import Derived.Test.YthffblhdjjbkaaaGreatM46
set_option maxHeartbeats 100000000
set_option maxRecDepth 1000000
open Go.Lib (hid)
open Go.Proofs.Tryz
open Or (inl inr)
namespace Go.Tru
theorem mC.Q2 {F:List Nat} {w w':World} {o:Option Addr} {n c:Nat} {es:List Ev} (h:mC w o n c es) (k:I F w w') (hF: ∀b off,o=some ⟨b,off,none⟩→b∉F):mC w' o n c es:=⟨h.len,h.room,h.nV,h.at_.imp id fun⟨b,off,h1,h2,h3⟩=>⟨b,off,h1,Nat.lt_of_lt_of_le h2 k.size,fun i e he j v hv=>k.cell (h3 i e he j v hv) (hF b off h1)⟩⟩
theorem MS (l:List Ev) (e:Ev):bytesOf (130::cq l)++bytesOf (dm e)=bytesOf (130::cq (l++[e])):=by rw[rW,fV];simp[bytesOf,cq]
theorem xf {s t:List af} {n:Nat} {l:List Ev} (h:Tr n s l t):(cq l).length≤40*l.length:=by
 induction h with
 |nil=>simp[cq]
 |cons h _ _ ih=>rw[gA,List.length_append,List.length_cons];have:=sa h;omega
theorem Fq {s t:List af} {n:Nat} {l:List Ev} (h:Tr n s l t) (k:Nat):(cq (l.take k)).length≤40*l.length:=by
 have e:cq l=cq (l.take k)++cq (l.drop k):=by rw[←fV,List.take_append_drop]
 have h1:=xf h;rw[e,List.length_append] at h1;omega
theorem Fs: ∀k l,1≤(aE k l).1.length
 |0,l=>by simp only[aE,lO];omega
 |k+1,l=>by
  unfold aE;split
  ·simp only[lO];omega
  ·split<;>simp
end Go.Tru
namespace Go.Proofs.YthffblhdjjbkaaaGreat
open Go.RowKit Go.Tru
theorem iG {w w':World} (h:Below w.heap.size w w'):I [] w w':=⟨h.os,h.tape,h.output,h.size,fun k hk _=>h.block k hk⟩
def abE (ds:List Ev) (B b:Nat) (o3:Option Addr) (c3:Nat) (w:World) (x i:Value) (wr:World):Prop:=
 ∃ (k:Nat) (ov:Value),k≤ds.length∧i= .int .i64 k∧x= .string (bytesOf (130::cq (ds.take k)))∧eJ wr B b 2 ov (gR [] (ds.take k)) (decide (k=ds.length))∧(k=0→ov= .slice none 0 0)∧mC wr o3 ds.length c3 ds∧B≤wr.heap.size∧I [b] w wr
theorem xg {t:bq} {w:World} (ht:dt t w) (h0:br<w.heap.size) {to:Nat} (pe:to=1∨to=2∨to=3) (l:List Int) (X:List UInt8) (e:Int) (hX:(Cb.new 8).run X=(jD l,e)) (hl:(iq l).length≤X.length) (hz:X.length≤59000) (he:0≤e∧e≤15) (p:Int):Calls prog 7 #[.agg #[.int .i64 2,.int .i64 to,.int .i64 8,.int .i64 2000,.int .i64 0],.string (bytesOf X),.int .i64 p] w fun r w'=>r= .returned (.tuple #[.string (bytesOf ((nF to).all t.pr (jD l)).1),.int .i64 e])∧I [] w w':=by
 obtain⟨O,hO,h1,h2,h3⟩:=GL (bq.ou t) pe hX hl he;have hh:tt (nJ to)=mf to:=by rcases pe with rfl|rfl|rfl<;>kernel_rfl
 have gp:(nJ to).right=true:=by rcases pe with rfl|rfl|rfl<;>decide
 rw[←hh] at h1 h2;have:=QU ht h0 (nJ to) gp X p hz he (by rw[hh];rfl) h1 h2 h3;rw[←hO];exact this.mono (fun r w' g=>⟨g.1,iG g.2⟩)
theorem MT {t:bq} {w:World} (ht:dt t w) (h0:br<w.heap.size) (to k:Int) (o:Option Addr) (n c:Nat) (xs:List Int) (p:Int) (h:ni w o n c xs) (_: -9223372036854775808≤k∧k≤9223372036854775807):Calls prog 3 #[.int .i64 to,.int .i64 k,.slice o n c,.int .i64 p] w fun r w'=>r= .returned (.bool true)∧I [] w w':=by
 have HT:=hid ht;have HZ:=hid h0;have HWK:=hid (zd ht h0);have kA:(to<1∨3<to∨20<(n:Int))∨(¬to<1∧¬3<to∧¬20<(n:Int)):=by omega
 rcases kA with oY|⟨i1,i2,i3⟩
 ·have Yk:=hid (fun W (kk:I [] w W)=>zd (HT.out.keeps kk (by simp)) (Nat.lt_of_lt_of_le HZ.out kk.size));clear ht h0 h;go_enter func3,ntmps3;go_wp2_with fail
  refine HWK.out.mono ?_;rintro e1 w1 ⟨rfl,b1⟩;have K1:=hid (iG b1);clear b1;by_cases j1:to<1
  ·go_wp2_with fail
   refine(Yk.out w1 K1.out).mono ?_;rintro e2 w2 ⟨rfl,b2⟩;have K2:=hid (K1.out.trans (iG b2));clear b2;go_wp2_with fail
   go_ret;exact⟨rfl,K2.out⟩
  ·by_cases j2:3<to
   ·go_wp2_with fail
    refine(Yk.out w1 K1.out).mono ?_;rintro e2 w2 ⟨rfl,b2⟩;have K2:=hid (K1.out.trans (iG b2));clear b2;go_wp2_with fail
    go_ret;exact⟨rfl,K2.out⟩
   ·have j3:20<(n:Int):=by omega
    go_wp2_with fail
    refine(Yk.out w1 K1.out).mono ?_;rintro e2 w2 ⟨rfl,b2⟩;have K2:=hid (K1.out.trans (iG b2));clear b2;go_wp2_with fail
    go_ret;exact⟨rfl,K2.out⟩
 ·obtain⟨tn,rfl⟩: ∃m:Nat,to=(m:Int):=⟨to.toNat,by omega⟩
  have pe:tn=1∨tn=2∨tn=3:=by omega
  have htr:=Wq xs 6 (by decide);have UI:(doc xs 6).length≤500:=by have h1:=lG 6 xs;have h2:=h.len;unfold doc;omega
  have Yl:1≤(doc xs 6).length:=Fs 6 xs;have Ym:=hid (fun W hW=>SK o n c xs 6 (by omega) (by omega) W hW);obtain⟨h1,h2⟩:=Pa xs;have hlen:(iq xs).length≤20001:=by have:=xf htr;unfold iq;rw[List.length_cons];omega
  have HN1:=hid (fun W (kk:I [] w W) p=>xg (HT.out.keeps kk (by simp)) (Nat.lt_of_lt_of_le HZ.out kk.size) pe xs (iq xs) 3 h1 (Nat.le_refl _) (by omega) ⟨by decide,by decide⟩ p);have rG:=hid (fun W (kk:I [] w W) p (j:Nat)=>xg (HT.out.keeps kk (by simp)) (Nat.lt_of_lt_of_le HZ.out kk.size) pe xs (iq xs++(j5 j).1) (j5 j).2 (h2 j) (by rw[List.length_append];omega) (by
   rw[List.length_append];have:(j5 j).1.length≤5:=by unfold j5;(repeat' split)<;>decide
   omega) (by unfold j5;(repeat' split)<;>decide) p)
  have H:=hid h;have HHB:=hid (show iq xs=130::cq (doc xs 6) from rfl);generalize doc xs 6=ds at htr UI Yl Ym HHB;have YU:=hid htr;have HDL:=hid UI;have HD1:=hid Yl;clear ht h0 h htr UI Yl pe;go_enter func3,ntmps3;go_wp2_with fail
  refine HWK.out.mono ?_;rintro e1 w1 ⟨rfl,b1⟩;have K1:=hid (iG b1);clear b1;go_upto_region 6 with fail;obtain⟨cs,tN⟩: ∃m,w1.heap.size=m:=⟨_,rfl⟩
  have ka:=(I.refl [] w1).alloc (.cells #[.int .i64 2,.int .i64 (tn:Int),.int .i64 8,.int .i64 2000,.int .i64 0] 25);have hz:=Has.aC w1 #[.int .i64 2,.int .i64 (tn:Int),.int .i64 8,.int .i64 2000,.int .i64 0] 25 tN.symm;have kb:=ka.alloc (.cells #[.int .i64 2,.slice none 0 0,.bool false] 29);have gW:=hz.alloc (.cells #[.int .i64 2,.slice none 0 0,.bool false] 29);have fT:=Has.aC (w1.alloc (.cells #[.int .i64 2,.int .i64 (tn:Int),.int .i64 8,.int .i64 2000,.int .i64 0] 25)) #[.int .i64 2,.slice none 0 0,.bool false] 29 (n:=cs+1) (by simp[tN]);try rw[tN]
  obtain⟨w3,jN⟩: ∃w3,(w1.alloc (.cells #[.int .i64 2,.int .i64 (tn:Int),.int .i64 8,.int .i64 2000,.int .i64 0] 25)).alloc (.cells #[.int .i64 2,.slice none 0 0,.bool false] 29)=w3:=⟨_,rfl⟩
  rw[jN] at kb gW fT⊢;have K3:=hid (K1.out.trans kb);have HZ3:=hid gW;have HB3:=hid fT;have pI:w.heap.size≤cs:=by have:=K1.out.size;omega
  have HWC:=hid pI;clear ka hz kb gW fT jN tN pI;go_wp2_with fail
  refine(Ym.out w3 (H.out.keeps K3.out)).mono ?_;rintro e4 w4 ⟨v4,rfl,dx,k4⟩;have Zh:=World.ownsRow.lt dx;obtain⟨o3,c3,rfl,Ij⟩:=xH dx;have K4:=hid (K3.out.trans k4);have HI4:=hid Ij;have HZ4:=hid (HZ3.out.keeps k4 (by simp));have HB4:=hid (HB3.out.keeps k4 (by simp));have ank:=HB3.out.lt;have z4:=k4.size;have Yt:=Ij.nV;have hr4:=Ij.room;unfold maxLen at Yt;have hbo: ∀b' UD,o3=some ⟨b',UD,none⟩→w3.heap.size≤b'∧b'<w4.heap.size:=fun b' UD e=>Zh b' (by rw[e];rfl);have HBO:=hid hbo;clear dx Ij k4 Zh hbo Ym;go_wp2_with fail
  go_loopw [10,45] (fun x i wr=>abE ds w4.heap.size (cs+1) o3 c3 w4 x i wr) (fun _ i _=>ds.length- (intOf i).toNat);case atStart=>
   refine⟨0,.slice none 0 0,Nat.zero_le _,rfl,rfl,⟨?_,ai.nil _ _ _,by simp[aR]⟩,fun _=>rfl,HI4.out,Nat.le_refl _,I.refl _ _⟩;have ga:decide (0=ds.length)=false:=by have:=HD1.out;simp;omega
   rw[ga];exact HB4.out
  case round=>
   obtain⟨j,ov,hj,rfl,rfl,zG,PF,kq,hB,hK⟩:=hrel;have bP:=zG.az.lt;by_cases dD:j<ds.length
   ·obtain⟨b1,f1,rfl,g0,g1,g2,g3,g4⟩:=kq.get dD dD;have abF:ds[j]? =some ds[j]:=List.getElem?_eq_getElem dD;obtain⟨t1,t2,t3⟩:=U6 YU.out j _ abF;have ga:decide (j=ds.length)=false:=by simp;omega
    rw[ga] at zG;have cQ:(bytesOf (130::cq (ds.take j))).size≤30000:=by rw[an,List.length_cons];have:=Fq YU.out j;have:=HDL.out;omega
    have dE:(bytesOf (dm ds[j])).size≤40:=by rw[an];exact sa t1
    have dq:=MS (ds.take j) ds[j];have Ld:ds.take j++[ds[j]]=ds.take (j+1):=by rw[List.take_succ_eq_append_getElem dD]
    rw[Ld] at dq;have qZ:(gR [] (ds.take (j+1))).isEmpty=decide (j+1=ds.length):=by
     by_cases hl:j+1=ds.length
     ·rw[hl,List.take_length,Ws YU.out];simp
     ·have:=t2 (by omega);rcases hc:gR [] (ds.take (j+1)) with _|⟨a,l⟩
      ·rw[hc] at this;simp at this
      ·simp[hl]
    have lz:Hid (∀W,I [] wr W→Calls prog 6 #[.pointer (some ⟨cs+1,0,none⟩),ds[j].val] W (iX W w4.heap.size (cs+1) 2 ov (bytesOf (dm ds[j])) (gR [] (ds.take (j+1))) (decide (j+1=ds.length)))):=hid (fun W kk=>by
     have h:=Wt t1 (zG.keeps kk (by simp) (by simp)) (fun h0=>by
      rcases Nat.eq_zero_or_pos j with BH|BH
      ·exact PF BH
      ·have h1:=(U6 YU.out (j-1) ds[j-1] (List.getElem?_eq_getElem (by omega))).2.1 (by omega);rw[show j-1+1=j by omega,h0] at h1;simp at h1) (Nat.le_trans hB kk.size)
     rw[←t3,qZ] at h;exact h)
    have Ss:=hid kq;have HK:=hid hK;have HFB:=hid hB;have VK: ∀i∈ae ov,w4.heap.size≤i:=fun i hi=>(World.ownsRow.lt zG.bu i (aa.1 hi)).1;have HBL:=hid VK;have BE:=HBO.out b1 f1 rfl;have hi:(j:Int)<(ds.length:Int):=by omega
    have lA: ¬281474976710656<(bytesOf (130::cq (ds.take j))).size+(bytesOf (dm ds[j])).size:=by omega
    obtain⟨X,hX⟩: ∃X,bytesOf (130::cq (ds.take j))=X:=⟨_,rfl⟩
    obtain⟨Y,hY⟩: ∃Y,bytesOf (dm ds[j])=Y:=⟨_,rfl⟩
    rw[hX,hY] at dq lA;rw[hY] at lz;have HX:=hid hX;rw[hX];generalize hae:ds[j]=q at g0 g1 g2 g3 g4 lz;clear hae kq hK hB VK zG PF hX hY cQ dE t1 t2 t3 Ld qZ ga abF;go_wp2_with fail
    refine(lz.out _ ((I.refl [] wr).alloc _)).mono ?_;rintro r w5 ⟨rfl,ov5,abG,k5,yl⟩;have HW5:=hid abG;have agf:=hid ((Ss.out.Q2 ((I.refl [] wr).alloc (.cells #[.int .i64 q.kind,.bool q.yes,.int .u64 q.jM,.string q.text,.int .i64 q.count] 34)) (by simp)).Q2 k5 (fun b' UD e1 hm=>by
     have hh:=HBO.out b' UD e1;rcases List.mem_cons.1 hm with h|h
     ·omega
     ·have:=HBL.out _ h;omega))
    have K5:=hid ((HK.out.alloc (.cells #[.int .i64 q.kind,.bool q.yes,.int .u64 q.jM,.string q.text,.int .i64 q.count] 34)).trans' k5 (fun i hi=>by
     rcases List.mem_cons.1 hi with h|h
     ·exact inl (by rw[h];simp)
     ·exact inr (HBL.out _ h)))
    have hB5:=hid (K5.out.size);clear abG k5 yl;go_wp2_with fail
    go_roundw;case rel=>exact⟨j+1,ov5,by omega,by go_num,rfl,HW5.out,fun h=>by omega,agf.out,hB5.out,K5.out⟩
    case measure=>simp[intOf];omega
   ·have hke:j=ds.length:=by omega
    subst hke;have Ft: ¬ (ds.length:Int)<(ds.length:Int):=by omega
    rw[List.take_length] at*;rw[←HHB.out];have ZI:=hid (K4.out.trans' hK (fun i hi=>inr (by rw[List.mem_singleton] at hi;have:=HWC.out;omega)));have VL:=HZ4.out.keeps hK (by simp);have q0:=VL.cell 0;have q1:=VL.cell 1;have q2:=VL.cell 2;have q3:=VL.cell 3;have q4:=VL.cell 4;have lu:=VL.lt;simp only[List.getElem?_cons_zero,List.getElem?_cons_succ] at q0 q1 q2 q3 q4;have HZC:=hid VL;clear zG PF kq hB hK bP VL;obtain⟨a,ha⟩: ∃a,k.tmod 5=a:=⟨_,rfl⟩
    have hab: -5<a∧a<5:=by have h5:=Int.natAbs_tmod k 5;rw[ha] at h5;have h6:=Nat.mod_lt k.natAbs (show 0<Int.natAbs 5 by decide);rw[←h5] at h6;have h7:Int.natAbs 5=5:=rfl;omega
    obtain⟨b5,yl⟩: ∃b,a+5=b:=⟨_,rfl⟩
    obtain⟨kk,Pc⟩: ∃m:Nat,b5 % 5=(m:Int):=⟨(b5 % 5).toNat,by omega⟩
    have qp:kk<5:=by omega
    have hwB:wrap64 (k.tmod 5+5)=b5:=by rw[ha];unfold wrap64;omega
    have hwC:b5.tmod 5=(kk:Int):=by rw[Int.tmod_eq_emod_of_nonneg (by omega),Pc]
    have hkv:kk=0∨kk=1∨kk=2∨kk=3∨kk=4:=by omega
    have xw:(kk:Int)<5:=by omega
    have anr:(0:Int)≤(kk:Int):=by omega
    have I5:=Has.aC wr #[.string ⟨#[249,60,0]⟩,.string ⟨#[250,0,0,0,0]⟩,.string ⟨#[194,65,5]⟩,.string ⟨#[247]⟩,.string ⟨#[248,32]⟩] 9 (n:=wr.heap.size) rfl;have kc5:=(I.refl [] wr).alloc (.cells #[.string ⟨#[249,60,0]⟩,.string ⟨#[250,0,0,0,0]⟩,.string ⟨#[194,65,5]⟩,.string ⟨#[247]⟩,.string ⟨#[248,32]⟩] 9);have Y2:(wr.alloc (.cells #[.string ⟨#[249,60,0]⟩,.string ⟨#[250,0,0,0,0]⟩,.string ⟨#[194,65,5]⟩,.string ⟨#[247]⟩,.string ⟨#[248,32]⟩] 9)).cell? ⟨wr.heap.size,kk,none⟩=some (.string (bytesOf (j5 kk).1)):=by rw[I5.cell];rcases hkv with rfl|rfl|rfl|rfl|rfl<;>rfl
    have hl5:=I5.lt;have CK:(bytesOf (j5 kk).1).size≤5:=by rw[an];rcases hkv with rfl|rfl|rfl|rfl|rfl<;>decide
    have hhs:(bytesOf (iq xs)).size≤20001:=by rw[an];exact hlen
    have Q3:=aZ (iq xs) (j5 kk).1;have Q4: ¬281474976710656<(bytesOf (iq xs)).size+(bytesOf (j5 kk).1).size:=by omega
    obtain⟨bd,hbd⟩: ∃l,(j5 kk).1=l:=⟨_,rfl⟩
    rw[hbd] at Y2 Q3 Q4;clear ha hab yl Pc I5 CK hhs;go_upto_region 13 with fail;obtain⟨w6,jo⟩: ∃w6,wr.alloc (.cells #[.string ⟨#[249,60,0]⟩,.string ⟨#[250,0,0,0,0]⟩,.string ⟨#[194,65,5]⟩,.string ⟨#[247]⟩,.string ⟨#[248,32]⟩] 9)=w6:=⟨_,rfl⟩
    rw[jo] at kc5⊢;have K6:=hid (ZI.out.trans kc5);have Sj:=HZC.out.keeps kc5 (by simp);have x0:=Sj.cell 0;have x1:=Sj.cell 1;have x2:=Sj.cell 2;have x3:=Sj.cell 3;have x4:=Sj.cell 4;have anu:=Sj.lt;simp only[List.getElem?_cons_zero,List.getElem?_cons_succ] at x0 x1 x2 x3 x4;have HZ6:=hid Sj;clear Y2 jo kc5 Sj hl5 q0 q1 q2 q3 q4 lu;by_cases iA:(kk:Int)<2
    ·have hE:(j5 kk).2=6:=by rcases hkv with rfl|rfl|rfl|rfl|rfl<;>first|rfl|(exfalso;omega)
     have Yn:=hid (rG.out w6 K6.out p kk);rw[hE,hbd] at Yn;have HCB:=hid Q3;have ey:=Q4;go_wp2_with fail
     refine Yn.out.mono ?_;rintro e7 w7 ⟨rfl,k7⟩;have K7:=hid (K6.out.trans k7);have HC2:=hid (HN1.out w7 K7.out p);have I1:=HZ6.out.keeps k7 (by simp);have y0:=I1.cell 0;have y1:=I1.cell 1;have y2:=I1.cell 2;have y3:=I1.cell 3;have y4:=I1.cell 4;have UI:=I1.lt;simp only[List.getElem?_cons_zero,List.getElem?_cons_succ] at y0 y1 y2 y3 y4;clear k7 I1 Yn;go_wp2_with fail
     refine HC2.out.mono ?_;rintro e8 w8 ⟨rfl,k8⟩;have K8:=hid (K7.out.trans k8);clear k8;generalize bytesOf ((nF tn).all t.pr (jD xs)).1=OO;go_wp2_with fail
     go_ret;exact⟨rfl,K8.out⟩
    ·have hE:(j5 kk).2=8:=by rcases hkv with rfl|rfl|rfl|rfl|rfl<;>first|rfl|(exfalso;omega)
     have Yn:=hid (rG.out w6 K6.out p kk);rw[hE,hbd] at Yn;have HCB:=hid Q3;have ey:=Q4;go_wp2_with fail
     refine Yn.out.mono ?_;rintro e7 w7 ⟨rfl,k7⟩;have K7:=hid (K6.out.trans k7);have HC2:=hid (HN1.out w7 K7.out p);have I1:=HZ6.out.keeps k7 (by simp);have y0:=I1.cell 0;have y1:=I1.cell 1;have y2:=I1.cell 2;have y3:=I1.cell 3;have y4:=I1.cell 4;have UI:=I1.lt;simp only[List.getElem?_cons_zero,List.getElem?_cons_succ] at y0 y1 y2 y3 y4;clear k7 I1 Yn;go_wp2_with fail
     refine HC2.out.mono ?_;rintro e8 w8 ⟨rfl,k8⟩;have K8:=hid (K7.out.trans k8);clear k8;generalize bytesOf ((nF tn).all t.pr (jD xs)).1=OO;go_wp2_with fail
     go_ret;exact⟨rfl,K8.out⟩
end Go.Proofs.YthffblhdjjbkaaaGreat
