/- pipe.Pipe.write where all goes well.; A pipe in memory -/
import Derived.Test.YthffblhdjjbkaaaGreatM39
import Derived.Test.YthffblhdjjbkaaaGreatM28
set_option maxHeartbeats 100000000
set_option maxRecDepth 1000000
open Go.Lib (hid)
open Go.Proofs.Tryz
open Or (inl inr)
namespace Go.Proofs.YthffblhdjjbkaaaGreat
open Go.RowKit Go.Tru
theorem sG (t:bq) (base pb ob sb:Nat) (iE ov hv sv:Value) (p:aw) (l:List Ev) (lo:Option Addr) (lc:Nat) (e:Int) (w:World) (h:dh t w base pb ob sb iE ov hv sv p) (he:p.e=0) (hl:jh w lo l.length lc l) (LF: ∀b off,lo=some ⟨b,off,none⟩→b∉gP sb hv sv p.hold) (cS:p.gD t.pr l=true) (lu: ∀v∈l,Clear v∧v.text.size≤1000000) (hlen:l.length≤100000) (di:(p.gZ t.pr l).1.length≤900000) (ak:base≤w.heap.size):Calls prog 97 #[.pointer (some ⟨pb,0,none⟩),.slice lo l.length lc,.int .i64 e] w fun r w'=>r= .returned (.tuple #[.string (bytesOf (p.write t.pr l e).1),.int .i64 e])∧∃oW Pw Cy,dh t w' base pb ob sb iE oW Pw Cy (p.write t.pr l e).2∧o5 (p.write t.pr l e).2.out=o5 p.out∧I (cJ pb ob sb ov hv sv p.hold) w w'∧∀i∈cJ pb ob sb oW Pw Cy (p.write t.pr l e).2.hold,i∈cJ pb ob sb ov hv sv p.hold∨w.heap.size≤i:=by
 have hw:=j7 (e:=e) he cS;rw[hw];have H:=hid h;obtain⟨c0,c1,c2,c3,c4,bP,-,-⟩:=h.cells;have HA:=hid (WY p.out);obtain⟨OT,hOT⟩: ∃OT,o5 p.out=OT:=⟨_,rfl⟩
 have HLI:=hid hl;have HLH:=hid LF;have eN:=hid cS;have qj:=hid lu;have tL:=hid ak;have hA:=HA.out;rw[hOT] at c1 hA;have ZW:=hid hOT;have HE:=hid he;clear hw h he hl LF cS lu ak hOT;obtain⟨OF,hOF⟩: ∃OF,mJ p.out=OF:=⟨_,rfl⟩
 have xA:=hid hOF;clear hOF;go_enter func97,ntmps97;go_wp2_with fail
 go_loopw [27] (fun v27 wr=>∃k:Nat,v27= .int .i64 k∧Hid (Vh t base pb ob sb iE ov hv sv p l lo lc w k wr)) (fun v27 _=>l.length- (RowKit.intOf v27).toNat);case atStart=>have ka:=(I.refl [] w).alloc (.cells #[.pointer none,.slice none 0 0] 132);refine⟨0,rfl,hid ⟨⟨p,[],ov,hv,sv,H.out.aI ka,HE.out,⟨rfl,rfl⟩,gS.new (Has.aC w #[.pointer none,.slice none 0 0] _ rfl),eN.out,rfl,fun i hi=>inl hi,HLH.out,rfl⟩,ka.mono (by simp),HLI.out.keeps ka (by simp),Nat.zero_le _,by simp⟩⟩
 case round=>
  obtain⟨k,rfl,HW⟩:=hrel;rename World=>wr;obtain⟨p1,acc,Cz,iR,xm,mo,LI,wx,xP,AD,xQ,mh,Hr,LJ⟩:=HW.out.ex;obtain⟨-,b1,b2,-,b4,bbl,bf4,-⟩:=mo.cells;by_cases hk:k<l.length
  ·have hd:l.drop k=l[k]::l.drop (k+1):=List.drop_eq_getElem_cons hk;have o8:=AD;rw[hd] at o8;have tB:acc.length+(p1.put t.pr l[k]).1.length≤900000:=by have h1:=congrArg (fun x=>x.1.length) xQ;simp only[List.length_append] at h1;rw[hd,sF o8] at h1;simp only[List.length_append] at h1;omega
   obtain⟨lb,xR,UP,tQ⟩:=HW.out.li.h.get hk hk;subst UP;have xw:(k:Int)<(l.length:Int):=by omega
   have hwk:IntKind.i64.wrap ((k:Int)+1)=((k+1:Nat):Int):=by rw[IntKind.wrap_i64];omega
   have lj:=wx.1;rw[ZW.out] at lj;rw[lj] at b1;clear lj hd;obtain⟨U,hU⟩: ∃U,(l[k]).part=U:=⟨_,rfl⟩
   rw[hU] at tQ;have hUf:U= .nilIface∨∃T u,U= .iface T u:=by rw[←hU];exact p7 _
   rcases hUf with rfl|⟨T,u,rfl⟩
   ·cases tr:p1.hold with
    |none=>
     have ZX:=LJ;rw[tr] at b2;simp only[tA] at b2;have fa:aw.held p1.hold l[k]=([l[k]],0,none):=by rw[tr];rfl
     have Hs:Hid (acc.length+(p1.out.all t.pr [l[k]]).1.length≤900000):=hid (by have h1:=p9 o8;rw[fa] at h1;have h2:=tB;rw[h1] at h2;exact h2)
     have wy:=(I.refl [] wr).alloc (.cells #[.nilIface] 20);have WZ:Hid ((aw.held p1.hold l[k]).1= [l[k]]):=hid (by rw[fa]);have W6:Hid (p1={p1 with hold:=(aw.held p1.hold l[k]).2.2}):=hid (by rw[fa,←tr]);have W9:=hid Hr;have Sd:=hid LJ;have qg:jh (wr.alloc (.cells #[.nilIface] 20)) (some ⟨wr.heap.size,0,none⟩) 1 1 [l[k]]:=by
      have hh:Has (wr.alloc (.cells #[.nilIface] 20)) wr.heap.size ([l[k]].map Ev.part) 20:=by have:=Has.aC wr #[.nilIface] 20 rfl;rw[←hU] at this;rw[←hU];exact this
      exact⟨vd hh rfl (by unfold maxLen;decide),fun b off e=>by injection e with e;injection e with e1 e2;subst e1;exact⟨hh.lt,iU hh⟩⟩
     have Xa:Hid (mK t base pb ob sb iE ov hv sv p l (some ⟨lb,xR,none⟩) lc w iR xm p1 acc [l[k]] (some ⟨wr.heap.size,0,none⟩) 1 0 (wr.alloc (.cells #[.nilIface] 20))):=hid ⟨⟨p1.out,[],Cz,by have:=mo.aI wy;rw[show({p1 with out:=p1.out,e:=0}:aw)=p1 by rw[←LI]];exact this,wx,by rw[List.append_nil];exact xP.gF wy (by simp),by rw[List.drop_zero];have:=(eU o8).2.1;rw[fa] at this;exact this,by simp,mh⟩,HW.out.kp.trans (wy.mono (by simp)),HW.out.li.keeps wy (by simp),qg,Nat.zero_le _,Nat.le_trans HW.out.sz wy.size⟩;clear mo xP mh qg wy fa tB o8 wx;go_wp2_with fail
     go_loopw [52] (fun Ht Xb=>∃j:Nat,Ht= .int .i64 j∧Hid (mK t base pb ob sb iE ov hv sv p l (some ⟨lb,xR,none⟩) lc w iR xm p1 acc [l[k]] (some ⟨wr.heap.size,0,none⟩) 1 j Xb)) (fun Ht _=>([l[k]]).length- (RowKit.intOf Ht).toNat);case atStart=>exact⟨0,rfl,Xa⟩
     case round=>
      obtain⟨j,rfl,HJ⟩:=hrel;rename World=>wj;obtain⟨ps,lL⟩: ∃ps,[l[k]]=ps:=⟨_,rfl⟩
      rw[lL] at HJ;have Hu:=hid lL;try rw[lL]
      obtain⟨o,d,nL,iP,lk,qa,ly,AE,iT⟩:=HJ.out.ex;obtain⟨-,a1,-,-,a4,abl,af4,-⟩:=iP.cells;simp only at a1 a4;by_cases hj:j<ps.length
      ·obtain⟨m1,m2,m3,m4⟩:=lh (by have:=ly;rw[List.drop_eq_getElem_cons hj] at this;exact this);obtain⟨b2,Xc,xO,gJ⟩:=HJ.out.si.h.get hj hj;cases xO;try simp only[Nat.zero_add] at gJ
       have lj:=lk.1;rw[ZW.out] at lj;rw[lj] at a1;have fT:=iP.low;have lz:=hid (oN t m1 m2 m3 iP.sO (Nat.lt_of_lt_of_le fT.1 fT.2.2.1) fT.1 iP.out (Nat.le_trans tL.out (Nat.le_trans (Nat.le_succ _) HJ.out.sz)));have AF:=lk.2;have hinv:=fun(W:World)=>rh o (.pointer (some ⟨ob,0,none⟩)) W;have AG:=fun(a:Array Value) (W:World)=>ri o a W;rw[AF,xA.out,lj] at hinv;rw[AF,xA.out] at AG;rw[AF,xA.out] at lz;have wB:=nz ly AE hj;have wC:acc.length+d.length+(o.step t.pr ps[j]).1.length≤900000:=by
        have h1:=Hs.out;rw[Hu.out] at h1;try dsimp only at wB
        omega
       obtain⟨S,hS⟩: ∃S,bytesOf (o.step t.pr ps[j]).1=S:=⟨_,rfl⟩
       have BI:S.size=(o.step t.pr ps[j]).1.length:=by rw[←hS,an]
       rw[←BI] at wC;have Hv:=hid (fun(w2 w4:World) (Hw:Value) (F:List Nat) (g1:mg w2 base ob Hw (o.step t.pr ps[j]).2.2) (k2:I (fh ob nL) wj w2) (hn: ∀i∈fh ob Hw,i∈fh ob nL∨wj.heap.size≤i)=>HJ.out.next (F:=F) (w4:=w4) hj iP lk ly AE iT tL.out g1 k2 hn);unfold ox at lz;rw[hS] at lz Hv;have xt:=hid iP;have Hx:=hid qa;have HOO:=hid (jE t.pr o ps[j]);obtain⟨U2,PL⟩: ∃U,(ps[j]).part=U:=⟨_,rfl⟩
       rw[PL] at gJ lz;have eI:=congrArg List.length lL;try simp only[List.length_cons,List.length_nil] at eI
       have RZ:(j:Int)<(ps.length:Int):=by omega
       have Xd:(j:Int)<1:=by omega
       have Xe:IntKind.i64.wrap ((j:Int)+1)=((j+1:Nat):Int):=by have:=HJ.out.si.h.nV;have:=HJ.out.si.h.room;unfold maxLen at*;rw[IntKind.wrap_i64];omega
       clear iP lk qa ly AE iT m1 m2 m3 m4 lj AF fT hS BI PL wB lL eI;go_wp2_with fail
       refine lz.out.mono ?_;rintro e2 w2 ⟨rfl,Hw,g1,k2,ju⟩;have oH:=xt.out.rf g1 k2;obtain⟨-,-,-,-,d4,Ca,ZY,-⟩:=oH.cells;have wD:=Hx.out.gF k2 (xt.out.out.jw);have G1:=hid g1;have K2:=hid k2;have rG:=hid ju;have Yx:=hid oH;have Hy:=hid (wD.gF ((I.refl [pb] w2).ax (i:=4) (.int .i64 0)) (fun i hi=>by rw[List.mem_singleton] at hi;rw[hi];exact oH.jw pb ms));have fD:=hid (Nat.le_trans HJ.out.sz k2.size);clear g1 k2 ju oH wD;go_wp2_with fail
       refine(oP _ (w.heap.size+1) w.heap.size (acc++d) S Hy.out (by simpa[World.setCell] using fD.out) (by rw[List.length_append];omega)).mono ?_;rintro e3 w4 ⟨rfl,g4,F,k4,hF⟩;have HN:=hid (Hv.out _ _ _ _ G1.out K2.out (fun i hi=>by
        rcases List.mem_cons.1 hi with rfl|hi
        ·exact inl ms
        ·exact(rG.out i hi).imp (List.mem_cons_of_mem _) id) g4 k4 hF)
       clear g4 k4 hF;go_wp2_with fail
       go_roundw;case rel=>exact⟨j+1,by first|rfl|(congr 1),by first|exact HN|(rw[Hu.out];exact HN)⟩
       case measure=>simp[RowKit.intOf];omega
      ·have eI:=congrArg List.length lL;try simp only[List.length_cons,List.length_nil] at eI
       have RZ: ¬ (j:Int)<(ps.length:Int):=by omega
       have Xd: ¬ (j:Int)<1:=by omega
       have Xf:=hid (HJ.out.done (k:=k) (p1:=p1) hj hk AD xQ (WZ.out.trans Hu.out) W6.out W9.out Sd.out);clear iP lk qa ly AE iT lL eI;go_wp2_with fail
       go_roundw;case rel=>exact⟨k+1,by first|rfl|(congr 1),Xf⟩
       case measure=>simp[RowKit.intOf];omega
    |some s=>
     rw[tr] at b2;simp only[tA] at b2;have hh:=mo.hold;rw[tr] at hh;obtain⟨DT,wE⟩:=hh;obtain⟨⟨PS,E0,S2⟩,gp⟩: ∃r,s.step l[k]=r:=⟨_,rfl⟩
     have fa:aw.held p1.hold l[k]=(PS,E0,some S2):=by rw[tr];simp only[aw.held,gp]
     have hz:E0=0:=by have:=(eU o8).1;rw[fa] at this;exact this
     subst hz;have lu:=qj.out l[k] (List.getElem_mem hk);have PM:S2.Fit:=by have:=dN wE lu.1;rw[gp] at this;exact this
     have wy:=(I.refl [] wr).alloc (.cells #[.nilIface] 20);have jx:base≤(wr.alloc (.cells #[.nilIface] 20)).heap.size:=Nat.le_trans tL.out (Nat.le_trans (Nat.le_trans (Nat.le_succ _) HW.out.sz) wy.size);have Hz:=DO s l[k] lu.1 lu.2 (wr.alloc (.cells #[.nilIface] 20)) base sb iR xm (DT.aI wy) wE jx;rw[gp,hU] at Hz;have Xg:=hid Hz;have Hs:Hid (acc.length+(p1.out.all t.pr PS).1.length≤900000):=hid (by have h1:=p9 o8;rw[fa] at h1;have h2:=tB;rw[h1] at h2;exact h2)
     have dW:p1.out.may t.pr PS=true:=by have:=(eU o8).2.1;rw[fa] at this;exact this
     have LK:=hid dW;have WZ:Hid ((aw.held p1.hold l[k]).1=PS):=hid (by rw[fa]);have W6:Hid (({p1 with hold:=some S2}:aw)={p1 with hold:=(aw.held p1.hold l[k]).2.2}):=hid (by rw[fa]);have Sd:Hid (({p1 with hold:=some S2}:aw).hold.isSome=p.hold.isSome):=hid (by rw[←LJ,tr];rfl);have PH:=hid mo;have Xh:=hid xP;have AI:=hid mh;have PN:=hid Hr;have Xi:=hid wx;have DU:=hid wy;clear mo xP mh wy fa tB o8 wx Hr DT wE lu Hz jx dW;go_wp2_with fail
     refine Xg.out.mono ?_;rintro e5 w5 ⟨v5,rfl,au,jz,xl,H0,LL,H8⟩;obtain⟨so,sc,rfl,xO,Xj⟩:=lX au;simp only at H0 xO⊢;have PO:=(PH.out.aI DU.out).DQ (s:=s) tr H0 PM LL;obtain⟨-,-,-,-,d4,Ca,ZY,-⟩:=PO.cells;simp only at d4;have Nq:=PO.uN 0;have qt:I [pb] w5 (w5.setCell ⟨pb,4,none⟩ (.int .i64 0)):=(I.refl [pb] _).ax _;have dU:gP sb iR xm p1.hold=bM sb iR xm:=by rw[tr];rfl
     have nA: ∀i∈bM sb iR xm,i∈cJ pb ob sb ov hv sv p.hold∨w.heap.size<i:=fun i hi=>AI.out i (List.mem_cons_of_mem _ (List.mem_append_right _ (by rw[dU];exact hi)));have ZZ:w.heap.size<(wr.alloc (.cells #[.nilIface] 20)).heap.size:=Nat.lt_of_lt_of_le HW.out.sz DU.out.size;have DS:ic w5 pb≠some 20:=by rw[iU PO.az];decide
     have W9:Hid (∀b off,some (⟨lb,xR,none⟩:Addr)=some ⟨b,off,none⟩→b∉gP sb jz xl ({p1 with hold:=some S2}:aw).hold):=hid (fun b off e hm=>by
      have dD:=(HW.out.li.ty b off e).1;rcases H8 b hm with h1|h1
      ·exact PN.out b off e (by rw[dU];exact h1)
      ·have:=DU.out.size;omega)
     have Xa:Hid (mK t base pb ob sb iE ov hv sv p l (some ⟨lb,xR,none⟩) lc w jz xl {p1 with hold:=some S2} acc PS so sc 0 (w5.setCell ⟨pb,4,none⟩ (.int .i64 0))):=hid ⟨⟨p1.out,[],Cz,Nq,Xi.out,by rw[List.append_nil];exact((Xh.out.gF DU.out (by simp)).gF LL (fun i hi=>(PH.out.aI DU.out).hold.jw i (by rw[dU];exact hi))).gF qt (fun i hi=>by rw[List.mem_singleton] at hi;rw[hi];exact PO.jw pb ms),by rw[List.drop_zero];exact LK.out,by simp,fun i hi=>by
      rcases List.mem_cons.1 hi with rfl|hi
      ·exact AI.out _ ms
      ·rcases List.mem_append.1 hi with hi|hi
       ·exact AI.out i (List.mem_cons_of_mem _ (List.mem_append_left _ hi))
       ·rcases H8 i hi with h1|h1
        ·exact nA i h1
        ·exact inr (Nat.lt_of_lt_of_le ZZ h1)⟩,((HW.out.kp.trans (DU.out.mono (by simp))).trans' LL (fun i hi=>(nA i hi).imp id (fun h=>by omega))).trans' qt (fun i hi=>by rw[List.mem_singleton] at hi;rw[hi];exact(AI.out pb ms).imp id (fun h=>by omega)),((HW.out.li.keeps DU.out (by simp)).keeps LL (fun b off e hm=>PN.out b off e (by rw[dU];exact hm))).p8 qt (fun i hi=>by rw[List.mem_singleton] at hi;rw[hi];exact DS),xO.p8 qt (fun i hi=>by rw[List.mem_singleton] at hi;rw[hi];exact DS),Nat.zero_le _,Nat.le_trans HW.out.sz (Nat.le_trans DU.out.size (Nat.le_trans LL.size qt.size))⟩
     clear au H0 LL H8 xO Xj PO Nq qt dU nA ZZ DS PM;go_wp2_with fail
     go_loopw [52] (fun Ht Xb=>∃j:Nat,Ht= .int .i64 j∧Hid (mK t base pb ob sb iE ov hv sv p l (some ⟨lb,xR,none⟩) lc w jz xl {p1 with hold:=some S2} acc PS so sc j Xb)) (fun Ht _=>(PS).length- (RowKit.intOf Ht).toNat);case atStart=>exact⟨0,rfl,Xa⟩
     case round=>
      obtain⟨j,rfl,HJ⟩:=hrel;rename World=>wj;obtain⟨ps,lL⟩: ∃ps,PS=ps:=⟨_,rfl⟩
      rw[lL] at HJ;have Hu:=hid lL;try rw[lL]
      obtain⟨o,d,nL,iP,lk,qa,ly,AE,iT⟩:=HJ.out.ex;obtain⟨-,a1,-,-,a4,abl,af4,-⟩:=iP.cells;simp only at a1 a4;by_cases hj:j<ps.length
      ·obtain⟨m1,m2,m3,m4⟩:=lh (by have:=ly;rw[List.drop_eq_getElem_cons hj] at this;exact this);obtain⟨b2,Xc,xO,gJ⟩:=HJ.out.si.h.get hj hj;cases xO;try simp only[Nat.zero_add] at gJ
       have lj:=lk.1;rw[ZW.out] at lj;rw[lj] at a1;have fT:=iP.low;have lz:=hid (oN t m1 m2 m3 iP.sO (Nat.lt_of_lt_of_le fT.1 fT.2.2.1) fT.1 iP.out (Nat.le_trans tL.out (Nat.le_trans (Nat.le_succ _) HJ.out.sz)));have AF:=lk.2;have hinv:=fun(W:World)=>rh o (.pointer (some ⟨ob,0,none⟩)) W;have AG:=fun(a:Array Value) (W:World)=>ri o a W;rw[AF,xA.out,lj] at hinv;rw[AF,xA.out] at AG;rw[AF,xA.out] at lz;have wB:=nz ly AE hj;have wC:acc.length+d.length+(o.step t.pr ps[j]).1.length≤900000:=by
        have h1:=Hs.out;rw[Hu.out] at h1;try dsimp only at wB
        omega
       obtain⟨S,hS⟩: ∃S,bytesOf (o.step t.pr ps[j]).1=S:=⟨_,rfl⟩
       have BI:S.size=(o.step t.pr ps[j]).1.length:=by rw[←hS,an]
       rw[←BI] at wC;have Hv:=hid (fun(w2 w4:World) (Hw:Value) (F:List Nat) (g1:mg w2 base ob Hw (o.step t.pr ps[j]).2.2) (k2:I (fh ob nL) wj w2) (hn: ∀i∈fh ob Hw,i∈fh ob nL∨wj.heap.size≤i)=>HJ.out.next (F:=F) (w4:=w4) hj iP lk ly AE iT tL.out g1 k2 hn);unfold ox at lz;rw[hS] at lz Hv;have xt:=hid iP;have Hx:=hid qa;have HOO:=hid (jE t.pr o ps[j]);obtain⟨U2,PL⟩: ∃U,(ps[j]).part=U:=⟨_,rfl⟩
       rw[PL] at gJ lz;have eI:=congrArg List.length lL;try simp only[List.length_cons,List.length_nil] at eI
       have RZ:(j:Int)<(ps.length:Int):=by omega
       have Xe:IntKind.i64.wrap ((j:Int)+1)=((j+1:Nat):Int):=by have:=HJ.out.si.h.nV;have:=HJ.out.si.h.room;unfold maxLen at*;rw[IntKind.wrap_i64];omega
       clear iP lk qa ly AE iT m1 m2 m3 m4 lj AF fT hS BI PL wB lL eI;go_wp2_with fail
       refine lz.out.mono ?_;rintro e2 w2 ⟨rfl,Hw,g1,k2,ju⟩;have oH:=xt.out.rf g1 k2;obtain⟨-,-,-,-,d4,Ca,ZY,-⟩:=oH.cells;have wD:=Hx.out.gF k2 (xt.out.out.jw);have G1:=hid g1;have K2:=hid k2;have rG:=hid ju;have Yx:=hid oH;have Hy:=hid (wD.gF ((I.refl [pb] w2).ax (i:=4) (.int .i64 0)) (fun i hi=>by rw[List.mem_singleton] at hi;rw[hi];exact oH.jw pb ms));have fD:=hid (Nat.le_trans HJ.out.sz k2.size);clear g1 k2 ju oH wD;go_wp2_with fail
       refine(oP _ (w.heap.size+1) w.heap.size (acc++d) S Hy.out (by simpa[World.setCell] using fD.out) (by rw[List.length_append];omega)).mono ?_;rintro e3 w4 ⟨rfl,g4,F,k4,hF⟩;have HN:=hid (Hv.out _ _ _ _ G1.out K2.out (fun i hi=>by
        rcases List.mem_cons.1 hi with rfl|hi
        ·exact inl ms
        ·exact(rG.out i hi).imp (List.mem_cons_of_mem _) id) g4 k4 hF)
       clear g4 k4 hF;go_wp2_with fail
       go_roundw;case rel=>exact⟨j+1,by first|rfl|(congr 1),by first|exact HN|(rw[Hu.out];exact HN)⟩
       case measure=>simp[RowKit.intOf];omega
      ·have eI:=congrArg List.length lL;try simp only[List.length_cons,List.length_nil] at eI
       have RZ: ¬ (j:Int)<(ps.length:Int):=by omega
       have Xf:=hid (HJ.out.done (k:=k) (p1:=p1) hj hk AD xQ (WZ.out.trans Hu.out) W6.out W9.out Sd.out);clear iP lk qa ly AE iT lL eI;go_wp2_with fail
       go_roundw;case rel=>exact⟨k+1,by first|rfl|(congr 1),Xf⟩
       case measure=>simp[RowKit.intOf];omega
   ·cases tr:p1.hold with
    |none=>
     have ZX:=LJ;rw[tr] at b2;simp only[tA] at b2;have fa:aw.held p1.hold l[k]=([l[k]],0,none):=by rw[tr];rfl
     have Hs:Hid (acc.length+(p1.out.all t.pr [l[k]]).1.length≤900000):=hid (by have h1:=p9 o8;rw[fa] at h1;have h2:=tB;rw[h1] at h2;exact h2)
     have wy:=(I.refl [] wr).alloc (.cells #[.iface T u] 20);have WZ:Hid ((aw.held p1.hold l[k]).1= [l[k]]):=hid (by rw[fa]);have W6:Hid (p1={p1 with hold:=(aw.held p1.hold l[k]).2.2}):=hid (by rw[fa,←tr]);have W9:=hid Hr;have Sd:=hid LJ;have qg:jh (wr.alloc (.cells #[.iface T u] 20)) (some ⟨wr.heap.size,0,none⟩) 1 1 [l[k]]:=by
      have hh:Has (wr.alloc (.cells #[.iface T u] 20)) wr.heap.size ([l[k]].map Ev.part) 20:=by have:=Has.aC wr #[.iface T u] 20 rfl;rw[←hU] at this;rw[←hU];exact this
      exact⟨vd hh rfl (by unfold maxLen;decide),fun b off e=>by injection e with e;injection e with e1 e2;subst e1;exact⟨hh.lt,iU hh⟩⟩
     have Xa:Hid (mK t base pb ob sb iE ov hv sv p l (some ⟨lb,xR,none⟩) lc w iR xm p1 acc [l[k]] (some ⟨wr.heap.size,0,none⟩) 1 0 (wr.alloc (.cells #[.iface T u] 20))):=hid ⟨⟨p1.out,[],Cz,by have:=mo.aI wy;rw[show({p1 with out:=p1.out,e:=0}:aw)=p1 by rw[←LI]];exact this,wx,by rw[List.append_nil];exact xP.gF wy (by simp),by rw[List.drop_zero];have:=(eU o8).2.1;rw[fa] at this;exact this,by simp,mh⟩,HW.out.kp.trans (wy.mono (by simp)),HW.out.li.keeps wy (by simp),qg,Nat.zero_le _,Nat.le_trans HW.out.sz wy.size⟩;clear mo xP mh qg wy fa tB o8 wx;go_wp2_with fail
     go_loopw [52] (fun Ht Xb=>∃j:Nat,Ht= .int .i64 j∧Hid (mK t base pb ob sb iE ov hv sv p l (some ⟨lb,xR,none⟩) lc w iR xm p1 acc [l[k]] (some ⟨wr.heap.size,0,none⟩) 1 j Xb)) (fun Ht _=>([l[k]]).length- (RowKit.intOf Ht).toNat);case atStart=>exact⟨0,rfl,Xa⟩
     case round=>
      obtain⟨j,rfl,HJ⟩:=hrel;rename World=>wj;obtain⟨ps,lL⟩: ∃ps,[l[k]]=ps:=⟨_,rfl⟩
      rw[lL] at HJ;have Hu:=hid lL;try rw[lL]
      obtain⟨o,d,nL,iP,lk,qa,ly,AE,iT⟩:=HJ.out.ex;obtain⟨-,a1,-,-,a4,abl,af4,-⟩:=iP.cells;simp only at a1 a4;by_cases hj:j<ps.length
      ·obtain⟨m1,m2,m3,m4⟩:=lh (by have:=ly;rw[List.drop_eq_getElem_cons hj] at this;exact this);obtain⟨b2,Xc,xO,gJ⟩:=HJ.out.si.h.get hj hj;cases xO;try simp only[Nat.zero_add] at gJ
       have lj:=lk.1;rw[ZW.out] at lj;rw[lj] at a1;have fT:=iP.low;have lz:=hid (oN t m1 m2 m3 iP.sO (Nat.lt_of_lt_of_le fT.1 fT.2.2.1) fT.1 iP.out (Nat.le_trans tL.out (Nat.le_trans (Nat.le_succ _) HJ.out.sz)));have AF:=lk.2;have hinv:=fun(W:World)=>rh o (.pointer (some ⟨ob,0,none⟩)) W;have AG:=fun(a:Array Value) (W:World)=>ri o a W;rw[AF,xA.out,lj] at hinv;rw[AF,xA.out] at AG;rw[AF,xA.out] at lz;have wB:=nz ly AE hj;have wC:acc.length+d.length+(o.step t.pr ps[j]).1.length≤900000:=by
        have h1:=Hs.out;rw[Hu.out] at h1;try dsimp only at wB
        omega
       obtain⟨S,hS⟩: ∃S,bytesOf (o.step t.pr ps[j]).1=S:=⟨_,rfl⟩
       have BI:S.size=(o.step t.pr ps[j]).1.length:=by rw[←hS,an]
       rw[←BI] at wC;have Hv:=hid (fun(w2 w4:World) (Hw:Value) (F:List Nat) (g1:mg w2 base ob Hw (o.step t.pr ps[j]).2.2) (k2:I (fh ob nL) wj w2) (hn: ∀i∈fh ob Hw,i∈fh ob nL∨wj.heap.size≤i)=>HJ.out.next (F:=F) (w4:=w4) hj iP lk ly AE iT tL.out g1 k2 hn);unfold ox at lz;rw[hS] at lz Hv;have xt:=hid iP;have Hx:=hid qa;have HOO:=hid (jE t.pr o ps[j]);obtain⟨U2,PL⟩: ∃U,(ps[j]).part=U:=⟨_,rfl⟩
       rw[PL] at gJ lz;have eI:=congrArg List.length lL;try simp only[List.length_cons,List.length_nil] at eI
       have RZ:(j:Int)<(ps.length:Int):=by omega
       have Xd:(j:Int)<1:=by omega
       have Xe:IntKind.i64.wrap ((j:Int)+1)=((j+1:Nat):Int):=by have:=HJ.out.si.h.nV;have:=HJ.out.si.h.room;unfold maxLen at*;rw[IntKind.wrap_i64];omega
       clear iP lk qa ly AE iT m1 m2 m3 m4 lj AF fT hS BI PL wB lL eI;go_wp2_with fail
       refine lz.out.mono ?_;rintro e2 w2 ⟨rfl,Hw,g1,k2,ju⟩;have oH:=xt.out.rf g1 k2;obtain⟨-,-,-,-,d4,Ca,ZY,-⟩:=oH.cells;have wD:=Hx.out.gF k2 (xt.out.out.jw);have G1:=hid g1;have K2:=hid k2;have rG:=hid ju;have Yx:=hid oH;have Hy:=hid (wD.gF ((I.refl [pb] w2).ax (i:=4) (.int .i64 0)) (fun i hi=>by rw[List.mem_singleton] at hi;rw[hi];exact oH.jw pb ms));have fD:=hid (Nat.le_trans HJ.out.sz k2.size);clear g1 k2 ju oH wD;go_wp2_with fail
       refine(oP _ (w.heap.size+1) w.heap.size (acc++d) S Hy.out (by simpa[World.setCell] using fD.out) (by rw[List.length_append];omega)).mono ?_;rintro e3 w4 ⟨rfl,g4,F,k4,hF⟩;have HN:=hid (Hv.out _ _ _ _ G1.out K2.out (fun i hi=>by
        rcases List.mem_cons.1 hi with rfl|hi
        ·exact inl ms
        ·exact(rG.out i hi).imp (List.mem_cons_of_mem _) id) g4 k4 hF)
       clear g4 k4 hF;go_wp2_with fail
       go_roundw;case rel=>exact⟨j+1,by first|rfl|(congr 1),by first|exact HN|(rw[Hu.out];exact HN)⟩
       case measure=>simp[RowKit.intOf];omega
      ·have eI:=congrArg List.length lL;try simp only[List.length_cons,List.length_nil] at eI
       have RZ: ¬ (j:Int)<(ps.length:Int):=by omega
       have Xd: ¬ (j:Int)<1:=by omega
       have Xf:=hid (HJ.out.done (k:=k) (p1:=p1) hj hk AD xQ (WZ.out.trans Hu.out) W6.out W9.out Sd.out);clear iP lk qa ly AE iT lL eI;go_wp2_with fail
       go_roundw;case rel=>exact⟨k+1,by first|rfl|(congr 1),Xf⟩
       case measure=>simp[RowKit.intOf];omega
    |some s=>
     rw[tr] at b2;simp only[tA] at b2;have hh:=mo.hold;rw[tr] at hh;obtain⟨DT,wE⟩:=hh;obtain⟨⟨PS,E0,S2⟩,gp⟩: ∃r,s.step l[k]=r:=⟨_,rfl⟩
     have fa:aw.held p1.hold l[k]=(PS,E0,some S2):=by rw[tr];simp only[aw.held,gp]
     have hz:E0=0:=by have:=(eU o8).1;rw[fa] at this;exact this
     subst hz;have lu:=qj.out l[k] (List.getElem_mem hk);have PM:S2.Fit:=by have:=dN wE lu.1;rw[gp] at this;exact this
     have wy:=(I.refl [] wr).alloc (.cells #[.iface T u] 20);have jx:base≤(wr.alloc (.cells #[.iface T u] 20)).heap.size:=Nat.le_trans tL.out (Nat.le_trans (Nat.le_trans (Nat.le_succ _) HW.out.sz) wy.size);have Hz:=DO s l[k] lu.1 lu.2 (wr.alloc (.cells #[.iface T u] 20)) base sb iR xm (DT.aI wy) wE jx;rw[gp,hU] at Hz;have Xg:=hid Hz;have Hs:Hid (acc.length+(p1.out.all t.pr PS).1.length≤900000):=hid (by have h1:=p9 o8;rw[fa] at h1;have h2:=tB;rw[h1] at h2;exact h2)
     have dW:p1.out.may t.pr PS=true:=by have:=(eU o8).2.1;rw[fa] at this;exact this
     have LK:=hid dW;have WZ:Hid ((aw.held p1.hold l[k]).1=PS):=hid (by rw[fa]);have W6:Hid (({p1 with hold:=some S2}:aw)={p1 with hold:=(aw.held p1.hold l[k]).2.2}):=hid (by rw[fa]);have Sd:Hid (({p1 with hold:=some S2}:aw).hold.isSome=p.hold.isSome):=hid (by rw[←LJ,tr];rfl);have PH:=hid mo;have Xh:=hid xP;have AI:=hid mh;have PN:=hid Hr;have Xi:=hid wx;have DU:=hid wy;clear mo xP mh wy fa tB o8 wx Hr DT wE lu Hz jx dW;go_wp2_with fail
     refine Xg.out.mono ?_;rintro e5 w5 ⟨v5,rfl,au,jz,xl,H0,LL,H8⟩;obtain⟨so,sc,rfl,xO,Xj⟩:=lX au;simp only at H0 xO⊢;have PO:=(PH.out.aI DU.out).DQ (s:=s) tr H0 PM LL;obtain⟨-,-,-,-,d4,Ca,ZY,-⟩:=PO.cells;simp only at d4;have Nq:=PO.uN 0;have qt:I [pb] w5 (w5.setCell ⟨pb,4,none⟩ (.int .i64 0)):=(I.refl [pb] _).ax _;have dU:gP sb iR xm p1.hold=bM sb iR xm:=by rw[tr];rfl
     have nA: ∀i∈bM sb iR xm,i∈cJ pb ob sb ov hv sv p.hold∨w.heap.size<i:=fun i hi=>AI.out i (List.mem_cons_of_mem _ (List.mem_append_right _ (by rw[dU];exact hi)));have ZZ:w.heap.size<(wr.alloc (.cells #[.iface T u] 20)).heap.size:=Nat.lt_of_lt_of_le HW.out.sz DU.out.size;have DS:ic w5 pb≠some 20:=by rw[iU PO.az];decide
     have W9:Hid (∀b off,some (⟨lb,xR,none⟩:Addr)=some ⟨b,off,none⟩→b∉gP sb jz xl ({p1 with hold:=some S2}:aw).hold):=hid (fun b off e hm=>by
      have dD:=(HW.out.li.ty b off e).1;rcases H8 b hm with h1|h1
      ·exact PN.out b off e (by rw[dU];exact h1)
      ·have:=DU.out.size;omega)
     have Xa:Hid (mK t base pb ob sb iE ov hv sv p l (some ⟨lb,xR,none⟩) lc w jz xl {p1 with hold:=some S2} acc PS so sc 0 (w5.setCell ⟨pb,4,none⟩ (.int .i64 0))):=hid ⟨⟨p1.out,[],Cz,Nq,Xi.out,by rw[List.append_nil];exact((Xh.out.gF DU.out (by simp)).gF LL (fun i hi=>(PH.out.aI DU.out).hold.jw i (by rw[dU];exact hi))).gF qt (fun i hi=>by rw[List.mem_singleton] at hi;rw[hi];exact PO.jw pb ms),by rw[List.drop_zero];exact LK.out,by simp,fun i hi=>by
      rcases List.mem_cons.1 hi with rfl|hi
      ·exact AI.out _ ms
      ·rcases List.mem_append.1 hi with hi|hi
       ·exact AI.out i (List.mem_cons_of_mem _ (List.mem_append_left _ hi))
       ·rcases H8 i hi with h1|h1
        ·exact nA i h1
        ·exact inr (Nat.lt_of_lt_of_le ZZ h1)⟩,((HW.out.kp.trans (DU.out.mono (by simp))).trans' LL (fun i hi=>(nA i hi).imp id (fun h=>by omega))).trans' qt (fun i hi=>by rw[List.mem_singleton] at hi;rw[hi];exact(AI.out pb ms).imp id (fun h=>by omega)),((HW.out.li.keeps DU.out (by simp)).keeps LL (fun b off e hm=>PN.out b off e (by rw[dU];exact hm))).p8 qt (fun i hi=>by rw[List.mem_singleton] at hi;rw[hi];exact DS),xO.p8 qt (fun i hi=>by rw[List.mem_singleton] at hi;rw[hi];exact DS),Nat.zero_le _,Nat.le_trans HW.out.sz (Nat.le_trans DU.out.size (Nat.le_trans LL.size qt.size))⟩
     clear au H0 LL H8 xO Xj PO Nq qt dU nA ZZ DS PM;go_wp2_with fail
     go_loopw [52] (fun Ht Xb=>∃j:Nat,Ht= .int .i64 j∧Hid (mK t base pb ob sb iE ov hv sv p l (some ⟨lb,xR,none⟩) lc w jz xl {p1 with hold:=some S2} acc PS so sc j Xb)) (fun Ht _=>(PS).length- (RowKit.intOf Ht).toNat);case atStart=>exact⟨0,rfl,Xa⟩
     case round=>
      obtain⟨j,rfl,HJ⟩:=hrel;rename World=>wj;obtain⟨ps,lL⟩: ∃ps,PS=ps:=⟨_,rfl⟩
      rw[lL] at HJ;have Hu:=hid lL;try rw[lL]
      obtain⟨o,d,nL,iP,lk,qa,ly,AE,iT⟩:=HJ.out.ex;obtain⟨-,a1,-,-,a4,abl,af4,-⟩:=iP.cells;simp only at a1 a4;by_cases hj:j<ps.length
      ·obtain⟨m1,m2,m3,m4⟩:=lh (by have:=ly;rw[List.drop_eq_getElem_cons hj] at this;exact this);obtain⟨b2,Xc,xO,gJ⟩:=HJ.out.si.h.get hj hj;cases xO;try simp only[Nat.zero_add] at gJ
       have lj:=lk.1;rw[ZW.out] at lj;rw[lj] at a1;have fT:=iP.low;have lz:=hid (oN t m1 m2 m3 iP.sO (Nat.lt_of_lt_of_le fT.1 fT.2.2.1) fT.1 iP.out (Nat.le_trans tL.out (Nat.le_trans (Nat.le_succ _) HJ.out.sz)));have AF:=lk.2;have hinv:=fun(W:World)=>rh o (.pointer (some ⟨ob,0,none⟩)) W;have AG:=fun(a:Array Value) (W:World)=>ri o a W;rw[AF,xA.out,lj] at hinv;rw[AF,xA.out] at AG;rw[AF,xA.out] at lz;have wB:=nz ly AE hj;have wC:acc.length+d.length+(o.step t.pr ps[j]).1.length≤900000:=by
        have h1:=Hs.out;rw[Hu.out] at h1;try dsimp only at wB
        omega
       obtain⟨S,hS⟩: ∃S,bytesOf (o.step t.pr ps[j]).1=S:=⟨_,rfl⟩
       have BI:S.size=(o.step t.pr ps[j]).1.length:=by rw[←hS,an]
       rw[←BI] at wC;have Hv:=hid (fun(w2 w4:World) (Hw:Value) (F:List Nat) (g1:mg w2 base ob Hw (o.step t.pr ps[j]).2.2) (k2:I (fh ob nL) wj w2) (hn: ∀i∈fh ob Hw,i∈fh ob nL∨wj.heap.size≤i)=>HJ.out.next (F:=F) (w4:=w4) hj iP lk ly AE iT tL.out g1 k2 hn);unfold ox at lz;rw[hS] at lz Hv;have xt:=hid iP;have Hx:=hid qa;have HOO:=hid (jE t.pr o ps[j]);obtain⟨U2,PL⟩: ∃U,(ps[j]).part=U:=⟨_,rfl⟩
       rw[PL] at gJ lz;have eI:=congrArg List.length lL;try simp only[List.length_cons,List.length_nil] at eI
       have RZ:(j:Int)<(ps.length:Int):=by omega
       have Xe:IntKind.i64.wrap ((j:Int)+1)=((j+1:Nat):Int):=by have:=HJ.out.si.h.nV;have:=HJ.out.si.h.room;unfold maxLen at*;rw[IntKind.wrap_i64];omega
       clear iP lk qa ly AE iT m1 m2 m3 m4 lj AF fT hS BI PL wB lL eI;go_wp2_with fail
       refine lz.out.mono ?_;rintro e2 w2 ⟨rfl,Hw,g1,k2,ju⟩;have oH:=xt.out.rf g1 k2;obtain⟨-,-,-,-,d4,Ca,ZY,-⟩:=oH.cells;have wD:=Hx.out.gF k2 (xt.out.out.jw);have G1:=hid g1;have K2:=hid k2;have rG:=hid ju;have Yx:=hid oH;have Hy:=hid (wD.gF ((I.refl [pb] w2).ax (i:=4) (.int .i64 0)) (fun i hi=>by rw[List.mem_singleton] at hi;rw[hi];exact oH.jw pb ms));have fD:=hid (Nat.le_trans HJ.out.sz k2.size);clear g1 k2 ju oH wD;go_wp2_with fail
       refine(oP _ (w.heap.size+1) w.heap.size (acc++d) S Hy.out (by simpa[World.setCell] using fD.out) (by rw[List.length_append];omega)).mono ?_;rintro e3 w4 ⟨rfl,g4,F,k4,hF⟩;have HN:=hid (Hv.out _ _ _ _ G1.out K2.out (fun i hi=>by
        rcases List.mem_cons.1 hi with rfl|hi
        ·exact inl ms
        ·exact(rG.out i hi).imp (List.mem_cons_of_mem _) id) g4 k4 hF)
       clear g4 k4 hF;go_wp2_with fail
       go_roundw;case rel=>exact⟨j+1,by first|rfl|(congr 1),by first|exact HN|(rw[Hu.out];exact HN)⟩
       case measure=>simp[RowKit.intOf];omega
      ·have eI:=congrArg List.length lL;try simp only[List.length_cons,List.length_nil] at eI
       have RZ: ¬ (j:Int)<(ps.length:Int):=by omega
       have Xf:=hid (HJ.out.done (k:=k) (p1:=p1) hj hk AD xQ (WZ.out.trans Hu.out) W6.out W9.out Sd.out);clear iP lk qa ly AE iT lL eI;go_wp2_with fail
       go_roundw;case rel=>exact⟨k+1,by first|rfl|(congr 1),Xf⟩
       case measure=>simp[RowKit.intOf];omega
  ·have xw: ¬ (k:Int)<(l.length:Int):=by omega
   have hdn:l.drop k= []:=List.drop_eq_nil_of_le (by omega);rw[hdn] at xQ;simp only[aw.gZ,List.append_nil] at xQ;have Nq:=mo.uN e;have qt:I [pb] wr (wr.setCell ⟨pb,4,none⟩ (.int .i64 e)):=(I.refl [pb] _).ax _;have Z0:=xP.gF qt (fun i hi=>by rw[List.mem_singleton] at hi;rw[hi];exact mo.jw pb ms);have HLS:=hid (Hq (wr.setCell ⟨pb,4,none⟩ (.int .i64 e)) (w.heap.size+1) w.heap.size acc Z0);have kk:=HW.out.kp.trans' qt (fun i hi=>by rw[List.mem_singleton] at hi;rw[hi];exact(mh pb ms).imp id (fun h=>by omega));have HPU:=hid xQ;have HP6:=hid Nq;have KK:=hid kk;have Ss:=hid mh;have AJ:=hid wx.1;have Fu:=tL.out;have Z1:=di;rw[xQ] at Z1;clear mo xP mh wx AD xQ Nq qt Z0 kk hdn Hr;go_wp2_with fail
   refine HLS.out.mono ?_;rintro e3 w4 ⟨rfl,F,k4,hF⟩;have hp7:=HP6.out.AB (B:=w.heap.size+1) (b:=w.heap.size) k4 (fun i hi=>⟨inr (hF i hi).1,(hF i hi).2⟩) ⟨Fu,Nat.le_succ_of_le Fu⟩;have HP7:=hid hp7;have K4:=hid (KK.out.trans' k4 (fun i hi=>inr (by have:=(hF i hi).1;omega)));clear k4 hF hp7;go_wp2_with fail
   go_ret2;rw[HPU.out];exact⟨rfl,Cz,iR,xm,HP7.out,AJ.out,K4.out,fun i hi=>(Ss.out i hi).imp id Nat.le_of_lt⟩
def Mj:Rd→TypeId
 | .js _=>144
 | .cb _=>150
def wM:Rd→Nat
 | .js _=>141
 | .cb _=>169
def wN:Rd→Nat
 | .js _=>140
 | .cb _=>168
def yq (N:Int) (w:World) (base rb:Nat) (F:List Nat):Rd→Prop
 | .js p=>∃mv G,dr w base rb mv p G∧(p.Fit∧p.l.s.length≤1000000)∧F=G++ae mv∧(∀i∈F,base≤i∧i<w.heap.size)
 | .cb p=>∃ov sv,xZ N w base rb ov sv p∧F=cz rb ov sv∧(∀i∈F,base≤i∧i<w.heap.size)
theorem yq.lt {N:Int} {w:World} {base rb:Nat} {F:List Nat} {r:Rd} (h:yq N w base rb F r): ∀i∈F,base≤i∧i<w.heap.size:=by
 cases r with
 |js p=>obtain⟨_,_,_,_,_,h⟩:=h;exact h
 |cb p=>obtain⟨_,_,_,_,h⟩:=h;exact h
theorem yq.keeps {N:Int} {G:List Nat} {w w':World} {base rb:Nat} {F:List Nat} {r:Rd} (h:yq N w base rb F r) (k:I G w w') (hF: ∀i∈F,i∉G):yq N w' base rb F r:=by
 cases r with
 |js p=>obtain⟨mv,H,h1,h2,rfl,h4⟩:=h;refine⟨mv,H,⟨h1.lex.keeps k (fun i hi=>hF i (List.mem_append_left _ hi)),ab h1.maps k (fun i hi=>hF i (List.mem_append_right _ (aa.2 hi))),h1.apart⟩,h2,rfl,fun i hi=>⟨(h4 i hi).1,Nat.lt_of_lt_of_le (h4 i hi).2 k.size⟩⟩
 |cb p=>obtain⟨ov,sv,h1,rfl,h4⟩:=h;exact⟨ov,sv,⟨a8.keeps h1.bG k hF,h1.fit,h1.sR,Nat.le_trans h1.gQ k.size⟩,rfl,fun i hi=>⟨(h4 i hi).1,Nat.lt_of_lt_of_le (h4 i hi).2 k.size⟩⟩
theorem yq.more {N M:Int} {w:World} {base rb:Nat} {F:List Nat} {r:Rd} (h:yq N w base rb F r) (hM:N≤M∧M≤100000000):yq M w base rb F r:=by
 cases r with
 |js p=>exact h
 |cb p=>obtain⟨ov,sv,h1,h3,h4⟩:=h;have hf:=h1.fit;exact⟨ov,sv,⟨h1.bG,⟨hf.core.mono hM.1,hf.none_,hf.head,hf.room,hf.sep⟩,⟨Int.le_trans h1.sR.1 hM.1,hM.2⟩,h1.gQ⟩,h3,h4⟩
def XA (N:Int) (w:World) (base rb:Nat) (F:List Nat) (t:List Ev×Int×Rd) (r:Ending) (w':World):Prop:=
 ∃v,r= .returned (.tuple #[v,.int .i64 t.2.1])∧aP w' w.heap.size v t.1∧∃F',yq N w' base rb F' t.2.2∧I F w w'∧(∀i∈F',i∈F∨w.heap.size≤i)
theorem TT {N:Int} {w:World} {base rb:Nat} {F:List Nat} {r:Rd} (h:yq N w base rb F r) (ak:base≤w.heap.size) (hN:0≤N∧N<100000000) (x:Int) (hx:0≤x∧x≤255) (Af:(r.step x).2.2.O5=true):Calls prog (wM r) #[.pointer (some ⟨rb,0,none⟩),.int .u8 x] w (XA (N+1) w base rb F (r.step x)):=by
 cases r with
 |js p=>
  obtain⟨mv,G,h1,h2,rfl,h4⟩:=h;refine(TQ base rb mv p G x w h1 h2.1 ak hx.1 hx.2).mono ?_;rintro e w' ⟨v,yv,G',rfl,g1,g2,g3,g4,-⟩;refine⟨v,rfl,g1,G'++ae yv,⟨yv,G',g2,⟨Js.dN h2.1 x,by simpa[Rd.O5,Rd.step] using Af⟩,rfl,fun i hi=> ?_⟩,g3,g4⟩;have dD:i<w'.heap.size:=by
   rcases List.mem_append.1 hi with hi|hi
   ·exact g2.lex.1.2 i hi
   ·exact(World.ownsRow.lt g2.maps i (aa.1 hi)).2
  rcases g4 i hi with h|h
  ·exact⟨(h4 i h).1,dD⟩
  ·exact⟨Nat.le_trans ak h,dD⟩
 |cb p=>
  obtain⟨ov,sv,h1,rfl,h4⟩:=h;refine(Iz h1 x hx.1 hx.2).mono ?_;rintro e w' ⟨v,rfl,g1,oW,Cy,g2,g3,g4⟩;refine⟨v,rfl,g1,cz rb oW Cy,⟨oW,Cy,⟨g2,Cb.dN hN.1 h1.fit hx,⟨by omega,by omega⟩,Nat.le_trans ak g3.size⟩,rfl,fun i hi=> ?_⟩,g3,g4⟩;have dD:=oL g2 i hi;rcases g4 i hi with h|h
  ·exact⟨(h4 i h).1,dD⟩
  ·exact⟨Nat.le_trans ak h,dD⟩
theorem Qc {N:Int} {w:World} {base rb:Nat} {F:List Nat} {r:Rd} (h:yq N w base rb F r) (x:Int) (hx:0≤x): ∀v∈(r.step x).1,Clear v:=by
 cases r with
 |js p=>exact Js.pO p x
 |cb p=>obtain⟨ov,sv,h1,-,-⟩:=h;exact pO h1.fit hx
theorem Bf (r:Rd): ∀v∈r.fin.1,Clear v:=by
 cases r with
 |js p=>exact Js.Lb p
 |cb p=>intro v hv;cases hv
theorem TU (r:Rd) (a:Value) (w:World):(method 405 (Mj r) a "Step").run prog w= .ok (wM r,a) w:=by cases r<;>kernel_rfl
theorem Qd (r:Rd) (a:Value) (w:World):(method 405 (Mj r) a "Held").run prog w= .ok (wN r,a) w:=by cases r<;>kernel_rfl
theorem TV (r:Rd) (args:Array Value) (w:World):(callFunc (wM r) args).run prog w= .ok (.enter (wM r) args) w:=by cases r<;>kernel_rfl
theorem Qe (r:Rd) (args:Array Value) (w:World):(callFunc (wN r) args).run prog w= .ok (.enter (wN r) args) w:=by cases r<;>kernel_rfl
theorem Vt (r:Rd) (a:Value) (w:World):(Instr.typeAssert (.iface (Mj r) a) 20 139 true).run prog w= .ok (.tuple #[.iface (Mj r) a,.bool true]) w:=by cases r<;>kernel_rfl
def gu (t:bq) (N:Int) (w:World) (base pb:Nat) (F:List Nat) (p:aw):Prop:=
 ∃ob sb rb ov hv sv G,dh t w base pb ob sb (.iface (Mj p.bG) (.pointer (some ⟨rb,0,none⟩))) ov hv sv p∧yq N w base rb G p.bG∧(∀i∈G,i∉cJ pb ob sb ov hv sv p.hold)∧F=cJ pb ob sb ov hv sv p.hold++G∧base≤w.heap.size
theorem dh.lt {t:bq} {w:World} {base pb ob sb:Nat} {iE ov hv sv:Value} {p:aw} (h:dh t w base pb ob sb iE ov hv sv p): ∀i∈cJ pb ob sb ov hv sv p.hold,base≤i∧i<w.heap.size:=by
 intro i hi;rcases List.mem_cons.1 hi with rfl|hi
 ·exact⟨h.low.2.1,h.az.lt⟩
 ·rcases List.mem_append.1 hi with hi|hi
  ·refine⟨h.far.1 i hi,?_⟩;rcases List.mem_cons.1 hi with rfl|hi
   ·exact h.out.lt.1
   ·exact(h.out.lt.2.2 i hi).2
  ·exact⟨h.far.2 i hi,h.hold.lt i hi⟩
theorem gu.lt {t:bq} {N:Int} {w:World} {base pb:Nat} {F:List Nat} {p:aw} (h:gu t N w base pb F p): ∀i∈F,base≤i∧i<w.heap.size:=by
 obtain⟨ob,sb,rb,ov,hv,sv,G,h1,h2,h3,rfl,h5⟩:=h;intro i hi;rcases List.mem_append.1 hi with hi|hi
 ·exact h1.lt i hi
 ·exact h2.lt i hi
theorem gu.low {t:bq} {N:Int} {w:World} {base pb:Nat} {F:List Nat} {p:aw} (h:gu t N w base pb F p):br<base∧base≤pb∧pb∈F:=by obtain⟨ob,sb,rb,ov,hv,sv,G,h1,h2,h3,rfl,h5⟩:=h;exact⟨h1.low.1,h1.low.2.1,List.mem_append_left _ ms⟩
theorem gu.keeps {t:bq} {N:Int} {G:List Nat} {w w':World} {base pb:Nat} {F:List Nat} {p:aw} (h:gu t N w base pb F p) (k:I G w w') (hF: ∀i∈F,i∉G) (hT: ∀i∈G,br<i):gu t N w' base pb F p:=by obtain⟨ob,sb,rb,ov,hv,sv,R,h1,h2,h3,rfl,h5⟩:=h;exact⟨ob,sb,rb,ov,hv,sv,R,h1.keeps k (fun i hi=>hF i (List.mem_append_left _ hi)) hT,h2.keeps k (fun i hi=>hF i (List.mem_append_right _ hi)),h3,rfl,Nat.le_trans h5 k.size⟩
theorem gu.more {t:bq} {N M:Int} {w:World} {base pb:Nat} {F:List Nat} {p:aw} (h:gu t N w base pb F p) (hM:N≤M∧M≤100000000):gu t M w base pb F p:=by obtain⟨ob,sb,rb,ov,hv,sv,R,h1,h2,h3,rfl,h5⟩:=h;exact⟨ob,sb,rb,ov,hv,sv,R,h1,h2.more hM,h3,rfl,h5⟩
def Qf (t:bq) (N:Int) (w:World) (base pb:Nat) (F:List Nat) (q:List UInt8×Int×aw) (r:Ending) (w':World):Prop:=
 r= .returned (.tuple #[.string (bytesOf q.1),.int .i64 q.2.1])∧∃F',gu t N w' base pb F' q.2.2∧I F w w'∧∀i∈F',i∈F∨w.heap.size≤i
end Go.Proofs.YthffblhdjjbkaaaGreat
