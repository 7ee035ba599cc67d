/- stage.Stage's close; What v.(Begin) -/
import Derived.Test.YthffblhdjjbkaaaGreatM12
import Derived.Test.YthffblhdjjbkaaaGreatM11
set_option maxHeartbeats 100000000
set_option maxRecDepth 1000000
open Go.Lib (hid)
open Go.Proofs.Tryz
open Or (inl inr)
namespace Go.Proofs.YthffblhdjjbkaaaGreat
open Go.RowKit Go.Tru
theorem PG {l:List Ev} {i:Nat} {p:Ev} (h:l[i]? =some p):l.set i p=l:=by
 apply List.ext_getElem?;intro j;by_cases e:i=j
 ·subst e;rw[List.getElem?_set_self (List.getElem?_eq_some_iff.1 h).1,h]
 ·rw[List.getElem?_set_ne e]
theorem Ki (s:St) (c:mq) (r:List mq) (jW:s.open_=c::r) (w:World) (base b:Nat) (hv ov:Value) (h:dR w base b hv ov s) (hf:s.Fit) (he:s.e=0) (ak:base≤w.heap.size):Calls prog 116 #[.pointer (some ⟨b,0,none⟩)] w fun rr w'=>∃v,rr= .returned (.tuple #[v,.int .i64 (s.close c r).2.1])∧aP w' base v (s.close c r).1∧fK w base b hv ov (s.close c r).2.2 w':=by
 obtain⟨⟨p,mo,iP,oH⟩,oI,gJ⟩:=hf.opens c (by rw[jW];exact ms);obtain⟨m,n,hn,Fz,Rn⟩:=Gw iP oH;have nM:c.at_<s.held.length:=(List.getElem?_eq_some_iff.1 mo).1;have hlen:s.held.length≤2000:=by have:=hf.size;have:=hf.lK;omega
 have Yz:r.length+1≤2000:=by have:=hf.cnt;rw[jW] at this;simp only[List.length_cons] at this;omega
 obtain⟨g,cap,rfl,gl,gr,gm,gc,gf⟩:=aP.some_ h.held (by intro e;rw[e] at nM;simp at nM);have fj:=h.bu;rw[jW] at fj;obtain⟨og,mX,rfl,ob,ol,orr,om,oc1,oc2,of⟩:=cG.some_ fj;obtain⟨g0,g1,g2,g3,g4⟩:=cC h.az;obtain⟨f0,f1,f2,f3,f4⟩:=eu h.az;have bP:=h.ks;have H:=hid h;have HF:=hid hf;have HE:=hid he;have Jb:=hid jW;have PH:=hid mo;have ez:=hid Fz;have Zl:=hid Rn;have xt:=hid iP;have HGC:=hid gc;have HGF:=hid gf;have ad5:=hid fj;have oat:(c.at_:Int)<(s.held.length:Int):=by omega
 unfold maxLen at gm om;clear h hf he jW mo Fz Rn iP gc gf fj of;go_enter func116,ntmps116;go_wp2_with fail
 obtain⟨w2,gU⟩: ∃w2,w2=(w.setCell ⟨b,3,none⟩ (.slice (some ⟨og,0,none⟩) r.length mX)).alloc (.cells #[.int .i64 (c.at_:Int),.int .i64 c.parts] 221):=⟨_,rfl⟩
 have xO:=H.out.vy (cG.pop ad5.out) (inl rfl);have fD:dR w2 base b (.slice (some ⟨g,0,none⟩) s.held.length cap) (.slice (some ⟨og,0,none⟩) r.length mX) {s with open_:=r}:=by rw[gU];exact xO.1.aI ((I.refl [] _).alloc _)
 have ef:=xO.2;have iA:I (bM b (.slice (some ⟨g,0,none⟩) s.held.length cap) (.slice (some ⟨og,0,none⟩) (r.length+1) mX)) w w2:=by rw[gU];exact((I.refl _ _).setCell (inl (show b∈bM b _ _ from ms)) _).alloc _
 have Nz:Has w2 w.heap.size c.cells 221:=by rw[gU];exact Has.aC _ _ _ (by simp[World.setCell])
 have lx:w2.heap.size=w.heap.size+1:=by rw[gU];simp[World.setCell]
 rw[←gU];clear gU xO;have BJ:=hid fD;have LB:=hid iA;have nI:=hid ef;have HCC:=hid Nz;have HSZ:=hid lx;have HL3:=hid (fun(w':World) (k:I [] w2 w')=>cC (fD.az.keeps k (by simp)));have HL5:=hid (fun(w':World) (k:I [] w2 w')=>show w'.cell? ⟨w.heap.size,0,none⟩=some (.int .i64 (c.at_:Int))∧w'.cell? ⟨w.heap.size,1,none⟩=some (.int .i64 c.parts) from⟨(Nz.keeps k (by simp)).cell 0,(Nz.keeps k (by simp)).cell 1⟩);have hgc:w2.cell? ⟨g,c.at_,none⟩=some (.iface 215 (.agg #[.bool m,.int .i64 n])):=by obtain⟨g',fB,e1,_,_,_,e2,_⟩:=aP.some_ fD.held (by intro e;simp only[] at e;rw[e] at nM;simp at nM);simp only[Value.slice.injEq,Option.some.injEq,Addr.mk.injEq,and_true] at e1;obtain⟨rfl,_⟩:=e1;rw[e2 c.at_ p PH.out,ez.out]
 have HL7:=hid (fun(w':World) (k:I [] w2 w')=>k.cell hgc (by simp));clear fD iA ef Nz lx hgc g0 g1 g2 g3 g4 f0 f1 f2 f3 f4 oc1 oc2;refine rg (fun w'=>I [] w2 w') ((I.refl [] _).drew) fun HH=> ?_;refine tk 0 HH.out ?_;try simp only[gz]
 refine tk 1 HH.out ?_;try simp only[gz]
 refine tk 2 HH.out ?_;try simp only[gz]
 refine tf 3 HL3.out HH.out ?_;try simp only[gz]
 refine tk 4 HH.out ?_;try simp only[gz]
 refine tf 5 HL5.out HH.out ?_;try simp only[gz]
 refine tk 6 HH.out ?_;try simp only[gz]
 refine tf 7 HL7.out HH.out ?_;try simp only[gz]
 refine tk 8 HH.out ?_;try simp only[gz]
 refine tk 9 HH.out ?_;try simp only[gz]
 refine tk 10 HH.out ?_;try simp only[gz]
 refine tk 11 HH.out ?_;try simp only[gz]
 refine rd 12 fun K hK=> ?_;go_simp;refine hK.out _ _ (by first|exact HH.out.alloc _|exact(I.refl [] _).drew.alloc _|exact((I.refl [] _).alloc _).drew|exact HH.out.setCell (inr (by simp)) _) fun HH=> ?_;clear hK K;refine rd 13 fun K hK=> ?_;go_simp;refine hK.out _ _ (by first|exact HH.out.alloc _|exact(I.refl [] _).drew.alloc _|exact((I.refl [] _).alloc _).drew|exact HH.out.setCell (inr (by simp)) _) fun HH=> ?_;clear hK K;refine tk 14 HH.out ?_;try simp only[gz]
 refine wpAnyH_done (by kernel_rfl) ?_ _;obtain⟨c0,c1⟩:=HL5.out w2 (I.refl _ _);obtain⟨g0,g1,g2,g3,g4⟩:=HL3.out w2 (I.refl _ _);obtain⟨f0,f1,f2,f3,f4⟩:=eu BJ.out.az;have WV:w.heap.size<w2.heap.size:=by rw[HSZ.out];omega
 have rN:b<w2.heap.size:=by omega
 have akX:g<w2.heap.size:=by omega
 by_cases WW:n<0
 ·cases m
  ·go_wp2_with fail
   obtain⟨w3,jN⟩: ∃w3,w3=(w2.alloc (.cells #[.bool false,.int .i64 c.parts] 215)).drew:=⟨_,rfl⟩
   have wu:I [] w2 w3:=by rw[jN];exact((I.refl [] _).alloc _).drew
   have oV:Has w3 w2.heap.size [.bool false,.int .i64 c.parts] 215:=by rw[jN];exact Has.aC _ _ _ rfl
   have R9:w2.heap.size<w3.heap.size:=by rw[jN];simp
   rw[←jN];clear jN c0 c1 g0 g1 g2 g3 g4 f0 f1 f2 f3 f4;have lr:b≠g:=fun e=>BJ.out.bh (by rw[aa,e];rfl);have Cc:=hid (BJ.out.aI wu);have HM3:=hid (fun(w':World) (k:I [g] w3 w')=>cC (Cc.out.az.keeps k (by simpa using lr)));have HM5:=hid (fun(w':World) (k:I [g] w3 w')=>show w'.cell? ⟨w.heap.size,0,none⟩=some (.int .i64 (c.at_:Int)) from((HCC.out.keeps wu (by simp)).keeps k (by simp;omega)).cell 0);have HM6:=hid (fun(w':World) (k:I [g] w3 w')=>show w'.cell? ⟨w2.heap.size,0,none⟩=some (.bool false)∧w'.cell? ⟨w2.heap.size,1,none⟩=some (.int .i64 c.parts) from⟨(oV.keeps k (by simp;omega)).cell 0,(oV.keeps k (by simp;omega)).cell 1⟩);have Hm:w3.cell? ⟨g,c.at_,none⟩=some (.iface 215 (.agg #[.bool false,.int .i64 n])):=HL7.out w3 wu;have Hn:w3.frozen? ⟨g,c.at_,none⟩=false:=by obtain⟨g',fB,e1,_,_,_,_,e2⟩:=aP.some_ Cc.out.held (by intro e;simp only[] at e;rw[e] at nM;simp at nM);simp only[Value.slice.injEq,Option.some.injEq,Addr.mk.injEq,and_true] at e1;obtain⟨rfl,_⟩:=e1;exact e2 _
   have hq:p.kB c.parts=aN c.parts:=by
    have e:=Zl.out;simp only[af.of,af.mk.injEq] at e;have hk:p.kind=5∨p.kind=6:=by simpa[bQ] using oH
    rcases xt.out with rfl|⟨b,rfl⟩|⟨n,m,rfl⟩|⟨s,rfl⟩|⟨s,rfl⟩|⟨k,hk,rfl⟩|⟨k,hk,rfl⟩|rfl;all_goals first
     |(simp[ar,aq,ay,ah,dv,aL] at hk;done)
     |(simp[aN,aO] at e;done)
     |(have e2:=e.2.1;simp only[aN] at e2;subst e2;simp[Ev.kB,Ev.loose,aN,WW])
   have bn:dV s.held c.at_ c.parts=s.held.set c.at_ (aN c.parts):=by unfold dV;rw[PH.out,←hq]
   have iJ:=hid bn;have K23:=hid wu;have Vg:(aN c.parts).part= .iface 215 (.agg #[.bool false,.int .i64 c.parts]):=eC _;clear wu oV hq bn;go_wp2_with fail
   refine rg (fun w'=>I [g] w3 w') ((I.refl [g] _).drew) fun HH=> ?_;refine tk 0 HH.out ?_;try simp only[gz]
   refine tk 1 HH.out ?_;try simp only[gz]
   refine tk 2 HH.out ?_;try simp only[gz]
   refine tf 3 HM3.out HH.out ?_;try simp only[gz]
   refine tk 4 HH.out ?_;try simp only[gz]
   refine tf 5 HM5.out HH.out ?_;try simp only[gz]
   refine tf 6 HM6.out HH.out ?_;try simp only[gz]
   refine tk 7 HH.out ?_;try simp only[gz]
   refine tk 8 HH.out ?_;try simp only[gz]
   refine rd 9 fun K hK=> ?_;go_simp;refine hK.out _ _ (by first|exact HH.out.alloc _|exact(I.refl [g] _).drew.alloc _|exact((I.refl [g] _).alloc _).drew|exact HH.out.ax _) fun HH=> ?_;clear hK K;refine wpAnyH_done (by kernel_rfl) ?_ _;have ur:=dR.setAt (s:={s with open_:=r}) Cc.out c.at_ (aN c.parts);rw[Vg] at ur;have cy:dR (w3.setCell ⟨g,c.at_,none⟩ (.iface 215 (.agg #[.bool false,.int .i64 c.parts]))).drew base b (.slice (some ⟨g,0,none⟩) s.held.length cap) (.slice (some ⟨og,0,none⟩) r.length mX) {s with open_:=r,held:=dV s.held c.at_ c.parts}:=by rw[iJ.out];exact ur.aI (I.refl [] _).drew
   have PI:I (bM b (.slice (some ⟨g,0,none⟩) s.held.length cap) (.slice (some ⟨og,0,none⟩) (r.length+1) mX)) w (w3.setCell ⟨g,c.at_,none⟩ (.iface 215 (.agg #[.bool false,.int .i64 c.parts]))).drew:=((LB.out.trans (K23.out.mono (by simp))).setCell (inl (show g∈bM b _ _ from List.mem_cons_of_mem _ (List.mem_append_left _ (by rw[aa];rfl)))) _).drew;clear ur Hm Hn Vg;have SX:=hid (fun i (hi:i∈bM b (.slice (some ⟨g,0,none⟩) s.held.length cap) (.slice (some ⟨og,0,none⟩) r.length mX))=>(inl (nI.out i hi):i∈bM b (.slice (some ⟨g,0,none⟩) s.held.length cap) (.slice (some ⟨og,0,none⟩) (r.length+1) mX)∨w.heap.size≤i));obtain⟨g0,g1,g2,g3,g4⟩:=cC cy.az;obtain⟨f0,f1,f2,f3,f4⟩:=eu cy.az;have I2:=PI.size;have HX:=hid cy;have KX:=hid PI;clear cy PI;cases r with
   |nil=>
    go_wp2_with (at_builtin;go_must (refine nj rfl _ _ rfl base _ (dV s.held c.at_ c.parts) rfl (ab HX.out.held ((I.refl [] _).alloc _) (by simp)) ⟨_,0,none⟩ 1 1 [aL] rfl rfl (oO rfl (by first|(simp;done)|simp[World.setCell])) (by rw[dI];omega) (Nat.le_trans ak (KX.out.alloc _).size) ?_))
    intro v4 w4 dx re my tw;obtain⟨o4,c4,tx⟩:=aP.shape dx;rw[List.length_append,List.length_singleton,dI] at tx;subst tx;have di:=sD HX.out dx (((I.refl _ _).alloc _).trans re) (tw.imp id (fun h=>⟨_,h,by simp⟩));have nK:=(HX.out.az.alloc _).keeps re HX.out.bh;obtain⟨g0,g1,g2,g3,g4⟩:=cC nK;obtain⟨f0,f1,f2,f3,f4⟩:=eu nK;have DN:=hid di;clear di nK dx re my tw;go_wp2_with fail
    go_ret2;exact⟨_,rfl,DN.out.1,fK.trans KX.out SX.out DN.out.2⟩
   |cons c' r'=>
    have gw:=mz {s with open_:=c'::r',held:=dV s.held c.at_ c.parts} aL (inr (inr (inr (inr (inr (inr (inr rfl))))))) (by decide) _ base b _ _ HX.out ⟨HE.out,by have:=HF.out.size;have:=HF.out.lK;simp only[];omega,HF.out.lK,by simp only[dI];omega,by omega⟩;rw[iQ] at gw;have ZU:=hid gw;clear gw;go_wp2_with fail
    refine ZU.out.mono ?_;rintro e w5 ⟨rfl,aM⟩;have Kj:=hid aM;clear aM;go_wp2_with fail
    go_ret2;exact⟨_,rfl,aP.nil _ _,fK.trans KX.out SX.out Kj.out⟩
  ·go_wp2_with fail
   obtain⟨w3,jN⟩: ∃w3,w3=(w2.alloc (.cells #[.bool true,.int .i64 (c.parts/2)] 215)).drew:=⟨_,rfl⟩
   have wu:I [] w2 w3:=by rw[jN];exact((I.refl [] _).alloc _).drew
   have oV:Has w3 w2.heap.size [.bool true,.int .i64 (c.parts/2)] 215:=by rw[jN];exact Has.aC _ _ _ rfl
   have R9:w2.heap.size<w3.heap.size:=by rw[jN];simp
   rw[←jN];clear jN c0 c1 g0 g1 g2 g3 g4 f0 f1 f2 f3 f4;have lr:b≠g:=fun e=>BJ.out.bh (by rw[aa,e];rfl);have Cc:=hid (BJ.out.aI wu);have HM3:=hid (fun(w':World) (k:I [g] w3 w')=>cC (Cc.out.az.keeps k (by simpa using lr)));have HM5:=hid (fun(w':World) (k:I [g] w3 w')=>show w'.cell? ⟨w.heap.size,0,none⟩=some (.int .i64 (c.at_:Int)) from((HCC.out.keeps wu (by simp)).keeps k (by simp;omega)).cell 0);have HM6:=hid (fun(w':World) (k:I [g] w3 w')=>show w'.cell? ⟨w2.heap.size,0,none⟩=some (.bool true)∧w'.cell? ⟨w2.heap.size,1,none⟩=some (.int .i64 (c.parts/2)) from⟨(oV.keeps k (by simp;omega)).cell 0,(oV.keeps k (by simp;omega)).cell 1⟩);have Hm:w3.cell? ⟨g,c.at_,none⟩=some (.iface 215 (.agg #[.bool true,.int .i64 n])):=HL7.out w3 wu;have Hn:w3.frozen? ⟨g,c.at_,none⟩=false:=by obtain⟨g',fB,e1,_,_,_,_,e2⟩:=aP.some_ Cc.out.held (by intro e;simp only[] at e;rw[e] at nM;simp at nM);simp only[Value.slice.injEq,Option.some.injEq,Addr.mk.injEq,and_true] at e1;obtain⟨rfl,_⟩:=e1;exact e2 _
   have hq:p.kB c.parts=aO (c.parts/2):=by
    have e:=Zl.out;simp only[af.of,af.mk.injEq] at e;have hk:p.kind=5∨p.kind=6:=by simpa[bQ] using oH
    rcases xt.out with rfl|⟨b,rfl⟩|⟨n,m,rfl⟩|⟨s,rfl⟩|⟨s,rfl⟩|⟨k,hk,rfl⟩|⟨k,hk,rfl⟩|rfl;all_goals first
     |(simp[ar,aq,ay,ah,dv,aL] at hk;done)
     |(simp[aN,aO] at e;done)
     |(have e2:=e.2.1;simp only[aO] at e2;subst e2;simp[Ev.kB,Ev.loose,aO,WW])
   have bn:dV s.held c.at_ c.parts=s.held.set c.at_ (aO (c.parts/2)):=by unfold dV;rw[PH.out,←hq]
   have iJ:=hid bn;have K23:=hid wu;have Vg:(aO (c.parts/2)).part= .iface 215 (.agg #[.bool true,.int .i64 (c.parts/2)]):=eD _;clear wu oV hq bn;go_wp2_with fail
   refine rg (fun w'=>I [g] w3 w') ((I.refl [g] _).drew) fun HH=> ?_;refine tk 0 HH.out ?_;try simp only[gz]
   refine tk 1 HH.out ?_;try simp only[gz]
   refine tk 2 HH.out ?_;try simp only[gz]
   refine tf 3 HM3.out HH.out ?_;try simp only[gz]
   refine tk 4 HH.out ?_;try simp only[gz]
   refine tf 5 HM5.out HH.out ?_;try simp only[gz]
   refine tf 6 HM6.out HH.out ?_;try simp only[gz]
   refine tk 7 HH.out ?_;try simp only[gz]
   refine tk 8 HH.out ?_;try simp only[gz]
   refine rd 9 fun K hK=> ?_;go_simp;refine hK.out _ _ (by first|exact HH.out.alloc _|exact(I.refl [g] _).drew.alloc _|exact((I.refl [g] _).alloc _).drew|exact HH.out.ax _) fun HH=> ?_;clear hK K;refine wpAnyH_done (by kernel_rfl) ?_ _;have ur:=dR.setAt (s:={s with open_:=r}) Cc.out c.at_ (aO (c.parts/2));rw[Vg] at ur;have cy:dR (w3.setCell ⟨g,c.at_,none⟩ (.iface 215 (.agg #[.bool true,.int .i64 (c.parts/2)]))).drew base b (.slice (some ⟨g,0,none⟩) s.held.length cap) (.slice (some ⟨og,0,none⟩) r.length mX) {s with open_:=r,held:=dV s.held c.at_ c.parts}:=by rw[iJ.out];exact ur.aI (I.refl [] _).drew
   have PI:I (bM b (.slice (some ⟨g,0,none⟩) s.held.length cap) (.slice (some ⟨og,0,none⟩) (r.length+1) mX)) w (w3.setCell ⟨g,c.at_,none⟩ (.iface 215 (.agg #[.bool true,.int .i64 (c.parts/2)]))).drew:=((LB.out.trans (K23.out.mono (by simp))).setCell (inl (show g∈bM b _ _ from List.mem_cons_of_mem _ (List.mem_append_left _ (by rw[aa];rfl)))) _).drew;clear ur Hm Hn Vg;have SX:=hid (fun i (hi:i∈bM b (.slice (some ⟨g,0,none⟩) s.held.length cap) (.slice (some ⟨og,0,none⟩) r.length mX))=>(inl (nI.out i hi):i∈bM b (.slice (some ⟨g,0,none⟩) s.held.length cap) (.slice (some ⟨og,0,none⟩) (r.length+1) mX)∨w.heap.size≤i));obtain⟨g0,g1,g2,g3,g4⟩:=cC cy.az;obtain⟨f0,f1,f2,f3,f4⟩:=eu cy.az;have I2:=PI.size;have HX:=hid cy;have KX:=hid PI;clear cy PI;cases r with
   |nil=>
    go_wp2_with (at_builtin;go_must (refine nj rfl _ _ rfl base _ (dV s.held c.at_ c.parts) rfl (ab HX.out.held ((I.refl [] _).alloc _) (by simp)) ⟨_,0,none⟩ 1 1 [aL] rfl rfl (oO rfl (by first|(simp;done)|simp[World.setCell])) (by rw[dI];omega) (Nat.le_trans ak (KX.out.alloc _).size) ?_))
    intro v4 w4 dx re my tw;obtain⟨o4,c4,tx⟩:=aP.shape dx;rw[List.length_append,List.length_singleton,dI] at tx;subst tx;have di:=sD HX.out dx (((I.refl _ _).alloc _).trans re) (tw.imp id (fun h=>⟨_,h,by simp⟩));have nK:=(HX.out.az.alloc _).keeps re HX.out.bh;obtain⟨g0,g1,g2,g3,g4⟩:=cC nK;obtain⟨f0,f1,f2,f3,f4⟩:=eu nK;have DN:=hid di;clear di nK dx re my tw;go_wp2_with fail
    go_ret2;exact⟨_,rfl,DN.out.1,fK.trans KX.out SX.out DN.out.2⟩
   |cons c' r'=>
    have gw:=mz {s with open_:=c'::r',held:=dV s.held c.at_ c.parts} aL (inr (inr (inr (inr (inr (inr (inr rfl))))))) (by decide) _ base b _ _ HX.out ⟨HE.out,by have:=HF.out.size;have:=HF.out.lK;simp only[];omega,HF.out.lK,by simp only[dI];omega,by omega⟩;rw[iQ] at gw;have ZU:=hid gw;clear gw;go_wp2_with fail
    refine ZU.out.mono ?_;rintro e w5 ⟨rfl,aM⟩;have Kj:=hid aM;clear aM;go_wp2_with fail
    go_ret2;exact⟨_,rfl,aP.nil _ _,fK.trans KX.out SX.out Kj.out⟩
 ·have bn:dV s.held c.at_ c.parts=s.held:=by
   unfold dV;rw[PH.out];have e:=Zl.out;simp only[af.of,af.mk.injEq] at e;have hl:p.loose=false:=by unfold Ev.loose;rw[e.2.1];simp[WW]
   simp only[Ev.kB,hl,Bool.false_eq_true,if_false];exact PG PH.out
  have cy:dR (w2.alloc (.cells #[.bool m,.int .i64 n] 215)).drew base b (.slice (some ⟨g,0,none⟩) s.held.length cap) (.slice (some ⟨og,0,none⟩) r.length mX) {s with open_:=r,held:=dV s.held c.at_ c.parts}:=by rw[bn];exact BJ.out.aI ((I.refl [] _).alloc _).drew
  have PI:I (bM b (.slice (some ⟨g,0,none⟩) s.held.length cap) (.slice (some ⟨og,0,none⟩) (r.length+1) mX)) w (w2.alloc (.cells #[.bool m,.int .i64 n] 215)).drew:=(LB.out.alloc _).drew;clear bn;have SX:=hid (fun i (hi:i∈bM b (.slice (some ⟨g,0,none⟩) s.held.length cap) (.slice (some ⟨og,0,none⟩) r.length mX))=>(inl (nI.out i hi):i∈bM b (.slice (some ⟨g,0,none⟩) s.held.length cap) (.slice (some ⟨og,0,none⟩) (r.length+1) mX)∨w.heap.size≤i));obtain⟨g0,g1,g2,g3,g4⟩:=cC cy.az;obtain⟨f0,f1,f2,f3,f4⟩:=eu cy.az;have I2:=PI.size;have HX:=hid cy;have KX:=hid PI;clear cy PI;cases r with
  |nil=>
   go_wp2_with (at_builtin;go_must (refine nj rfl _ _ rfl base _ (dV s.held c.at_ c.parts) rfl (ab HX.out.held ((I.refl [] _).alloc _) (by simp)) ⟨_,0,none⟩ 1 1 [aL] rfl rfl (oO rfl (by first|(simp;done)|simp[World.setCell])) (by rw[dI];omega) (Nat.le_trans ak (KX.out.alloc _).size) ?_))
   intro v4 w4 dx re my tw;obtain⟨o4,c4,tx⟩:=aP.shape dx;rw[List.length_append,List.length_singleton,dI] at tx;subst tx;have di:=sD HX.out dx (((I.refl _ _).alloc _).trans re) (tw.imp id (fun h=>⟨_,h,by simp⟩));have nK:=(HX.out.az.alloc _).keeps re HX.out.bh;obtain⟨g0,g1,g2,g3,g4⟩:=cC nK;obtain⟨f0,f1,f2,f3,f4⟩:=eu nK;have DN:=hid di;clear di nK dx re my tw;go_wp2_with fail
   go_ret2;exact⟨_,rfl,DN.out.1,fK.trans KX.out SX.out DN.out.2⟩
  |cons c' r'=>
   have gw:=mz {s with open_:=c'::r',held:=dV s.held c.at_ c.parts} aL (inr (inr (inr (inr (inr (inr (inr rfl))))))) (by decide) _ base b _ _ HX.out ⟨HE.out,by have:=HF.out.size;have:=HF.out.lK;simp only[];omega,HF.out.lK,by simp only[dI];omega,by omega⟩;rw[iQ] at gw;have ZU:=hid gw;clear gw;go_wp2_with fail
   refine ZU.out.mono ?_;rintro e w5 ⟨rfl,aM⟩;have Kj:=hid aM;clear aM;go_wp2_with fail
   go_ret2;exact⟨_,rfl,aP.nil _ _,fK.trans KX.out SX.out Kj.out⟩
theorem Ny (l:List mq):(fC l).length=l.length:=by cases l<;>rfl
theorem rM {p:Ev} (h:Clear p): ∃ (m:Bool) (n:Int),(∀w,(Instr.typeAssert p.part 20 215 true).run prog w= .ok (.tuple #[.agg #[.bool m,.int .i64 n],.bool (bQ p)]) w)∧(∀w,(Instr.typeAssert p.part 20 218 true).run prog w= .ok (.tuple #[.agg #[],.bool (decide (p.kind=7))]) w)∧(bQ p=true→p.count=n):=by
 rcases h with rfl|⟨b,rfl⟩|⟨n,m,rfl⟩|⟨s,rfl⟩|⟨s,rfl⟩|⟨n,hn,rfl⟩|⟨n,hn,rfl⟩|rfl
 ·exact⟨false,0,zC,zD,fun h=>by simp[bQ,ar] at h⟩
 ·exact⟨false,0,xB _,xC _,fun h=>by simp[bQ,aq] at h⟩
 ·exact⟨false,0,uV _,uW _,fun h=>by simp[bQ,ay] at h⟩
 ·exact⟨false,0,xD _,xE _,fun h=>by simp[bQ,ah] at h⟩
 ·exact⟨false,0,xF _,xG _,fun h=>by simp[bQ,dv] at h⟩
 ·exact⟨false,n,nX _,nY _,fun _=>rfl⟩
 ·exact⟨true,n,nX _,nY _,fun _=>rfl⟩
 ·exact⟨false,0,uX _,uY _,fun h=>by simp[bQ,aL] at h⟩
theorem ownsRow_lit {w:World} {base g n:Nat} {e:TypeId} {size:Nat} {xs:List Value} (h:Has w g xs e) (hb:base≤g) (hl:xs.length=n*size) (hn:n≤maxLen):w.ownsRow base e size (.slice (some ⟨g,0,none⟩) n n) n xs:=⟨hl,inr ⟨g,n,xs.toArray,rfl,hb,h,Nat.le_refl _,hn,by simp[hl],by simp[←hl]⟩⟩
theorem n8 {p:Ev} {pv:Value} (oU:p.part=pv) {w:World} {base g:Nat} (hg:g=w.heap.size) (hb:base≤g):aP (w.alloc (.cells #[pv] 20)) base (.slice (some ⟨g,0,none⟩) 1 1) [p]:=by subst oU hg;exact ownsRow_lit (Has.new w ([p].map Ev.part) 20) hb rfl (by simp[maxLen])
theorem PJ:(Tryz.prog.info? 221).map (fun i=>(i.zero,i.size,i.bytes))=some (some (.agg #[.int .i64 0,.int .i64 0]),2,16):=by kernel_rfl
theorem pn {o:Oper} {a:Act} {w:World} {K:Act→World→Prop} {Q:Exit→Act→World→Prop} (s x:Operand) (ho:o.op= .call {callee:= .builtin .append,args:= #[s,x],argTypes:= #[173,173]}) (base:Nat) (v:Value) (l:List mq) (hs:a.eval s=v) (au:cG w base v l) (ad:Addr) (c:mq) (hx:a.eval x= .slice (some ad) 1 1) (fO: ∀ (j:Nat) (u:Value),c.cells[j]? =some u→w.cell? (ad.add j)=some u) (hlen:l.length≤1000000) (ak:base≤w.heap.size) (h: ∀v' w',cG w' base v' (c::l)→I (ae v) w w'→(v'.ownBlock=v.ownBlock∨v'.ownBlock=some w.heap.size)→K (a.put o.dst v') w'):Oper.wp prog o a w K Q:=by obtain⟨i0,hi,ko,gv,gW⟩:=info_parts PJ;obtain⟨v',w',hr,h2,h3,_,h5⟩:=run_append_own_at (P:=prog) w base 173 o.type 221 i0 (.agg #[.int .i64 0,.int .i64 0]) 2 16 underlying173 hi ko gv gW rfl (by decide) v l.length (jg l) au ad 1 1 c.cells rfl fO (Tu c) (by unfold maxLen;omega) (by omega) ak;unfold Oper.wp execOp;simp only[ho,resolve,invoke,builtin,Sem.run_bind,Sem.run_pure,Result.andThen_ok,List.map_toArray,List.map_cons,List.map_nil,hs,hx,hr];refine h v' w' ?_ (cD h3) h5;unfold cG;rw[ib];exact h2
theorem _root_.Go.Tru.dR.Jc {w w2:World} {base b:Nat} {hv ov v2:Value} {s:St} {l:List mq} (h:dR w base b hv ov s) (au:cG w2 base v2 l) (k:I (ae ov) w w2) (hb:v2.ownBlock=ov.ownBlock∨∃n,v2.ownBlock=some n∧w.heap.size≤n):dR (w2.setCell ⟨b,3,none⟩ v2) base b hv v2 {s with open_:=l}∧I (bM b hv ov) w (w2.setCell ⟨b,3,none⟩ v2)∧∀i∈bM b hv v2,i∈bM b hv ov∨w.heap.size≤i:=by
 have bP:=h.ks;have aJ: ∀i,i∈ae v2→i∈ae ov∨w.heap.size≤i:=fun i hi=>by
  rw[aa] at hi⊢;rcases hb with h1|⟨n,h1,h2⟩
  ·rw[←h1];exact inl hi
  ·rw[h1] at hi;injection hi with hi;exact inr (hi▸h2)
 have fT:b∉ae v2:=fun hm=>by
  rcases aJ b hm with h1|h1
  ·exact h.bo h1
  ·omega
 have bn:I [b] w2 (w2.setCell ⟨b,3,none⟩ v2):=(I.refl _ _).ax v2;have fa:aP w2 base hv s.held:=ab h.held k (fun i hi hm=>h.ho i (aa.2 hi) hm);refine⟨⟨(h.az.keeps k h.bo).set 3 v2,ab fa bn (fun i hi hm=>h.bh (by rw[List.mem_singleton] at hm;exact hm▸aa.2 hi)),ab au bn (fun i hi hm=>fT (by rw[List.mem_singleton] at hm;exact hm▸aa.2 hi)),h.bh,fT,fun i hi hm=> ?_⟩,?_,fun i hi=> ?_⟩
 ·rcases aJ i hm with h1|h1
  ·exact h.ho i hi h1
  ·have:=(World.ownsRow.lt h.held i (aa.1 hi)).2;omega
 ·exact(k.mono (fun i hi=>List.mem_cons_of_mem _ (List.mem_append_right _ hi))).trans (bn.mono (fun i hi=>by rw[List.mem_singleton] at hi;exact hi▸ms))
 ·rcases List.mem_cons.1 hi with rfl|hi
  ·exact inl ms
  ·rcases List.mem_append.1 hi with hi|hi
   ·exact inl (List.mem_cons_of_mem _ (List.mem_append_left _ hi))
   ·rcases aJ i hi with h1|h1
    ·exact inl (List.mem_cons_of_mem _ (List.mem_append_right _ h1))
    ·exact inr h1
theorem _root_.Go.Tru.dR.fC {w:World} {base b og cap:Nat} {hv:Value} {s:St} {c:mq} {r:List mq} (h:dR w base b hv (.slice (some ⟨og,0,none⟩) (r.length+1) cap) s) (ho:s.open_=c::r):dR (w.setCell ⟨og,r.length*2+1,none⟩ (.int .i64 (c.parts+1))) base b hv (.slice (some ⟨og,0,none⟩) (r.length+1) cap) {s with open_:=Go.Tru.fC (c::r)}:=by have lr:b≠og:=fun e=>h.bo (by rw[aa,e];rfl);have bn:I [og] w (w.setCell ⟨og,r.length*2+1,none⟩ (.int .i64 (c.parts+1))):=(I.refl _ _).ax _;have fj:=h.bu;rw[ho] at fj;exact⟨h.az.other lr _,ab h.held bn (fun j hj hm=>h.ho j (aa.2 hj) (by rw[List.mem_singleton] at hm;rw[hm,aa];rfl)),cG.gV fj (c.parts+1),h.bh,h.bo,h.ho⟩
end Go.Proofs.YthffblhdjjbkaaaGreat
