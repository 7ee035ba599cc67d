/- The gateway; truchman.Turn's gateway; truchman.Turn -/
import Derived.Test.YthffblhdjjbkaaaGreatM44
set_option maxHeartbeats 100000000
set_option maxRecDepth 1000000
open Go.Lib (hid)
open Go.Proofs.Tryz
open Or (inl inr)
namespace Go.Tru
def rdy:Option ag→Bool
 |none=>false
 |some s=>s.ready
def Gt.j9 (g:Gt):List Bool:=g.ss.map rdy
def Gt.jZ (g:Gt) (j k:Nat):Gt:={g with wh:=g.wh.eraseIdx j++[(k:Int)]}
end Go.Tru
namespace Go.Proofs.YthffblhdjjbkaaaGreat
open Go.RowKit Go.Tru
theorem QM {ops:Array Oper} {rest:List Oper} {o:Oper} {a:Act} {w:World} {Q:Exit→Act→World→Prop} (sU:o.guard=none) (s x:Operand) (ho:o.op= .call {callee:= .builtin .append,args:= #[s,x],argTypes:= #[86,86]}) (v:Value) (l:List Bool) (hs:a.eval s=v) (au:fA w v l) (ad:Addr) (y:Bool) (hx:a.eval x= .slice (some ad) 1 1) (aJ:w.cell? (ad.add 0)=some (.bool y)) (hlen:l.length≤1000000) (h: ∀v' w',fA w' v' (l++[y])→I (ae v) w w'→(v'.ownBlock=v.ownBlock∨v'.ownBlock=some w.heap.size)→wpList prog ops Q rest (a.put o.dst v') w'):wpList prog ops Q (o::rest) a w:=by
 obtain⟨i0,hi,ko,gv,gW⟩:=info_parts wY;refine wpList_append_own_at w sU s x 86 ho 0 4 i0 (.bool false) 1 1 underlying86 hi ko gv gW rfl (by decide) v l.length (fR l) hs au ad 1 1 [.bool y] hx rfl (fun j u hu=>by
  cases j with
  |zero=>simp only[List.getElem?_cons_zero,Option.some.injEq] at hu;rw[←hu];exact aJ
  |succ j=>simp at hu) (by simp[Value.oneCell']) (by unfold maxLen;omega) (by omega) (Nat.zero_le _) ?_
 intro v' w' h2 h3 _ h5;refine h v' w' ?_ (cD h3) h5;unfold fA fR;rw[List.length_append,List.map_append];exact h2
theorem Fh (w:World):Calls prog 41 #[.pointer none] w fun r w'=>r= .returned (.bool false)∧w'=w:=by
 go_enter func41,ntmps41;go_wp2_with fail
 all_goals go_ret;exact⟨rfl,rfl⟩
theorem IU {t:bq} {N:Int} {w:World} {base:Nat} {L:dG} {g:Gt} (h:dz t N w base L g) {j:Nat} (hj:j<g.n): ∃y,g.j9[j]? =some y∧∃v,w.cell? ⟨L.gs,j,none⟩=some v∧Calls prog 41 #[v] w (fun r w'=>r= .returned (.bool y)∧w'=w):=by
 have hj1:j<g.ss.length:=by rw[h.lens.1];exact hj
 have hg:g.ss[j]? =some g.ss[j]:=List.getElem?_eq_getElem hj1;refine⟨rdy g.ss[j],by rw[Gt.j9,List.getElem?_map,hg];rfl,?_⟩;cases hx:g.ss[j] with
 |none=>rw[hx] at hg;exact⟨.pointer none,h.free hg,Fh w⟩
 |some s=>rw[hx] at hg;obtain⟨l,hl,cs,yr⟩:=h.slot hg;exact⟨_,cs,JT yr⟩
def aa5 (g:Gt) (w:World) (f i:Value) (wr:World):Prop:=
 ∃j:Nat,j≤g.n∧i= .int .i64 j∧I [] w wr∧fA wr f (g.j9.take j)∧∀i∈ae f,w.heap.size≤i
theorem QN {t:bq} {N:Int} {w:World} {base:Nat} {L:dG} {g:Gt} (h:dz t N w base L g) {k:Nat} (hk:k≤1000) (lK:Int) (hl:0≤lK):Calls prog 47 #[.pointer (some ⟨L.gb,5,none⟩),.int .i64 k,.int .i64 lK] w fun e w'=>(∃y,e= .returned (.bool y))∧dz t N w' base L g∧I L.G w w':=by refine(Fb w L.gb (IQ L g) [] _ L.now L.mv L.tn L.M L.G h.tm 5 rfl k hk lK hl).mono ?_;rintro e w' ⟨h1,h2,h3⟩;have hF: ∀i∈L.G,i∈L.gb::(L.M++L.G):=fun i hi=>List.mem_cons_of_mem _ (List.mem_append_right _ hi);exact⟨h1,h.tm_ h2 h3 hF (fun i hi=>inl hi) h.jA.1,h3⟩
theorem Ui {t:bq} {N:Int} {w:World} {base:Nat} {L:dG} {g:Gt} (h:dz t N w base L g) (rv:Value) (hr:fA w rv g.j9) (sK: ∀x∈g.wh,0≤x∧x<g.n) (FB:g.wh.length≤8) (hf: ∀a,∀i∈cu L g.ss a,i∉ae rv):Calls prog 42 #[.pointer (some ⟨L.wb,0,none⟩),rv] w fun e w'=>(mi g.wh g.j9=none∧e= .returned (.tuple #[.int .i64 0,.bool false])∧w=w')∨∃j k,mi g.wh g.j9=some j∧g.wh[j]? =some ((k:Nat):Int)∧e= .returned (.tuple #[.int .i64 k,.bool true])∧∃v',dz t N w' base {L with wv:=v'} (g.jZ j k)∧I (L.wb::ae L.wv) w w':=by
 have Yz:g.j9.length=g.n:=by rw[Gt.j9,List.length_map,h.lens.1]
 have ju:=h.lens.2.2.2.2;refine(IL w L.wb g.n L.wv g.wh h.wh rv g.j9 hr (fun x hx=>by rw[Yz];exact sK x hx) (by omega) FB (hf 4 L.wb (by simp[cu])) (fun i hi=>hf 4 i (by simp only[cu];exact List.mem_cons_of_mem _ hi))).mono ?_;rintro e w' (⟨h1,h2,h3⟩|⟨j,x,h1,h2,h3,v',h4,h5,h6⟩)
 ·exact inl ⟨h1,h2,h3⟩
 ·have hx:=sK x (List.mem_of_getElem? h2);obtain⟨k,rfl⟩:=Int.eq_ofNat_of_zero_le hx.1;exact inr ⟨j,k,h1,h2,h3,v',h.wh_ h4 h5 h6,h5⟩
structure J3 (t:bq) (g:Gt) (k id n:Nat) (s s':ag):Prop where
 at_:At g k id s
 run:s.run t.pr (g.pu.may k) 16=some (n,s')
 may:g.pu.may k≤40000
 lK:0≤s'.bV.cN
 fits:g.fits k s'
def Uj (t:bq) (N:Int) (w:World) (base gb:Nat) (g:Gt) (r:Ending) (w':World):Prop:=
 (mi g.wh g.j9=none∧fJ t N w base gb g (.tuple #[.int .i64 (-1),.int .i64 0]) r w')∨
  ∃j k id n s s',mi g.wh g.j9=some j∧g.wh[j]? =some ((k:Nat):Int)∧J3 t g k id n s s'∧fJ t (N+16) w base gb ((g.jZ j k).put k s') (.tuple #[.int .i64 id,.int .i64 n]) r w'
theorem QO {t:bq} {N:Int} (hN:0≤N∧N+16≤100000000) {w:World} {base:Nat} {L:dG} {g:Gt} (h:dz t N w base L g) (sK: ∀x∈g.wh,0≤x∧x<g.n) (FB:g.wh.length≤8) (cS: ∀j k:Nat,mi g.wh g.j9=some j→g.wh[j]? =some (k:Int)→∃id n s s',J3 t g k id n s s'):Calls prog 12 #[.pointer (some ⟨L.gb,0,none⟩)] w (Uj t N w base L.gb g):=by
 have ju:=h.lens.2.2.2.2;have hlen:=h.lens.1;have Yz:g.j9.length=g.n:=by rw[Gt.j9,List.length_map,hlen]
 obtain⟨cg,Uc⟩: ∃n,w.heap.size=n:=⟨_,rfl⟩
 have hka:=(I.refl [] w).alloc (.cells #[.pointer (some ⟨L.gb,0,none⟩)] 41);have hz:=Has.aC w #[.pointer (some ⟨L.gb,0,none⟩)] 41 Uc.symm;have H:=hid h;have HI:=hid sK;have eN:=hid cS;clear h sK cS;go_enter func12,ntmps12;go_upto_region 1 with fail;obtain⟨w0,yk⟩: ∃w0,w.alloc (.cells #[.pointer (some ⟨L.gb,0,none⟩)] 41)=w0:=⟨_,rfl⟩
 rw[yk] at hka hz⊢;try rw[Uc]
 have afg:cg<w0.heap.size:=hz.lt;have KA:=hid hka;have HZ:=hid hz;have YH:=H.out.aI hka;have HW:=hid Uc;obtain⟨c0,-,-,-,-,bP,-⟩:=YH.cells;have cc0:w0.cell? ⟨cg,0,none⟩=some (.pointer (some ⟨L.gb,0,none⟩)):=hz.cell 0;have G0:=hid YH;clear hka hz yk YH Uc;go_wp2_with fail
 go_loopw [4,22] (fun f i wr=>aa5 g w0 f i wr) (fun _ i _=>g.n- (intOf i).toNat);case atStart=>exact⟨0,Nat.zero_le _,rfl,I.refl _ _,World.ownsRow_nil _ _ _ _,fun i hi=>by cases hi⟩
 case round=>
  obtain⟨j,hj,rfl,kw,au,qg⟩:=hrel;have HK:=hid kw;have hG:=G0.out.aI kw;obtain⟨d0,-,-,-,d4,Ca,-⟩:=hG.cells;simp only[dF] at d4;have dc:=kw.cell cc0 (by simp);have lu:cg<wr.heap.size:=Nat.lt_of_lt_of_le afg kw.size;have HG:=hid hG;by_cases dD:j<g.n
  ·have xw:(j:Int)<(g.n:Int):=by omega
   have BH:(0:Int)≤(j:Int):=by omega
   have eK:=da (x:=(j:Int)+1) (by omega);obtain⟨y,hy,v,cs,pj⟩:=IU hG dD;have XV:=hid pj;have Vx:=hid au;have CA:=hid qg;have HY:=hid hy;have Vn:(g.j9.take j).length=j:=by rw[List.length_take];omega
   obtain⟨a,c,rfl⟩:=au.shape;rw[Vn] at Vx CA;clear hG kw au qg pj hy;go_wp2_with fail
   refine XV.out.mono ?_;rintro e1 w1 ⟨rfl,rfl⟩;go_wp2_with (at_builtin;go_must (refine QM rfl _ _ rfl _ (g.j9.take j) rfl (ab Vx.out ((I.refl [] _).alloc _) (by simp)) ⟨_,0,none⟩ y rfl (aA [.bool y] (by simp) 0 _ rfl) (by omega) ?_))
   intro v4 w4 dx re nK;have k4:=(HK.out.alloc (.cells #[.bool y] 4)).trans' re (fun i hi=>inr (CA.out i (by rw[lp a _ _ j c] at hi;exact hi)));have QF: ∀i∈ae v4,w0.heap.size≤i:=fun i hi=>by
    have hz:=HK.out.size;rcases nK with h1|h1
    ·rw[aa,h1,←aa,lp a _ _ j c] at hi;exact CA.out i hi
    ·rw[aa,h1] at hi;injection hi with hi;first|omega|(simp at hi;omega)
   have de:fA w4 v4 (g.j9.take (j+1)):=by rw[List.take_add_one,HY.out];exact dx
   have YX:=hid de;have uh:=hid k4;have XP:=hid QF;clear dx re nK k4 QF de;go_wp2_with fail
   go_roundw;case rel=>exact⟨j+1,by omega,by go_num,uh.out,YX.out,XP.out⟩
   case measure=>simp[intOf];omega
  ·obtain rfl:j=g.n:=by omega
   have xw: ¬ ((g.n:Nat):Int)<(g.n:Int):=by omega
   rw[List.take_of_length_le (by omega)] at au;have Ci: ∀a,∀i∈cu L g.ss a,i∉ae u4:=fun a i hi hm=>by have h1:=(G0.out.ap.lt a i hi).2;have h2:=qg i hm;omega
   have Hv:=hid (Ui hG u4 au HI.out FB Ci);obtain⟨ra,rc,rfl⟩:=au.shape;rw[Yz] at Hv;clear hG kw au qg Ci;go_wp2_with fail
   refine Hv.out.mono ?_;rintro e2 w2 (⟨qq,rfl,rfl⟩|⟨jj,k,Xe,hkj,rfl,v',g2,k2⟩)
   ·have Re:=hid qq;have BR:=hid ((H.out.fw KA.out).trans (G0.out.fw HK.out));clear qq;go_wp2_with fail
    go_ret2;exact inl ⟨Re.out,rfl,_,HG.out.aI ((I.refl [] _).alloc _),rfl,BR.out.trans (HG.out.fw ((I.refl [] _).alloc _))⟩
   ·obtain⟨id,n,s,s',ok⟩:=eN.out jj k Xe hkj;have XW: ∀a,cg∉cu L g.ss a:=fun a hm=>by have h1:=(H.out.ap.lt a cg hm).2;have h2:=HW.out;omega
    have dc2:=k2.cell dc (XW 4);have Xw:cg<w2.heap.size:=Nat.lt_of_lt_of_le lu k2.size;have UJ:At (g.jZ jj k) k id s:=⟨ok.at_.s_,ok.at_.i_,ok.at_.m_,ok.at_.b_,ok.at_.o_⟩
    have By:k<g.n:=by rw[←hlen];exact fv ok.at_.s_
    have B2:=hid (((H.out.fw KA.out).trans (G0.out.fw HK.out)).trans (HG.out.below k2 4 (fun i hi=>hi)));have G2:=hid g2;have OK:=hid ok;have AT:=hid UJ;have HWJ:=hid Xe;have HKJ:=hid hkj;have MH:=hid XW;clear g2 k2 ok UJ Xe hkj XW dc HG Hv d0 d4 Ca lu;go_upto_region 12 with fail;obtain⟨cs,tN⟩: ∃n,w2.heap.size=n:=⟨_,rfl⟩
    have k3:=(I.refl [] w2).alloc (.cells #[.int .i64 (k:Int)] 3);have Wo:=Has.aC w2 #[.int .i64 (k:Int)] 3 tN.symm;try rw[tN]
    obtain⟨w3,jN⟩: ∃w3,w2.alloc (.cells #[.int .i64 (k:Int)] 3)=w3:=⟨_,rfl⟩
    rw[jN] at k3 Wo⊢;have aa6: ∀a,cs∉cu {L with wv:=v'} g.ss a:=fun a hm=>by have h1:=(G2.out.ap.lt a cs hm).2;omega
    have g3:=G2.out.aI k3;obtain⟨q0,-,-,-,-,qbl,-⟩:=g3.cells;obtain⟨l,hl,qs,aa7⟩:=g3.slot AT.out.s_;simp only[dF] at qs;have HSU:=hid (fun W (kk:I [] w3 W)=>JU (bk.aI aa7 kk));simp only[cp] at HSU;have dc3:=k3.cell dc2 (by simp);have ds3:w3.cell? ⟨cs,0,none⟩=some (.int .i64 (k:Int)):=Wo.cell 0;have afl:cg<w3.heap.size:=Nat.lt_of_lt_of_le Xw k3.size;have afm:=Wo.lt;have Pc:(k:Int)<(g.n:Int):=by omega
    have amz:(0:Int)≤(k:Int):=by omega
    have RE:(({g.jZ jj k with n:=g.n}:Gt).n:Int)=g.n:=rfl;have VX:(g.jZ jj k).n=g.n:=rfl;rw[VX] at q0;have B3:=hid (B2.out.trans (G2.out.fw k3));have G3:=hid g3;have MI:=hid aa6;have HL:=hid hl;have DC3:=hid dc3;have DS3:=hid ds3;clear k3 Wo jN g3 aa7 hl dc2 Xw B2 aa6 RE VX tN;go_quiet (fail)
    go_wp2_with fail
    refine(HSU.out _ ((I.refl [] _).drewN _)).mono ?_;rintro e5 w5 ⟨rfl,k5⟩;have K5:=hid (((I.refl [] w3).drewN _).trans k5);clear k5;generalize gp:s.bV=st;have hmf: ∀ (fn:Fn) (first cap:Array Value) (w:World),(Instr.makeFunc fn first cap).run prog w= .ok (.func fn first cap) w:=fun _ _ _ _=>rfl;go_wp2_with fail
    have k6:=K5.out.alloc (.cells #[.int .i64 st.from_,.int .i64 st.to,.int .i64 st.depth,.int .i64 st.jr,.int .i64 st.cN] 25);obtain⟨w6,jo⟩: ∃w6,w5.alloc (.cells #[.int .i64 st.from_,.int .i64 st.to,.int .i64 st.depth,.int .i64 st.jr,.int .i64 st.cN] 25)=w6:=⟨_,rfl⟩
    rw[jo] at k6⊢;have g6:=G3.out.aI k6;have XJ:cg∉L.ph::sB l:=fun hm=>by
     rcases List.mem_cons.1 hm with e|hm
     ·exact MH.out 3 (by rw[e];simp[cu])
     ·exact MH.out (k+5) (by show cg∈jH g.ss L.ls k;rw[fI (ss:=g.ss) AT.out.s_ HL.out];exact hm)
    have XC:cs∉L.ph::sB l:=fun hm=>by
     rcases List.mem_cons.1 hm with e|hm
     ·exact MI.out 3 (by rw[e];simp[cu])
     ·exact MI.out (k+5) (by show cs∈jH g.ss L.ls k;rw[fI (ss:=g.ss) AT.out.s_ HL.out];exact hm)
    have dc6:=k6.cell DC3.out (by simp);have ds6:=k6.cell DS3.out (by simp);have QI:=Nat.lt_of_lt_of_le afl k6.size;have hs6:=Nat.lt_of_lt_of_le afm k6.size;have B6:=hid (B3.out.trans (G3.out.fw k6));refine(XU hN g6 AT.out.s_ HL.out AT.out.o_ rfl OK.out.may dc6 ds6 XJ XC OK.out.run).mono ?_;rintro e7 w7 ⟨rfl,lc,x,g7,afp,aa8,k7⟩;have dc7:=k7.cell dc6 XJ;have ds7:=k7.cell ds6 XC;have afq:=Nat.lt_of_lt_of_le QI k7.size;have aa9:=Nat.lt_of_lt_of_le hs6 k7.size;have zn:(((g.jZ jj k).xz k s').xn k x).ss[k]? =some (some s'):=List.getElem?_set_self (fv AT.out.s_);have aba:=g7.se k s' lc zn (List.getElem?_set_self (fv HL.out));have Uk:=hid (JU aba);rw[aa8] at Uk;simp only[cp] at Uk;have B7:=hid (B6.out.trans (k7.below g6.low.2 (fun i hi=>by
     rcases List.mem_cons.1 hi with e|hi
     ·exact(g6.ap.lt 3 i (by rw[e];simp[cu])).1
     ·exact(g6.ap.lt (k+5) i (by show i∈jH g.ss L.ls k;rw[fI (ss:=g.ss) AT.out.s_ HL.out];exact hi)).1)))
    have G7:=hid g7;have Yv:=hid zn;have DC7:=hid dc7;have DS7:=hid ds7;have abb:=hid OK.out.lK;clear k6 jo g6 XJ XC dc6 ds6 QI hs6 g7 afp aa8 k7 zn aba dc7 ds7 HSU G3 K5 gp q0 qs;go_wp2_with fail
    refine Uk.out.mono ?_;rintro e8 w8 ⟨rfl,k8⟩;generalize s'.bV=Fi at abb⊢;go_upto_region 16 with fail;obtain⟨ca,hca⟩: ∃n,w8.heap.size=n:=⟨_,rfl⟩
    have k9:=k8.alloc (.cells #[.int .i64 Fi.from_,.int .i64 Fi.to,.int .i64 Fi.depth,.int .i64 Fi.jr,.int .i64 Fi.cN] 25);have hz9:=Has.aC w8 #[.int .i64 Fi.from_,.int .i64 Fi.to,.int .i64 Fi.depth,.int .i64 Fi.jr,.int .i64 Fi.cN] 25 hca.symm;try rw[hca]
    obtain⟨w9,hw9⟩: ∃w9,w8.alloc (.cells #[.int .i64 Fi.from_,.int .i64 Fi.to,.int .i64 Fi.depth,.int .i64 Fi.jr,.int .i64 Fi.cN] 25)=w9:=⟨_,rfl⟩
    rw[hw9] at k9 hz9⊢;have Fj:=k9.cell DC7.out (by simp);have Fl:=k9.cell DS7.out (by simp);have QP:=Nat.lt_of_lt_of_le afq k9.size;have Fm:=Nat.lt_of_lt_of_le aa9 k9.size;have z4:w9.cell? ⟨ca,4,none⟩=some (.int .i64 Fi.cN):=hz9.cell 4;have AG:=hz9.lt;have B9:=hid (B7.out.trans (G7.out.fw k9));have G9:=hid (G7.out.aI k9);have M9:k<g.pu.has.length:=by rw[H.out.lens.2.2.2.1];exact By
    have HZ9:=hid hz9;clear k8 k9 hz9 hw9 hca Uk G7 B7;cases hT':s'.told with
    |false=>
     have xu:(((g.jZ jj k).xz k s').xn k x).ss[k]? =some (some s'):=Yv.out;have tI:(((g.jZ jj k).xz k s').xn k x).pu.may k=g.pu.may k:=uD M9 x;have HC:=hid (kS (by omega) G9.out (k:=k) (s:=s') xu AT.out.o_ OK.out.fits.1 (by rw[tI];exact OK.out.fits.2));clear tI;go_upto_region 18 with fail;go_wp2_with fail
     refine HC.out.mono ?_;rintro e10 Ul ⟨rfl,g10,qm⟩;have VE:L.ph∈cu L g.ss 3:=by simp[cu]
     have r1:=qm.cell Fj (fun hm=>MH.out 3 (by rw[show cg=L.ph from List.mem_singleton.1 hm];exact VE));have r2:=qm.cell Fl (fun hm=>MI.out 3 (by rw[show cs=L.ph from List.mem_singleton.1 hm];exact VE));obtain⟨-,t1,-,-,-,tbl,-⟩:=g10.cells;have ti:=g10.id (k:=k) (x:=(id:Int)) AT.out.i_;have t1':Ul.cell? ⟨L.gb,1,none⟩=some (.slice (some ⟨L.gi,0,none⟩) g.n g.n):=t1;have ti':Ul.cell? ⟨L.gi,k,none⟩=some (.int .i64 (id:Int)):=ti;clear t1 ti;have XX:=hid (B9.out.trans (kT G9.out qm));have RL:=hid g10;have VF:=Nat.lt_of_lt_of_le QP qm.size;have VG:=Nat.lt_of_lt_of_le Fm qm.size;clear g10 qm Fj Fl xu HC;go_upto_region 19 with fail;go_quiet (fail)
     go_wp2_with fail
     go_ret2;exact inr ⟨jj,k,id,n,s,s',HWJ.out,HKJ.out,OK.out,rfl,{L with wv:=v',ls:=L.ls.set k lc},(by have h9:=RL.out;rw[uE] at h9;exact h9.aI (((I.refl [] _)).drewN _)),rfl,XX.out.trans (RL.out.fw (((I.refl [] _)).drewN _))⟩
    |true=>
     cases hT:s.told with
     |true=>
      have xu:(((g.jZ jj k).xz k s').xn k x).ss[k]? =some (some s'):=Yv.out;have tI:(((g.jZ jj k).xz k s').xn k x).pu.may k=g.pu.may k:=uD M9 x;have HC:=hid (kS (by omega) G9.out (k:=k) (s:=s') xu AT.out.o_ OK.out.fits.1 (by rw[tI];exact OK.out.fits.2));clear tI;go_upto_region 18 with fail;go_wp2_with fail
      refine HC.out.mono ?_;rintro e10 Ul ⟨rfl,g10,qm⟩;have VE:L.ph∈cu L g.ss 3:=by simp[cu]
      have r1:=qm.cell Fj (fun hm=>MH.out 3 (by rw[show cg=L.ph from List.mem_singleton.1 hm];exact VE));have r2:=qm.cell Fl (fun hm=>MI.out 3 (by rw[show cs=L.ph from List.mem_singleton.1 hm];exact VE));obtain⟨-,t1,-,-,-,tbl,-⟩:=g10.cells;have ti:=g10.id (k:=k) (x:=(id:Int)) AT.out.i_;have t1':Ul.cell? ⟨L.gb,1,none⟩=some (.slice (some ⟨L.gi,0,none⟩) g.n g.n):=t1;have ti':Ul.cell? ⟨L.gi,k,none⟩=some (.int .i64 (id:Int)):=ti;clear t1 ti;have XX:=hid (B9.out.trans (kT G9.out qm));have RL:=hid g10;have VF:=Nat.lt_of_lt_of_le QP qm.size;have VG:=Nat.lt_of_lt_of_le Fm qm.size;clear g10 qm Fj Fl xu HC;go_upto_region 19 with fail;go_quiet (fail)
      go_wp2_with fail
      go_ret2;exact inr ⟨jj,k,id,n,s,s',HWJ.out,HKJ.out,OK.out,rfl,{L with wv:=v',ls:=L.ls.set k lc},(by have h9:=RL.out;rw[uE] at h9;exact h9.aI (((I.refl [] _)).drewN _)),rfl,XX.out.trans (RL.out.fw (((I.refl [] _)).drewN _))⟩
     |false=>
      have FA:=hid (QN (G9.out.aI ((I.refl [] w9).drew)) (k:=k) (by omega) Fi.cN abb.out);go_upto_region 17 with fail;go_still_tail 6,(by kernel_rfl);change wpList _ _ _ _ _ w9.drew;go_wp2_with fail
      refine FA.out.mono ?_;rintro e11 w11 ⟨⟨y,rfl⟩,g11,k11⟩;have hG: ∀i∈L.G,i∈cu L g.ss 0:=fun i hi=>List.mem_cons_of_mem _ (List.mem_append_right _ hi);replace Fj:=(((I.refl L.G w9).drew).trans k11).cell Fj (fun hm=>MH.out 0 (hG _ hm));replace Fl:=(((I.refl L.G w9).drew).trans k11).cell Fl (fun hm=>MI.out 0 (hG _ hm));have Um:=(((I.refl L.G w9).drew).trans k11)
      replace QP:=Nat.lt_of_lt_of_le QP Um.size;replace Fm:=Nat.lt_of_lt_of_le Fm Um.size;have B11:=hid (B9.out.trans (G9.out.below Um 0 (fun i hi=>List.mem_cons_of_mem _ (List.mem_append_right _ hi))));have G11:=hid g11;clear B9 G9 g11 k11 Um hG z4 HZ9 AG FA;have B9:=B11;have G9:=G11;have xu:(((g.jZ jj k).xz k s').xn k x).ss[k]? =some (some s'):=Yv.out;have tI:(((g.jZ jj k).xz k s').xn k x).pu.may k=g.pu.may k:=uD M9 x;have HC:=hid (kS (by omega) G9.out (k:=k) (s:=s') xu AT.out.o_ OK.out.fits.1 (by rw[tI];exact OK.out.fits.2));clear tI;go_wp2_with fail
      refine HC.out.mono ?_;rintro e10 Ul ⟨rfl,g10,qm⟩;have VE:L.ph∈cu L g.ss 3:=by simp[cu]
      have r1:=qm.cell Fj (fun hm=>MH.out 3 (by rw[show cg=L.ph from List.mem_singleton.1 hm];exact VE));have r2:=qm.cell Fl (fun hm=>MI.out 3 (by rw[show cs=L.ph from List.mem_singleton.1 hm];exact VE));obtain⟨-,t1,-,-,-,tbl,-⟩:=g10.cells;have ti:=g10.id (k:=k) (x:=(id:Int)) AT.out.i_;have t1':Ul.cell? ⟨L.gb,1,none⟩=some (.slice (some ⟨L.gi,0,none⟩) g.n g.n):=t1;have ti':Ul.cell? ⟨L.gi,k,none⟩=some (.int .i64 (id:Int)):=ti;clear t1 ti;have XX:=hid (B9.out.trans (kT G9.out qm));have RL:=hid g10;have VF:=Nat.lt_of_lt_of_le QP qm.size;have VG:=Nat.lt_of_lt_of_le Fm qm.size;clear g10 qm Fj Fl xu HC;go_upto_region 19 with fail;go_quiet (fail)
      go_wp2_with fail
      go_ret2;exact inr ⟨jj,k,id,n,s,s',HWJ.out,HKJ.out,OK.out,rfl,{L with wv:=v',ls:=L.ls.set k lc},(by have h9:=RL.out;rw[uE] at h9;exact h9.aI (((I.refl [] _)).drewN _)),rfl,XX.out.trans (RL.out.fw (((I.refl [] _)).drewN _))⟩
end Go.Proofs.YthffblhdjjbkaaaGreat
namespace Go.Tru
def tg (s:ag) (c:Int):Gt:=⟨1,[some s],[0],1,⟨39300,[c],[true]⟩,[0]⟩
theorem J4 (s:ag) (c:Int):At (tg s c) 0 0 s:=⟨rfl,rfl,(by show(0:Int).tmod 1=0;decide),by decide,rfl⟩
theorem sN (s:ag) (c:Int):(tg s c).pu.may 0=40000:=by simp only[tg,Pu.may,Pu.shared,List.map_cons,List.map_nil,List.sum_cons,List.sum_nil];rw[show [c].getD 0 0=c from rfl];omega
theorem Un (s:ag) (c:Int) (h:0≤c∧c≤34064):64≤(tg s c).pu.left 0:=by show 64≤(if c≤700 then 700-c else 0)+(39300- (ovr c+0));unfold ovr;split<;>omega
theorem Bz (s:ag) (c:Int):mi (tg s c).wh (tg s c).j9=if s.ready then some 0 else none:=by show mi [0] [s.ready]=_;cases s.ready<;>rfl
theorem mQ {T:Pr} {s:ag} {more:List UInt8} (h:s.Ok T more):s.bj≤34064:=by
 have h1:=h.own;have h2:=h.room;have h3:=h.wait;unfold ag.bj at h1⊢;simp only[jC,List.length_nil,List.flatten_nil] at h1⊢;split<;>rename_i he
 ·omega
 ·rw[if_neg he] at h1;omega
theorem Uo (b:List UInt8):0≤(bT b).1.cN:=by
 unfold bT;split
 ·decide
 ·split
  ·simp only[];split
   ·simp only[];omega
   ·decide
  ·decide
theorem QQ {T:Pr} {s:ag} (h:0≤s.bV.cN):0≤(s.once T).bV.cN:=by
 have h1:=Uo;unfold ag.once;split
 ·split
  ·exact h
  ·exact h
 ·split
  ·simp only[];split<;>exact h
  ·simp only[];split
   ·exact h
   ·split
    ·exact h1 _
    ·exact h
theorem J5 {T:Pr} {M:Int}: ∀ (n:Nat) (s:ag) (k:Nat) (u:ag),s.run T M n=some (k,u)→0≤s.bV.cN→0≤u.bV.cN
 |0,s,k,u,hr,h=>by obtain⟨-,rfl⟩:=oE hr (inl rfl);exact h
 |n+1,s,k,u,hr,h=>by
  cases hy:s.ready with
  |false=>obtain⟨-,rfl⟩:=oE hr (inr hy);exact h
  |true=>obtain⟨-,-,r',-,h2⟩:=zc hr hy;exact J5 n _ r' u h2 (QQ h)
theorem IV {T:Pr} {s:ag} {more:List UInt8} (h:s.Ok T more) (piece:Nat) (hp:1≤piece) (room:Int) (hr:64≤room) (fX: ¬ (s.ended=true∧s.q.flatten= [])) (hl:0≤s.bV.cN):let f:=s.feed (more.take piece) room;let m:=more.drop f.1;f.1≤(more.take piece).length∧f.2.bj≤40000∧(f.2.shut m).bj≤40000∧(m= []→(if(f.2.half||f.2.ended)=true then f.2 else{f.2 with half:=true})=f.2.shut m)∧(m≠[]→f.2.shut m=f.2)∧∃k t,(f.2.shut m).run T 40000 16=some (k,t)∧t.bj≤40000∧cT t.q≤900000∧0≤t.bV.cN∧(t.wrote piece).bj≤40000∧s.q.flatten++s.left T more=(bm piece t.q).1++((t.wrote piece).q.flatten++(t.wrote piece).left T m)∧(t.wrote piece).Ok T m∧(t.wrote piece).qN T m<s.qN T more∧((f.2.shut m).ready=false→t=f.2.shut m):=by
 simp only[];obtain⟨f1,-,f3,f4,f5,-,-⟩:=yN h piece hp room hr;obtain⟨k,t,r1,r2,r3,r4,r5⟩:=GB h piece hp room hr fX;have UN:0≤(s.feed (more.take piece) room).2.bV.cN:=by unfold ag.feed;split<;>exact hl
 generalize s.feed (more.take piece) room=f at f1 f3 f4 f5 r1 r2 r3 r4 r5 UN⊢;obtain⟨n,s1⟩:=f;simp only at f1 f3 f4 f5 r1 r2 r3 r4 r5 UN⊢;have hq:=r2.wait;have Xm:0≤(s1.shut (more.drop n)).bV.cN:=by unfold ag.shut;split<;>exact UN
 refine⟨f1,by have:=mQ f3;omega,by have:=mQ (yO f3).2.2.1;omega,fun hm=> ?_,fun hm=> ?_,k,t,r1,by have:=mQ r2;omega,by rw[jC];omega,J5 16 _ k t r1 Xm,by have h9:=mQ r4;have h8:(t.wrote piece).bj≤34064:=h9;omega,r3,r4,r5,fun Z2=>(oE r1 (inr Z2)).2⟩
 ·unfold ag.shut;cases hh:s1.half<;>cases he:s1.ended<;>simp[hm]
 ·unfold ag.shut;rw[if_neg (fun h=>hm h.1)]
structure QR (T:Pr) (lY done more:List UInt8) (s:ag) (R:Nat):Prop where
 ok:s.Ok T more
 lK:0≤s.bV.cN
 on: ¬ (s.ended=true∧s.q.flatten= [])
 sum:done++(s.q.flatten++s.left T more)=lY
 size:s.qN T more≤R
theorem IW {T:Pr} {lY more:List UInt8} {R:Nat} (hT:ag.new.fG T more=lY) (hL:ag.new.iZ T more) (hR:lY.length+more.length+1≤R):QR T lY [] more ag.new R:=by have hl:ag.new.left T more=lY:=hT;refine⟨⟨fun _=>hL,by decide,by decide,by decide,fun h=>absurd h (by decide)⟩,by decide,fun h=>absurd h.1 (by decide),hl,?_⟩;unfold ag.qN;rw[hl];show 0+lY.length+0+more.length+1≤R;omega
end Go.Tru
namespace Go.Proofs.YthffblhdjjbkaaaGreat
open Go.RowKit Go.Tru
def IX (t:bq) (base gb:Nat) (lY:List UInt8) (wr:World) (done more:List UInt8) (R:Nat):Prop:=
 (∃s N L,QR t.pr lY done more s R∧dz t N wr base L (tg s s.bj)∧L.gb=gb∧0≤N∧N+16*(R:Int)≤100000000)∨
  (∃g N L,oD g.ss=0∧done=lY∧dz t N wr base L g∧L.gb=gb)
def Up (t:bq) (w0:World) (b0 base gb:Nat) (lY:List UInt8) (r0:Nat) (vi vo vr:Value) (wr:World):Prop:=
 ∃more done R,R≤r0∧vi= .string (bytesOf more)∧vo= .string (bytesOf done)∧vr= .int .i64 ((R:Nat):Int)∧more.length≤60000∧done.length≤lY.length∧IX t base gb lY wr done more R∧Below b0 w0 wr
theorem Uq {t:bq} {w:World} {base:Nat} {L:dG} (h:dz t 0 w base L (sL 40000 1)):Calls prog 10 #[.pointer (some ⟨L.gb,0,none⟩)] w (fJ t 0 w base L.gb (tg ag.new ag.new.bj) (.tuple #[.int .i64 0,.string ⟨#[]⟩])):=by
 have:=sM ⟨by decide,by decide⟩ h (k:=0) (by kernel_rfl) (fun j hj=>absurd hj (Nat.not_lt_zero _)) (by kernel_rfl) (by decide) (of_decide_eq_true (by kernel_rfl)) (fun j y hj=>absurd hj (Nat.not_lt_zero _)) (by decide) (by decide) h.jA.1;have e:(sL 40000 1).conn 0=tg ag.new ag.new.bj:=by kernel_rfl
 rw[e] at this;exact this
theorem ix (l:List UInt8):(bytesOf l).data.toList=l:=by simp[bytesOf]
theorem XY (l:List UInt8) (n:Nat):(bytesOf l).extract 0 n=bytesOf (l.take n):=by apply ByteArray.ext;apply Array.toList_inj.1;rw[Lib.extract_data];simp[bytesOf]
theorem Fo (l:List UInt8) (k n:Nat) (hn:l.length≤n):(bytesOf l).extract k n=bytesOf (l.drop k):=by apply ByteArray.ext;apply Array.toList_inj.1;rw[Lib.extract_data,ix,ix];rw[List.take_of_length_le (by rw[List.length_drop];omega)]
theorem Ur (l:List UInt8) (i j:Nat):(bytesOf l).extract i j=bytesOf ((l.drop i).take (j-i)):=by apply ByteArray.ext;apply Array.toList_inj.1;rw[Lib.extract_data,ix,ix]
theorem MJ (l:List UInt8) (k:Nat) (h:k<(bytesOf l).size) (h2:k<l.length):(bytesOf l)[k]'h=l[k]'h2:=rfl
theorem XZ {t:bq} {N:Int} {w:World} {base:Nat} {L:dG} {s:ag} {c:Int} (h:dz t N w base L (tg s c)):0≤s.bj:=by obtain⟨l,hl,-,yr⟩:=h.slot (k:=0) (s:=s) rfl;have:=xd yr;omega
theorem QS {t:bq} {N:Int} (hN:0≤N∧N≤100000000) {w:World} {base:Nat} {L:dG} {s s1:ag} {c:Int} (h:dz t N w base L (tg s c)) (l:List UInt8) (hl:l.length≤1000000) {k:Nat} (hf:s.feed l ((tg s c).pu.left 0)=(k,s1)) (hc:s1.bj≤40000):Calls prog 11 #[.pointer (some ⟨L.gb,0,none⟩),.int .i64 0,.string (bytesOf l)] w (fJ t N w base L.gb (tg s1 s1.bj) (.int .i64 k)):=by have:=uB hN h (J4 s c) (bytesOf l) (by rw[an];exact hl) (by rw[ix,hf];exact⟨hc,by rw[sN];exact hc⟩);rw[ix,hf] at this;exact this
theorem Us {t:bq} {N:Int} (hN:0≤N∧N≤100000000) {w:World} {base:Nat} {L:dG} {s s2:ag} {c:Int} (h:dz t N w base L (tg s c)) (hf:(if(s.half||s.ended)=true then s else{s with half:=true})=s2) (hc:s2.bj≤40000):Calls prog 15 #[.pointer (some ⟨L.gb,0,none⟩),.int .i64 0] w fun e w'=>(∃y,e= .returned (.bool y))∧∃L',dz t N w' base L' (tg s2 s2.bj)∧L'.gb=L.gb∧Below base w w':=by have:=QC hN h (J4 s c) (by rw[hf];exact⟨hc,by rw[sN];exact hc⟩);rw[hf] at this;exact this.mono (fun e w' g=>⟨⟨_,g.1⟩,g.2⟩)
theorem QT {t:bq} {N:Int} (hN:0≤N∧N+16≤100000000) {w:World} {base:Nat} {L:dG} {s u:ag} (h:dz t N w base L (tg s s.bj)) {k:Nat} (hr:s.run t.pr 40000 16=some (k,u)) (hn:s.ready=false→u=s) (hc:u.bj≤40000) (hl:0≤u.bV.cN):Calls prog 12 #[.pointer (some ⟨L.gb,0,none⟩)] w fun e w'=>(∃a b,e= .returned (.tuple #[.int .i64 a,.int .i64 b]))∧∃L',dz t (N+16) w' base L' (tg u u.bj)∧L'.gb=L.gb∧Below base w w':=by
 have cS:J3 t (tg s s.bj) 0 0 k s u:=⟨J4 s _,by rw[sN];exact hr,by rw[sN];decide,hl,⟨hc,by rw[sN];exact hc⟩⟩
 have sK: ∀x∈(tg s s.bj).wh,0≤x∧x<(tg s s.bj).n:=fun x hx=>by have hx:x∈ [(0:Int)]:=hx;rw[List.mem_singleton] at hx;subst hx;exact⟨by decide,(by decide:(0:Int)<1)⟩
 have VH: ∀j k':Nat,mi (tg s s.bj).wh (tg s s.bj).j9=some j→(tg s s.bj).wh[j]? =some (k':Int)→j=0∧k'=0:=fun j k' h1 h2=>by
  rw[Bz] at h1;split at h1
  ·injection h1 with h1;subst h1;have h2:some (0:Int)=some (k':Int):=h2;injection h2 with h2;exact⟨rfl,by omega⟩
  ·cases h1
 cases pj:s.ready with
 |true=>
  have hw:mi (tg s s.bj).wh (tg s s.bj).j9=some 0:=by rw[Bz,pj];rfl
  refine(QO hN h sK (show 1≤8 by decide) (fun j k' h1 h2=>by obtain⟨rfl,rfl⟩:=VH j k' h1 h2;exact⟨0,k,s,u,cS⟩)).mono ?_;rintro e w' (⟨h1,-⟩|⟨j,k',id,n',v,v',h1,h2,h3,h4⟩)
  ·rw[hw] at h1;cases h1
  ·obtain⟨rfl,rfl⟩:=VH j k' h1 h2;have e1:some (some s)=some (some v):=h3.at_.s_;injection e1 with e1;injection e1 with e1;subst e1;have e3:=h3.run;rw[cS.run] at e3;injection e3 with e3;injection e3 with e3 e4;subst e4;exact⟨⟨_,_,h4.1⟩,h4.2⟩
 |false=>
  have hw:mi (tg s s.bj).wh (tg s s.bj).j9=none:=by rw[Bz,pj];rfl
  obtain rfl:=hn pj;refine(QO hN h sK (show 1≤8 by decide) (fun j k' h1 h2=>by rw[hw] at h1;cases h1)).mono ?_;rintro e w' (⟨-,h4⟩|⟨j,k',id,n',v,v',h1,-⟩)
  ·obtain⟨h5,L',h6,h7,h8⟩:=h4;exact⟨⟨_,_,h5⟩,L',h6.more ⟨hN.1,by omega,hN.2⟩,h7,h8⟩
  ·rw[hw] at h1;cases h1
theorem Fp {t:bq} {N:Int} (hN:0≤N∧N≤100000000) {w:World} {base:Nat} {L:dG} {u:ag} {c:Int} (h:dz t N w base L (tg u c)) (n:Nat) (hq:cT u.q≤900000) (hc:(u.wrote n).bj≤40000):Calls prog 13 #[.pointer (some ⟨L.gb,0,none⟩),.int .i64 0,.int .i64 n] w fun e w'=>e= .returned (.string (bytesOf (bm n u.q).1))∧∃L' g',dz t N w' base L' g'∧L'.gb=L.gb∧Below base w w'∧(((u.wrote n).ended=true∧(u.wrote n).q.flatten= []∧oD g'.ss=0)∨(¬ ((u.wrote n).ended=true∧(u.wrote n).q.flatten= [])∧g'=tg (u.wrote n) (u.wrote n).bj)):=by
 have:=uC hN h (J4 u c) n hq ⟨hc,by rw[sN];exact hc⟩ (j:=0) rfl (fun i y hi=>absurd hi (Nat.not_lt_zero _));unfold oS at this;refine this.mono ?_;rintro e w' ⟨h1,L',h2,h3,h4⟩;refine⟨h1,L',_,h2,h3,h4,?_⟩;by_cases lu:(u.wrote n).ended=true∧(u.wrote n).q.flatten= []
 ·refine inl ⟨lu.1,lu.2,?_⟩;rw[if_pos (by rw[lu.1,jC,lu.2];rfl)];rfl
 ·refine inr ⟨lu,?_⟩;rw[if_neg]
  ·rfl
  ·intro h;simp only[Bool.and_eq_true,decide_eq_true_eq,jC,List.length_eq_zero_iff] at h;exact lu h
theorem size_pos {T:Pr} {s:ag} {more:List UInt8} (h: ¬ (s.ended=true∧s.q.flatten= [])):1≤s.qN T more:=by
 unfold ag.qN;cases he:s.ended with
 |false=>simp only[Bool.false_eq_true,if_false];omega
 |true=>have:0<s.q.flatten.length:=List.length_pos_iff.2 (fun e=>h ⟨he,e⟩);omega
theorem QU {t:bq} {w:World} (ht:dt t w) (h0:br<w.heap.size) (st:Setup) (gp:st.right=true) (X:List UInt8) (p:Int) (hX:X.length≤59000) {O:List UInt8} {e:Int} (he:0≤e∧e≤15) (hh:(tt st).length=8) (hT:ag.new.fG t.pr (tt st++X)=75::(O++cf e true)) (hL:ag.new.iZ t.pr (tt st++X)) (hO:O.length≤40*X.length):Calls prog 7 #[cp st,.string (bytesOf X),.int .i64 p] w fun r w'=>r= .returned (.tuple #[.string (bytesOf O),.int .i64 e])∧Below w.heap.size w w':=by
 have Y9:=hid ht;have HTZ:=hid h0;have HP:=hid (fun W=>C3 st gp W);obtain⟨x1,x2,x3,x4,x5⟩:=st;simp only[cp] at HP⊢;obtain⟨Hd,hHd⟩: ∃l,tt ⟨x1,x2,x3,x4,x5⟩=l:=⟨_,rfl⟩
 rw[hHd] at HP hh hT hL;obtain⟨lY,wJ⟩: ∃l,75::(O++cf e true)=l:=⟨_,rfl⟩
 rw[wJ] at hT;have Vn:lY.length=O.length+3:=by rw[←wJ];simp[cf]
 obtain⟨n,hn⟩: ∃n,8+X.length=n:=⟨_,rfl⟩
 have dq:bytesOf Hd++bytesOf X=bytesOf (Hd++X):=aZ Hd X;have R9:(bytesOf (Hd++X)).size=n:=by rw[an,List.length_append,hh];exact hn
 have KR: ¬281474976710656<(bytesOf Hd).size+(bytesOf X).size:=by rw[an,an];omega
 obtain⟨pc,Rn⟩: ∃n:Nat,min (max p 1) 64=(n:Int):=⟨(min (max p 1) 64).toNat,by omega⟩
 have afu:1≤pc∧pc≤64:=by omega
 have eK:=da (x:=(n:Int)+1) (by omega);have gU:=da (x:=100*((n:Int)+1)) (by omega);have HTL:=hid hT;have HLI:=hid hL;have HTT:=hid wJ;have hml:(Hd++X).length=n:=by rw[List.length_append,hh];exact hn
 have HML:=hid hml;have HY:=hid (fun W=>I7 W);clear ht h0 hHd hT hL wJ hml;go_enter func7,ntmps7;go_wp2_with fail
 refine(HP.out _).mono ?_;rintro e1 w1 ⟨rfl,k1⟩;have dU:=((I.refl [] w).alloc _).trans k1;have gv:=dU.size;have abd:=VB (t:=t) 40000 1 (inl rfl) ⟨by decide,by decide⟩ (Y9.out.keeps dU (by simp)) (Nat.lt_of_lt_of_le HTZ.out gv);have CB:=hid abd;have BW1:=hid dU.all;have HZ1:=hid gv;clear k1 dU gv abd;go_wp2_with fail
 refine CB.out.mono ?_;rintro e2 w2 ⟨L,rfl,g2,k2⟩;have B2:=hid (BW1.out.trans ((k2.all).mono HZ1.out));have HCN:=hid (Uq g2);clear g2 k2 CB;go_wp2_with fail
 refine HCN.out.mono ?_;rintro e3 w3 ⟨rfl,L3,g3,abe,b3⟩;have G3:=hid g3;have HG3:=hid abe;clear g3 abe;have B3:=hid (B2.out.trans (b3.mono HZ1.out));clear b3 HCN;obtain⟨base,ak⟩: ∃n,w1.heap.size=n:=⟨_,rfl⟩
 rw[ak] at G3;have hbw:w.heap.size≤base:=by have:=HZ1.out;omega
 have Ut:=hid hbw;clear HZ1 BW1 B2 hbw ak;go_wp2_with fail
 go_loopw [8,13,14] (fun vi vo vr wr=>Up t w w.heap.size base L.gb lY (100*(n+1)) vi vo vr wr) (fun _ _ vr _=>(intOf vr).toNat);case atStart=>refine⟨Hd++X,[],100*(n+1),Nat.le_refl _,rfl,rfl,by go_num,by rw[HML.out];omega,Nat.zero_le _,inl ⟨ag.new,0,L3,IW HTL.out HLI.out (by rw[HML.out];omega),G3.out,HG3.out,by decide,by omega⟩,B3.out⟩
 case round=>
  obtain⟨more,done,R,hR,rfl,rfl,rfl,hmr,UI,gp,hb⟩:=hrel;rcases gp with⟨s,N,L2,cS,hg,lr,hN0,hN1⟩|⟨g,N,L2,To,hdt,hg,lr⟩
  ·have lx:=size_pos (T:=t.pr) (more:=more) cS.on;have hR1:1≤R:=Nat.le_trans lx cS.size;have hRi:(0:Int)<(R:Int):=by omega
   have zG:IntKind.i64.wrap ((R:Int)-1)=((R-1:Nat):Int):=by rw[IntKind.wrap_i64];omega
   have X0:=hid (IS hg);rw[show oD (tg s s.bj).ss=1 from rfl,lr] at X0;have eN:=hid cS;have FD:=hid lr;have YZ:(bytesOf more).size=more.length:=an more;have X4:=List.length_take (i:=pc) (l:=more);obtain⟨ml,afw⟩: ∃k,more.length=k:=⟨_,rfl⟩
   rw[afw] at YZ X4 hmr;obtain⟨mn,hmn⟩: ∃k,min pc ml=k:=⟨_,rfl⟩
   have hmi:min (pc:Int) (ml:Int)=(mn:Int):=by omega
   have hm0:(0:Int)≤(mn:Int):=by omega
   have Pe:(mn:Int)≤(ml:Int):=by omega
   have Af: ∀W,(Instr.slice 9 (.string (bytesOf more)) none (some (.int .i64 (mn:Int))) none).run prog W= .ok (.string (bytesOf (more.take pc))) W:=fun W=>by
    rw[run_slice_string_to_if W 9 (bytesOf more) .i64 mn underlying9,if_pos (by rw[YZ];omega)];rw[show Int.toNat (mn:Int)=mn from rfl,XY,←hmn];rcases Nat.le_total pc ml with h|h
    ·rw[Nat.min_eq_left h]
    ·rw[Nat.min_eq_right h,List.take_of_length_le (by omega),List.take_of_length_le (by omega)]
   clear cS hg lr lx;go_wp2_with fail
   refine X0.out.mono ?_;rintro e4 w4 ⟨la,lc,rfl,g4,b4⟩;have hcp:=mQ eN.out.ok;have BA:=IV eN.out.ok pc afu.1 ((tg s s.bj).pu.left 0) (Un s s.bj ⟨XZ g4,hcp⟩) eN.out.on eN.out.lK;simp only[] at BA;obtain⟨⟨k1,s1⟩,hf⟩: ∃f,s.feed (more.take pc) ((tg s s.bj).pu.left 0)=f:=⟨_,rfl⟩
   rw[hf] at BA;simp only at BA;obtain⟨r1,r2,r3,r4,r5,kk,u,r6,r7,r8,r9,r10,r11,r12,r13,r14⟩:=BA;have HCK:=hid (QS ⟨hN0,by omega⟩ g4 (more.take pc) (by rw[X4];omega) hf r2);rw[FD.out] at HCK;have B4:=hid (hb.trans (b4.mono Ut.out));have YS:k1≤ml:=by rw[X4] at r1;omega
   have amI:(k1:Int)≤(ml:Int):=by omega
   have amJ:(0:Int)≤(k1:Int):=by omega
   clear g4 b4 hb X0;by_cases hm:more.drop k1= []
   ·have hsf: ∀W,(Instr.slice 9 (.string (bytesOf more)) (some (.int .i64 (k1:Int))) none none).run prog W= .ok (.string ⟨#[]⟩) W:=fun W=>by rw[run_slice_string_from_if W 9 (bytesOf more) .i64 k1 underlying9,if_pos (by rw[YZ];omega)];rw[show Int.toNat (k1:Int)=k1 from rfl,Fo _ _ _ (by rw[YZ];omega),hm];rfl
    go_wp2_with fail
    refine HCK.out.mono ?_;rintro e5 w5 ⟨rfl,L5,g5,X5,b5⟩;have HHF:=hid (Us ⟨hN0,by omega⟩ g5 (r4 hm) r3);rw[X5] at HHF;have B5:=hid (B4.out.trans (b5.mono Ut.out));have amL:=hid X5;clear g5 b5 X5 HCK;go_wp2_with fail
    refine HHF.out.mono ?_;rintro e6 w6 ⟨⟨y6,rfl⟩,L6,g6,IY,b6⟩;have b6':=B5.out.trans (b6.mono Ut.out);clear b6 HHF;have X6:=hid (QT ⟨hN0,by omega⟩ g6 r6 r14 r7 r9);rw[IY] at X6;have B6:=hid b6';have afy:=hid IY;clear g6 b6' IY;go_wp2_with fail
    refine X6.out.mono ?_;rintro e7 w7 ⟨⟨ra,rb,rfl⟩,L7,g7,IZ,b7⟩;have X7:=hid (Fp ⟨by omega,by omega⟩ g7 pc r8 r10);rw[IZ] at X7;have B7:=hid (B6.out.trans (b7.mono Ut.out));have afz:=hid IZ;clear g7 b7 IZ X6;go_wp2_with fail
    refine X7.out.mono ?_;rintro e8 w8 ⟨rfl,L8,g8,RM,lC,b8,lu⟩;have lA:=eN.out.sum;rw[r11] at lA;have QV:(done++(bm pc u.q).1).length≤lY.length:=by rw[←lA];simp only[List.length_append];omega
    have abh: ¬281474976710656<(bytesOf done).size+(bytesOf (bm pc u.q).1).size:=by rw[an,an];rw[List.length_append] at QV;omega
    have QW:=aZ done (bm pc u.q).1;have B8:=hid (B7.out.trans (b8.mono Ut.out));have lz:Hid (IX t base L.gb lY w8 (done++(bm pc u.q).1) (more.drop k1) (R-1)):=hid (by
     rcases lu with⟨c1,c2,c3⟩|⟨c1,rfl⟩
     ·refine inr ⟨g8,_,L8,c3,?_,RM,lC⟩;rw[←lA,c2];unfold ag.left;rw[if_pos c1,List.append_nil,List.append_nil]
     ·exact inl ⟨_,_,L8,⟨r12,r9,c1,by rw[List.append_assoc];exact lA,by have:=eN.out.size;omega⟩,RM,lC,by omega,by omega⟩)
    clear g8 RM lC b8 lu lA X7;go_wp2_with fail
    go_roundw;case rel=>exact⟨more.drop k1,done++(bm pc u.q).1,R-1,by omega,by rw[hm];rfl,by first|rfl|rw[QW],by go_num,by rw[List.length_drop];omega,QV,lz.out,B8.out⟩
    case measure=>simp[intOf];omega
   ·have hsf: ∀W,(Instr.slice 9 (.string (bytesOf more)) (some (.int .i64 (k1:Int))) none none).run prog W= .ok (.string (bytesOf (more.drop k1))) W:=fun W=>by rw[run_slice_string_from_if W 9 (bytesOf more) .i64 k1 underlying9,if_pos (by rw[YZ];omega)];rw[show Int.toNat (k1:Int)=k1 from rfl,Fo _ _ _ (by rw[YZ];omega)]
    have Wc: ¬bytesOf (more.drop k1)=⟨#[]⟩:=fun h=>hm (by have h2:=ix (more.drop k1);rw[h] at h2;exact h2.symm);obtain⟨kD,iL⟩:=Ff Wc;go_wp2_with fail
    refine HCK.out.mono ?_;rintro e6 w6 ⟨rfl,L6,g6',IY,b6⟩;have g6:=g6';rw[←r5 hm] at g6;have b6':=B4.out.trans (b6.mono Ut.out);clear b6 HCK g6';have X6:=hid (QT ⟨hN0,by omega⟩ g6 r6 r14 r7 r9);rw[IY] at X6;have B6:=hid b6';have afy:=hid IY;clear g6 b6' IY;go_wp2_with fail
    refine X6.out.mono ?_;rintro e7 w7 ⟨⟨ra,rb,rfl⟩,L7,g7,IZ,b7⟩;have X7:=hid (Fp ⟨by omega,by omega⟩ g7 pc r8 r10);rw[IZ] at X7;have B7:=hid (B6.out.trans (b7.mono Ut.out));have afz:=hid IZ;clear g7 b7 IZ X6;go_wp2_with fail
    refine X7.out.mono ?_;rintro e8 w8 ⟨rfl,L8,g8,RM,lC,b8,lu⟩;have lA:=eN.out.sum;rw[r11] at lA;have QV:(done++(bm pc u.q).1).length≤lY.length:=by rw[←lA];simp only[List.length_append];omega
    have abh: ¬281474976710656<(bytesOf done).size+(bytesOf (bm pc u.q).1).size:=by rw[an,an];rw[List.length_append] at QV;omega
    have QW:=aZ done (bm pc u.q).1;have B8:=hid (B7.out.trans (b8.mono Ut.out));have lz:Hid (IX t base L.gb lY w8 (done++(bm pc u.q).1) (more.drop k1) (R-1)):=hid (by
     rcases lu with⟨c1,c2,c3⟩|⟨c1,rfl⟩
     ·refine inr ⟨g8,_,L8,c3,?_,RM,lC⟩;rw[←lA,c2];unfold ag.left;rw[if_pos c1,List.append_nil,List.append_nil]
     ·exact inl ⟨_,_,L8,⟨r12,r9,c1,by rw[List.append_assoc];exact lA,by have:=eN.out.size;omega⟩,RM,lC,by omega,by omega⟩)
    clear g8 RM lC b8 lu lA X7;go_wp2_with fail
    go_roundw;case rel=>exact⟨more.drop k1,done++(bm pc u.q).1,R-1,by omega,rfl,by first|rfl|rw[QW],by go_num,by rw[List.length_drop];omega,QV,lz.out,B8.out⟩
    case measure=>simp[intOf];omega
  ·have X0:=hid (IS hg);rw[To,lr] at X0;subst hdt;obtain⟨n1,ij⟩: ∃k,O.length+1=k:=⟨_,rfl⟩
   obtain⟨n2,ju⟩: ∃k,n1+1=k:=⟨_,rfl⟩
   obtain⟨ts,afA⟩: ∃k,n2+1=k:=⟨_,rfl⟩
   have JP:(bytesOf done).size=ts:=by rw[an];omega
   have jN:IntKind.i64.wrap ((ts:Int)-2)=(n1:Int):=by rw[IntKind.wrap_i64];omega
   have hw4:IntKind.i64.wrap ((n1:Int)+1)=(n2:Int):=by rw[IntKind.wrap_i64];omega
   have hwe:IntKind.i64.wrap e=e:=by rw[IntKind.wrap_i64];omega
   have hy1:(bytesOf [75]).size=1:=by rw[an];rfl
   have hd:=HTT.out;have Af: ∀W,(Instr.slice 9 (.string (bytesOf done)) (some (.int .i64 (1:Int))) (some (.int .i64 (n1:Int))) none).run prog W= .ok (.string (bytesOf O)) W:=fun W=>by rw[run_slice_string_if W 9 (bytesOf done) .i64 .i64 1 n1 underlying9,JP,if_pos ⟨by omega,by omega⟩,if_pos ⟨by decide,by omega⟩];rw[show Int.toNat (n1:Int)=n1 from rfl,show Int.toNat 1=1 from rfl,Ur,←hd,show n1-1=O.length by omega];simp
   have hix: ∀W,(Instr.index 9 (.string (bytesOf done)) (.int .i64 (n2:Int))).run prog W= .ok (.int .u8 e) W:=fun W=>by
    rw[run_index_string W 9 (bytesOf done) .i64 n2 underlying9,dif_pos ⟨by omega,by rw[JP];omega⟩];have h1:done[n2]? =some (UInt8.ofNat e.toNat):=by rw[←hd,←ju,List.getElem?_cons_succ,List.getElem?_append_right (by omega),show n1-O.length=1 by omega];rfl
    have h2:(bytesOf done)[n2]'(by omega)=UInt8.ofNat e.toNat:=(MJ done n2 (by omega) (fv h1)).trans ((List.getElem_eq_iff (fv h1)).2 h1);have h3:((bytesOf done)[Int.toNat (n2:Int)]'(by show n2<_;omega))=UInt8.ofNat e.toNat:=h2;rw[h3,UInt8.toNat_ofNat'];congr 2;omega
   clear hd afA ij ju Vn hO;clear hg lr;go_wp2_with fail
   refine X0.out.mono ?_;rintro e4 w4 ⟨la,lc,rfl,g4,b4⟩;have B4:=hid (hb.trans (b4.mono Ut.out));clear g4 b4 hb X0;go_wp2_with fail
   refine rg (fun w'=>I [] w4 w') ((I.refl [] w4).drew) fun HH=> ?_;refine tk 0 HH.out ?_;try simp only[gz]
   refine tk 3 HH.out ?_;try simp only[gz]
   refine tk 5 HH.out ?_;try simp only[gz]
   refine tk 6 HH.out ?_;try simp only[gz]
   refine tk 7 HH.out ?_;try simp only[gz]
   refine tk 8 HH.out ?_;try simp only[gz]
   refine tk 9 HH.out ?_;try simp only[gz]
   refine rd 1 fun K hK=> ?_;go_simp;refine(HY.out _).mono ?_;rintro e5 w5 ⟨rfl,rfl⟩;try simp only[]
   clear HH;refine hK.out _ _ ((I.refl [] w4).drew) fun HH=> ?_;clear hK K;refine tk 2 HH.out ?_;try simp only[gz]
   refine tk 4 HH.out ?_;try simp only[gz]
   refine tk 10 HH.out ?_;try simp only[gz]
   refine tk 11 HH.out ?_;try simp only[gz]
   refine wpAnyH_done (by kernel_rfl) ?_ _;go_wp2_with fail
   go_ret2;exact⟨rfl,B4.out.trans ((((I.refl [] w4).drew).all).mono B4.out.size)⟩
end Go.Proofs.YthffblhdjjbkaaaGreat
