/- lexer.Lexer; lexer.Lexer -/
import Derived.Test.YthffblhdjjbkaaaGreatM13
import Derived.Laws.AppendOwnNone
set_option maxHeartbeats 100000000
set_option maxRecDepth 1000000
open Go.Lib (hid)
open Go.Proofs.Tryz
open Or (inl inr)
namespace Go.Proofs.YthffblhdjjbkaaaGreat
open Go.RowKit Go.Tru
theorem AP (base b:Nat) (post:List Value) (T:TypeId) (L:Lex) (F:List Nat) (w:World) (h:dK w base b post T L F) (ht:Ih T post.length) (hs:L.state=1) (he:L.e=0) (M7:L.r.whole=true):Calls prog 145 #[.pointer (some ⟨b,0,none⟩),.int .u8 34] w fun e w'=>dX w base b post T F (L.text 34) e w':=by
 have hL:L.text 34=({L with state:=0,s:=[]},[⟨115,⟨L.s.toArray⟩,false,0⟩]):=by unfold Lex.text;rw[if_pos ⟨rfl,M7⟩]
 rw[hL];obtain⟨iM,p,v,hh,DY⟩:=h;obtain⟨hp,KN,Z4⟩:=DY hs he;have Tn:=KN.ne hh ht.ne;have YN:=yX b _ _ T L.r w (hh.conv (L.uA p v post)) 1 rfl;rw[M7] at YN;obtain⟨g0,g20,g21,g22,dD⟩:=du hh;obtain⟨f0,f20,f21,f22⟩:=eV hh;have h1:=(hh.set 0 (.int .i64 0)).conv (cs':=Lex.cells {L with state:=0,s:=[]} p v++post) (by simp[Lex.cells])
 obtain⟨w1,eK,k1⟩: ∃w1,w1=w.setCell ⟨b,0,none⟩ (.int .i64 0)∧I [b] w w1:=⟨_,rfl,(I.refl _ _).ax _⟩
 rw[←eK] at h1;have PV:=KN.keeps k1 (fun i hi hm=>Tn (by rw[List.mem_singleton] at hm;exact hm▸hi));have DZ:=pX b _ _ T p v base L.s w1 (h1.conv (Lex.nB _ p v post)) 10 (JJ _) PV;have H1:=hid h1;have K1:=hid k1;have HV:=hid Z4;have HB:=hid Tn;obtain⟨ls,Xm⟩: ∃ls:ByteArray,⟨L.s.toArray⟩=ls:=⟨_,rfl⟩
 rw[Xm] at DZ⊢;rw[hs] at g0;have HW:=hid eK;clear hL hh DY hp KN hs he M7 h1 PV eK k1 Z4 Tn ht Xm;go_enter func145,ntmps145;go_wp2_with fail
 refine YN.mono ?_;rintro e wz ⟨rfl,rfl⟩;go_wp2_with fail
 rw[←HW.out];refine DZ.mono ?_;rintro e w2 ⟨rfl,k2⟩;have H2:=hid (H1.out.keeps k2 HB.out);have K2:=hid k2;clear k2 g0 g20 g21 g22 f0 f20 f21 f22 dD;go_wp2_with fail
 go_ret;have kk:I F w w2:=(K1.out.mono (by simpa using iM.1)).trans (K2.out.mono HV.out);exact AO rfl (cZ.one _ _ kk.size ⟨115,ls,false,0⟩ rfl) (eZ (p:=p) (v:=v) iM (H2.out.alloc _) (inl (by simp)) (kk.alloc _))
theorem D0 (base b:Nat) (post:List Value) (T:TypeId) (L:Lex) (x:Int) (F:List Nat) (w:World) (h:dK w base b post T L F) (ht:Ih T post.length) (hx:0≤x) (dE:x≤255) (ak:base≤w.heap.size) (hf:L.Fit) (hs:L.state=1) (he:L.e=0) (hn: ¬ (x=34∧L.r.whole=true)):Calls prog 145 #[.pointer (some ⟨b,0,none⟩),.int .u8 x] w fun e w'=>dX w base b post T F (L.text x) e w':=by
 have hL:L.text x=({L with r:=(L.r.step x).1,s:=L.s++(L.r.step x).2,e:=if(L.r.step x).1.e=0∧200<(L.s++(L.r.step x).2).length then 5 else(L.r.step x).1.e},[]):=by unfold Lex.text;rw[if_neg hn]
 rw[hL];obtain⟨iM,p,v,hh,DY⟩:=h;obtain⟨hp,KN,Z4⟩:=DY hs he;have Tn:=KN.ne hh ht.ne;have YN:=yX b _ _ T L.r w (hh.conv (L.uA p v post)) 1 rfl;have dP:=PU b _ _ T L.r x w (hh.conv (L.uA p v post)) 1 rfl hx dE hf.r;have di:=cA.qL L.r x;obtain⟨r1,out,hro⟩: ∃r1 out,L.r.step x=(r1,out):=⟨_,_,rfl⟩
 rw[hro] at dP di⊢;simp only at dP di⊢;have hs4:=hf.s;have hq:(x==34)=false∨x=34∧L.r.whole=false:=by
  by_cases h34:x=34
  ·right;refine⟨h34,?_⟩;cases hh:L.r.whole
   ·rfl
   ·exact absurd ⟨h34,hh⟩ hn
  ·left;simp[h34]
 have HBF:=hid KN;have HV:=hid Z4;have HB:=hid Tn;have HP:=hid hp;have HT:=hid ht;have HE:=hid he;obtain⟨sv,AQ⟩: ∃sv:ByteArray,⟨out.toArray⟩=sv:=⟨_,rfl⟩
 have Af:sv.data.toList=out:=by rw[←AQ]
 have lx:sv.size=out.length:=by rw[←AQ];rfl
 have HSL:=hid Af;obtain⟨ev,Gp⟩: ∃ev:Int,(if r1.e=0∧200<(L.s++out).length then 5 else r1.e)=ev:=⟨_,rfl⟩
 rw[Gp];have YO:=hid Gp;clear Gp;clear hL hh DY hp KN he Z4 Tn ht hro hn hf;rcases hq with hq|⟨rfl,hq⟩;all_goals
  go_enter func145,ntmps145;go_wp2_with fail
  (try rw[hq] at YN)
  (try (refine YN.mono ?_;rintro e wz ⟨rfl,rfl⟩;go_wp2_with fail))
  refine dP.mono ?_;rintro e w1 ⟨rfl,h1,k1⟩;simp only[gG,AQ];have mx:Has w1 b (Lex.cells {L with r:=r1} p v++post) T:=h1.conv (by rw[Lex.uA]);have PV:=HBF.out.keeps k1 (fun i hi hm=>HB.out (by rw[List.mem_singleton] at hm;exact hm▸hi));have zG:=rS b _ _ T p v base L.s sv w1 (mx.conv (Lex.nB _ p v post)) 10 (JJ _) HP.out (HT.out.at_ _) PV (by omega) (by have:=k1.size;omega);have K1:=hid k1;clear dP h1 k1 mx PV YN;go_wp2_with fail
  refine zG.mono ?_;rintro e w2 ⟨rfl,v2,h2,PW,k2,aJ⟩;have uw:Has w2 b (Lex.cells {L with r:=r1} (.pointer (some ⟨b,10,none⟩)) v2++post) T:=h2.conv (by rw[Lex.nB]);rw[HSL.out] at PW;have Lw:=PW.ne uw HT.out.ne;obtain⟨o2,c2,jz⟩:=PW.shape;obtain⟨g0,g20,g21,g22,dD⟩:=du uw;obtain⟨f0,f20,f21,f22⟩:=eV uw;have h3:=(uw.set 22 (.int .i64 r1.e)).conv (cs':=Lex.cells {L with r:=r1,s:=L.s++out,e:=r1.e} (.pointer (some ⟨b,10,none⟩)) v2++post) (by simp[Lex.cells,cA.cells,cm.cells,cM.cells])
  obtain⟨w3,jN,k3⟩: ∃w3,w3=w2.setCell ⟨b,22,none⟩ (.int .i64 r1.e)∧I [b] w2 w3:=⟨_,rfl,(I.refl _ _).ax _⟩
  have D1:=jN;rw[←jN] at h3;have Xn:=PW.keeps k3 (fun i hi hm=>Lw (by rw[List.mem_singleton] at hm;exact hm▸hi));have jV:I (F++ae v2) w w3∧I F w w3:=by
   have ka:I F w w2:=(K1.out.mono (by simpa using iM.1)).trans (k2.mono (fun i hi=>by
    rcases List.mem_cons.1 hi with rfl|hi
    ·exact iM.1
    ·exact HV.out i hi))
   have kb:I F w w3:=ka.trans (k3.mono (by simpa using iM.1));exact⟨kb.mono (fun i hi=>List.mem_append_left _ hi),kb⟩
  have Xo: ∀i∈F++ae v2,i<w3.heap.size:=fun i hi=>by
   rcases List.mem_append.1 hi with hi|hi
   ·exact Nat.lt_of_lt_of_le (iM.2 i hi) jV.2.size
   ·exact(World.ownsRow.lt Xn i (aa.1 hi)).2
  have Vl: ∀i∈F++ae v2,i∈F∨w.heap.size≤i:=fun i hi=>by
   rcases List.mem_append.1 hi with hi|hi
   ·exact inl hi
   ·rcases aJ i hi with h|h
    ·exact inl (HV.out i h)
    ·exact inr (by have:=K1.out.size;omega)
  obtain⟨n2,ju⟩: ∃n2,(L.s++out).length=n2:=⟨_,rfl⟩
  rw[ju] at jz;subst jz;have hlen:=JB b _ _ T (.pointer (some ⟨b,10,none⟩)) o2 n2 c2 w3 (h3.conv (Lex.nB _ _ _ post)) 10 (JJ _);have H3:=hid h3;have aej:=hid Xn;have KA:=hid jV;have HN:=hid Vl;have FA:=hid Xo;have HBV:=hid Lw;have rG:=hid ju;clear zG h2 PW k2 aJ uw Lw h3 Xn jV Vl Xo k3 jN;by_cases LQ:r1.e=0
  ·by_cases PF:200<n2
   ·have Gp:ev=5:=by rw[←YO.out,if_pos ⟨LQ,by rw[ju];exact PF⟩]
    subst Gp;rw[LQ] at D1;have HRE:=hid LQ;have aek:(200:Int)<(n2:Int):=by omega
    have HW:=hid D1;have H3:=H3.out;rw[LQ] at H3;have H3:=hid H3;obtain⟨g0',ale,alf,alg,Xo⟩:=du H3.out;obtain⟨f0',ali,alj,alk⟩:=eV H3.out;clear LQ PF D1 ju;go_wp2_with fail
    rw[←HW.out];refine hlen.mono ?_;rintro e wz ⟨rfl,rfl⟩;go_wp2_with fail
    go_ret;refine iF rfl ⟨F++ae (.slice o2 n2 c2),⟨⟨List.mem_append_left _ iM.1,fun i hi=>by have:=FA.out i hi;simpa using this⟩,.pointer (some ⟨b,10,none⟩),.slice o2 n2 c2,(H3.out.set 22 (.int .i64 5)).conv (by simp[Lex.cells,cA.cells,cm.cells,cM.cells]),fun _ h5=>by simp at h5⟩,KA.out.2.setCell (inl iM.1) _,HN.out⟩
   ·have Gp:ev=0:=by rw[←YO.out,if_neg (fun h=>PF (by rw[←ju];exact h.2)),LQ]
    subst Gp;rw[LQ] at D1;have aek: ¬ (200:Int)<(n2:Int):=by omega
    have HW:=hid D1;have HRE:=hid LQ;clear LQ PF D1 ju;go_wp2_with fail
    rw[←HW.out];refine hlen.mono ?_;rintro e wz ⟨rfl,rfl⟩;go_wp2_with fail
    go_ret;refine iF rfl ⟨F++ae (.slice o2 n2 c2),⟨⟨List.mem_append_left _ iM.1,fun i hi=>by have:=FA.out i hi;simpa using this⟩,_,_,H3.out.conv (by simp[HRE.out];try rfl),fun _ _=>⟨inr rfl,aej.out,fun i hi=>List.mem_append_right _ hi⟩⟩,KA.out.2,HN.out⟩
  ·have Gp:ev=r1.e:=by rw[←YO.out,if_neg (fun h=>LQ h.1)]
   subst Gp;have alm:(r1.e==0)=false:=by simp[LQ]
   have HW:=hid D1;have HRE:=hid LQ;clear LQ D1 ju;go_wp2_with fail
   rw[←HW.out];go_ret;refine iF rfl ⟨F++ae (.slice o2 n2 c2),⟨⟨List.mem_append_left _ iM.1,fun i hi=>by have:=FA.out i hi;simpa using this⟩,_,_,H3.out,fun _ h5=>absurd h5 HRE.out⟩,KA.out.2,HN.out⟩
theorem PX (base b:Nat) (post:List Value) (T:TypeId) (L:Lex) (x:Int) (F:List Nat) (w:World) (h:dK w base b post T L F) (ht:Ih T post.length) (hx:0≤x) (dE:x≤255) (ak:base≤w.heap.size) (hf:L.Fit) (hs:L.state=1) (he:L.e=0):Calls prog 145 #[.pointer (some ⟨b,0,none⟩),.int .u8 x] w fun e w'=>dX w base b post T F (L.text x) e w':=by
 by_cases hn:x=34∧L.r.whole=true
 ·obtain⟨rfl,hw⟩:=hn;exact AP base b post T L F w h ht hs he hw
 ·exact D0 base b post T L x F w h ht hx dE ak hf hs he hn
/-! ### words -/
theorem wG {w:World} {b k:Nat} {cs:List Value} {t:TypeId} {s:ByteArray} {pos:Nat} (h:Has w b cs t) (hb:b≠k):Has (w.iterAt k s pos) b cs t:=(Lib.iterAt_other w k b s pos hb).trans h
theorem qc {F:List Nat} {a w:World} {k:Nat} {s:ByteArray} {pos:Nat} (h:I F a w) (hk:a.heap.size≤k):I F a (w.iterAt k s pos):=h.trans' (G:=[k]) ⟨rfl,rfl,rfl,by rw[Lib.iterAt_size];exact Nat.le_refl _,fun i hi hn=>Lib.iterAt_other w k i s pos (by simpa using hn)⟩ (fun i hi=>inr (by rw[List.mem_singleton.1 hi];exact hk))
theorem PY (x:UInt8) (t:List UInt8):(⟨(x::t).toArray⟩:ByteArray).extract 1 (t.length+1)=⟨t.toArray⟩:=by apply ByteArray.ext;simp[ByteArray.extract,ByteArray.copySlice]
def rn (b:Nat) (post:List Value) (T:TypeId) (L:Lex) (p v:Value) (w:World) (s:ByteArray) (wr:World):Prop:=
 Has wr b (L.cells p v++post) T∧wr.heap[w.heap.size]? =some (.stringIter s 0)∧I [] w wr
theorem jR {b:Nat} {post:List Value} {T:TypeId} {L:Lex} {p v:Value} {w:World} (h:Has w b (L.cells p v++post) T) (s:ByteArray):rn b post T L p v w s (w.alloc (.stringIter s 0)):=⟨h.alloc _,World.iter_heap w s 0,(I.refl _ _).alloc _⟩
theorem xX (base b:Nat) (post:List Value) (T:TypeId) (L:Lex) (x:Int) (F:List Nat) (w:World) (h:dK w base b post T L F) (hs:L.state=3) (hr:L.rest= []):Calls prog 146 #[.pointer (some ⟨b,0,none⟩),.int .u8 x] w fun e w'=>dX w base b post T F (L.word x) e w':=by
 have hL:L.word x=({L with e:=2},[]):=by unfold Lex.word;rw[hr]
 rw[hL];obtain⟨iM,p,v,hh,_⟩:=h;obtain⟨g0,g20,g21,g22,dD⟩:=du hh;rw[hr] at g20;have HH:=hid hh;have HS:=hid hs;clear hL hh hs hr;go_enter func146,ntmps146;go_wp2_with fail
 go_loopw [6] (fun _ wr=>rn b post T L p v w ⟨#[]⟩ wr) (fun _ _=>0);case atStart=>exact jR HH.out _
 case round=>
  obtain⟨h1,hit,k1⟩:=hrel;have iy: ∀ty,(Instr.next (.pointer (some ⟨w.heap.size,0,none⟩)) true ty).run prog wr=_:=fun ty=>Lib.run_next_end_at wr w.heap.size ⟨#[]⟩ 0 ty hit (by decide);obtain⟨g0,g20,g21,g22,dD⟩:=du h1;obtain⟨f0,f20,f21,f22⟩:=eV h1;have H1:=hid h1;have K1:=hid k1;clear h1 hit k1;go_wp2_with fail
  go_ret;refine oz rfl (eZ (p:=p) (v:=v) iM ((H1.out.set 22 _).conv ?_) (inl ?_) ((K1.out.mono (by simp)).setCell (inl iM.1) _))
  ·simp[Lex.cells,cA.cells,cm.cells,cM.cells]
  ·simp[HS.out]
theorem AR (base b:Nat) (post:List Value) (T:TypeId) (L:Lex) (x:Int) (F:List Nat) (w:World) (h:dK w base b post T L F) (hx:0≤x) (dE:x≤255) (hs:L.state=3) {y:UInt8} {t:List UInt8} (hr:L.rest=y::t) (hy:y.toNat<128) (fX: ¬ (y.toNat:Int)=x):Calls prog 146 #[.pointer (some ⟨b,0,none⟩),.int .u8 x] w fun e w'=>dX w base b post T F (L.word x) e w':=by
 have hL:L.word x=({L with e:=2},[]):=by unfold Lex.word;rw[hr];simp only[];rw[if_neg fX]
 rw[hL];obtain⟨iM,p,v,hh,_⟩:=h;obtain⟨g0,g20,g21,g22,dD⟩:=du hh;obtain⟨sv,AQ⟩: ∃sv:ByteArray,⟨L.rest.toArray⟩=sv:=⟨_,rfl⟩
 have lx:0<sv.size:=by rw[←AQ,hr];show 0<(y::t).toArray.size;simp
 have dT:sv[0]'lx=y:=by simp only[←AQ,hr];rfl
 rw[AQ] at g20;have HH:=hid hh;have HS:=hid hs;have aln:((y.toNat:Int) != x)=true:=by simp[fX]
 clear hL hh hs hr AQ fX;go_enter func146,ntmps146;go_wp2_with fail
 go_loopw [6] (fun _ wr=>rn b post T L p v w sv wr) (fun _ _=>0);case atStart=>exact jR HH.out _
 case round=>
  obtain⟨h1,hit,k1⟩:=hrel;have iy: ∀ty,(Instr.next (.pointer (some ⟨w.heap.size,0,none⟩)) true ty).run prog wr=_:=fun ty=>Lib.run_next_any_at wr w.heap.size sv 0 ty hit lx;have ga:=decode_ascii sv 0 lx (by rw[dT];exact hy);rw[ga,dT] at iy;have yk:w.heap.size≠b:=by omega
  have WV:w.heap.size<wr.heap.size:=(Array.getElem?_eq_some_iff.1 hit).1;have h2:=wG (s:=sv) (pos:=0+1) h1 (k:=w.heap.size) (by omega);have k2:=qc (s:=sv) (pos:=0+1) k1 (k:=w.heap.size) (by omega);obtain⟨wi,Vm⟩: ∃wi,wi=wr.iterAt w.heap.size sv (0+1):=⟨_,rfl⟩
  rw[←Vm] at h2 k2 iy;obtain⟨g0,g20,g21,g22,dD⟩:=du h2;obtain⟨f0,f20,f21,f22⟩:=eV h2;have H2:=hid h2;have K2:=hid k2;clear h1 hit k1 h2 k2 Vm ga;go_wp2_with fail
  go_ret;refine oz rfl (eZ (p:=p) (v:=v) iM ((H2.out.set 22 _).conv ?_) (inl ?_) ((K2.out.mono (by simp)).setCell (inl iM.1) _))
  ·simp[Lex.cells,cA.cells,cm.cells,cM.cells]
  ·simp[HS.out]
theorem D2 (base b:Nat) (post:List Value) (T:TypeId) (L:Lex) (x:Int) (F:List Nat) (w:World) (h:dK w base b post T L F) (hs:L.state=3) {y:UInt8} {t:List UInt8} (hr:L.rest=y::t) (hy:y.toNat<128) (fX:(y.toNat:Int)=x) (hlen:t.length≤10):Calls prog 146 #[.pointer (some ⟨b,0,none⟩),.int .u8 x] w fun e w'=>dX w base b post T F (L.word x) e w':=by
 have hL:L.word x=if t= [] then({L with rest:=[],state:=0},[ej.of L.kind]) else({L with rest:=t},[]):=by unfold Lex.word;rw[hr];simp only[];rw[if_pos fX]
 rw[hL];obtain⟨iM,p,v,hh,_⟩:=h;obtain⟨g0,g20,g21,g22,dD⟩:=du hh;obtain⟨sv,AQ⟩: ∃sv:ByteArray,⟨L.rest.toArray⟩=sv:=⟨_,rfl⟩
 obtain⟨tv,Z5⟩: ∃tv:ByteArray,⟨t.toArray⟩=tv:=⟨_,rfl⟩
 have pt:sv.size=t.length+1:=by rw[←AQ,hr];show(y::t).toArray.size=_;simp
 have lx:0<sv.size:=by omega
 have dT:sv[0]'lx=y:=by simp only[←AQ,hr];rfl
 have hcut:sv.extract 1 sv.size=tv:=by rw[pt,←AQ,←Z5,hr];exact PY y t
 rw[AQ] at g20;have Vn:tv.data.toList=t:=by rw[←Z5]
 have HH:=hid hh;have HS:=hid hs;have HT:=hid Z5;have HSV:=hid AQ;obtain⟨kd,hkd⟩: ∃kd,L.kind=kd:=⟨_,rfl⟩
 rw[hkd] at g21⊢;have HK:=hid hkd;subst fX;have zG:IntKind.i32.wrap (y.toNat:Int)=y.toNat:=IntWalk.i32_in _ (by omega);by_cases ht:t= []
 ·rw[if_pos ht];have hem:tv.toList.isEmpty=true:=by rw[Lib.toList_data,Vn,ht];rfl
  have Y9:=hid ht;clear hL hh hs hr AQ ht Vn Z5 hkd pt;go_enter func146,ntmps146;go_wp2_with fail
  go_loopw [6] (fun _ wr=>rn b post T L p v w sv wr) (fun _ _=>0);case atStart=>exact jR HH.out _
  case round=>
   obtain⟨h1,hit,k1⟩:=hrel;have iy: ∀ty,(Instr.next (.pointer (some ⟨w.heap.size,0,none⟩)) true ty).run prog wr=_:=fun ty=>Lib.run_next_any_at wr w.heap.size sv 0 ty hit lx;have ga:=decode_ascii sv 0 lx (by rw[dT];exact hy);rw[ga,dT] at iy;have yk:w.heap.size≠b:=by omega
   have h2:=wG (s:=sv) (pos:=0+1) h1 (k:=w.heap.size) (by omega);have k2:=qc (s:=sv) (pos:=0+1) k1 (k:=w.heap.size) (by omega);obtain⟨wi,Vm⟩: ∃wi,wi=wr.iterAt w.heap.size sv (0+1):=⟨_,rfl⟩
   rw[←Vm] at h2 k2 iy;obtain⟨g0,g20,g21,g22,dD⟩:=du h2;rw[HSV.out] at g20;rw[HK.out] at g21;obtain⟨f0,f20,f21,f22⟩:=eV h2;have H2:=hid h2;have K2:=hid k2;clear h1 hit k1 h2 k2 Vm ga;go_wp2_with fail
   go_ret;refine AO rfl (cZ.one _ _ (by have:=K2.out.size;simpa using this) (ej.of kd) (by simp)) (eZ (p:=p) (v:=v) iM (((((H2.out.set 20 (.string tv)).set 0 (.int .i64 0)).alloc _).conv ?_)) (inl (by simp)) ((((K2.out.mono (by simp)).setCell (inl iM.1) _).setCell (inl iM.1) _).alloc _));rw[←HT.out,Y9.out];simp[Lex.cells,cA.cells,cm.cells,cM.cells,HK.out]
 ·rw[if_neg ht];have hem:tv.toList.isEmpty=false:=by rw[Lib.toList_data,Vn];simp[ht]
  clear hL hh hs hr AQ ht Vn Z5 hkd pt;go_enter func146,ntmps146;go_wp2_with fail
  go_loopw [6] (fun _ wr=>rn b post T L p v w sv wr) (fun _ _=>0);case atStart=>exact jR HH.out _
  case round=>
   obtain⟨h1,hit,k1⟩:=hrel;have iy: ∀ty,(Instr.next (.pointer (some ⟨w.heap.size,0,none⟩)) true ty).run prog wr=_:=fun ty=>Lib.run_next_any_at wr w.heap.size sv 0 ty hit lx;have ga:=decode_ascii sv 0 lx (by rw[dT];exact hy);rw[ga,dT] at iy;have yk:w.heap.size≠b:=by omega
   have h2:=wG (s:=sv) (pos:=0+1) h1 (k:=w.heap.size) (by omega);have k2:=qc (s:=sv) (pos:=0+1) k1 (k:=w.heap.size) (by omega);obtain⟨wi,Vm⟩: ∃wi,wi=wr.iterAt w.heap.size sv (0+1):=⟨_,rfl⟩
   rw[←Vm] at h2 k2 iy;obtain⟨g0,g20,g21,g22,dD⟩:=du h2;rw[HSV.out] at g20;rw[HK.out] at g21;obtain⟨f0,f20,f21,f22⟩:=eV h2;have H2:=hid h2;have K2:=hid k2;clear h1 hit k1 h2 k2 Vm ga;go_wp2_with fail
   go_ret;refine oz rfl (eZ (p:=p) (v:=v) iM ((H2.out.set 20 (.string tv)).conv ?_) (inl (by simp[HS.out])) ((K2.out.mono (by simp)).setCell (inl iM.1) _));rw[←HT.out];simp[Lex.cells,cA.cells,cm.cells,cM.cells,HK.out]
theorem PZ (base b:Nat) (post:List Value) (T:TypeId) (L:Lex) (x:Int) (F:List Nat) (w:World) (h:dK w base b post T L F) (hx:0≤x) (dE:x≤255) (hf:L.Fit) (hs:L.state=3):Calls prog 146 #[.pointer (some ⟨b,0,none⟩),.int .u8 x] w fun e w'=>dX w base b post T F (L.word x) e w':=by
 obtain⟨hl,hr⟩:=hf.rest;match JK:L.rest with
 | []=>exact xX base b post T L x F w h hs JK
 |y::t=>
  rw[JK] at hl hr;have hy:=hr y (by simp);by_cases fX:(y.toNat:Int)=x
  ·exact D2 base b post T L x F w h hs JK hy fX (by simp only[List.length_cons] at hl;omega)
  ·exact AR base b post T L x F w h hx dE hs JK hy fX
/-! ### numbers -/
theorem yY (base b:Nat) (post:List Value) (T:TypeId) (L:Lex) (F:List Nat) (w:World) (h:dK w base b post T L F) (hv:L.n.v<18446744073709551616) (hs:L.state=2):Calls prog 113 #[.pointer (some ⟨b,0,none⟩)] w fun e w'=>∃v,e= .returned v∧cZ w' w.heap.size v L.ended.2∧dK w' base b post T L.ended.1 F∧I F w w':=by
 obtain⟨iM,p,v,hh,_⟩:=h;have eB:=TA b _ _ T L.n w (hh.conv (L.rm p v post)) 12 (Vk L p v) hv;obtain⟨⟨g,m,e⟩,hr⟩: ∃r,L.n.result=r:=⟨_,rfl⟩
 have hL:L.ended=if e≠0 then({L with e:=e},[]) else({L with state:=0,e:=0},[⟨110,⟨#[]⟩,g,m⟩]):=by unfold Lex.ended;rw[hr]
 rw[hL];rw[hr] at eB;simp only[qb] at eB;have HH:=hid hh;have HS:=hid hs;clear hh hL hr hs;by_cases he:e=0
 ·rw[if_neg (by simp[he])];subst he;go_enter func113,ntmps113;go_wp2_with fail
  refine eB.mono ?_;rintro e w1 ⟨rfl,k1⟩;have h1:=HH.out.keeps k1 (by simp);obtain⟨g0,g20,g21,g22,dD⟩:=du h1;obtain⟨f0,f20,f21,f22⟩:=eV h1;have H1:=hid h1;have K1:=hid k1;clear h1 k1 eB;go_wp2_with fail
  go_ret;have kk:=((((K1.out.mono (G:=F) (by simp)).setCell (p:=⟨b,22,none⟩) (inl iM.1) (.int .i64 0)).setCell (p:=⟨b,0,none⟩) (inl iM.1) (.int .i64 0)).alloc (.cells #[.bool g,.int .u64 m] 96)).alloc (.cells #[.int .u8 110,.string ⟨#[]⟩,.bool g,.int .u64 m] 209);refine⟨_,rfl,cZ.one _ _ (by have:=K1.out.size;simp;omega) ⟨110,⟨#[]⟩,g,m⟩ (by simp),⟨⟨iM.1,fun i hi=>Nat.lt_of_lt_of_le (iM.2 i hi) kk.size⟩,p,v,((((H1.out.set 22 _).set 0 _).alloc _).alloc _).conv ?_,fun h5=>by simp at h5⟩,kk⟩;simp[Lex.cells,cA.cells,cm.cells,cM.cells]
 ·rw[if_pos he];have UO:(e != 0)=true:=by simp[he]
  have HE:=hid he;clear he;go_enter func113,ntmps113;go_wp2_with fail
  refine eB.mono ?_;rintro e w1 ⟨rfl,k1⟩;have h1:=HH.out.keeps k1 (by simp);obtain⟨g0,g20,g21,g22,dD⟩:=du h1;obtain⟨f0,f20,f21,f22⟩:=eV h1;have H1:=hid h1;have K1:=hid k1;clear h1 k1 eB;go_wp2_with fail
  go_ret;have kk:=(((K1.out.mono (G:=F) (by simp)).setCell (p:=⟨b,22,none⟩) (inl iM.1) (.int .i64 e)).alloc (.cells #[.bool g,.int .u64 m] 96))
  refine⟨_,rfl,cZ.nil _ _,⟨⟨iM.1,fun i hi=>Nat.lt_of_lt_of_le (iM.2 i hi) kk.size⟩,p,v,((H1.out.set 22 _).alloc _).conv ?_,fun _ h5=>absurd h5 HE.out⟩,kk⟩;simp[Lex.cells,cA.cells,cm.cells,cM.cells]
theorem P0:(Tryz.prog.info? 209).map (fun i=>(i.zero,i.size,i.bytes))=some (some (.agg #[.int .u8 0,.string ⟨#[]⟩,.bool false,.int .u64 0]),4,40):=by kernel_rfl
theorem P1 {ops:Array Oper} {rest:List Oper} {o:Oper} {a:Act} {w:World} {Q:Exit→Act→World→Prop} (sU:o.guard=none) (s x:Operand) (ho:o.op= .call {callee:= .builtin .append,args:= #[s,x],argTypes:= #[186,186]}) (base:Nat) (v:Value) (l:List ej) (hs:a.eval s=v) (au:w.ownsRow base 209 4 v l.length (l.flatMap ej.cells)) (B:Nat) (u:Value) (m:List ej) (hx:a.eval x=u) (hu:cZ w B u m) (hlen:l.length+m.length≤1000000) (ak:base≤w.heap.size) (h: ∀v' w',DX w' base v' (l++m)→I (ae v) w w'→(v'.ownBlock=v.ownBlock∨v'.ownBlock=some w.heap.size)→(m= []→v'=v)→wpList prog ops Q rest (a.put o.dst v') w'):wpList prog ops Q (o::rest) a w:=by
 obtain⟨i0,hi,ko,gv,gW⟩:=info_parts P0;by_cases hm:m= []
 ·have Lx:=hu.2 hm;subst Lx;refine wpList_append_own_none sU s x 186 ho base 209 i0 4 underlying186 hi v l.length (l.flatMap ej.cells) hs au hx ?_;refine h v w ?_ (I.refl _ _) (inl rfl) (fun _=>rfl);rw[hm,List.append_nil];exact au
 ·obtain⟨g,cap,rfl⟩: ∃g cap,u= .slice (some ⟨g,0,none⟩) m.length cap:=by
   rcases hu.1.2 with⟨_,h0⟩|⟨g,cap,cur,hv,_⟩
   ·exact absurd (List.length_eq_zero_iff.1 h0) hm
   ·exact⟨g,cap,hv⟩
  refine wpList_append_own_at w sU s x 186 ho base 209 i0 (.agg #[.int .u8 0,.string ⟨#[]⟩,.bool false,.int .u64 0]) 4 40 underlying186 hi ko gv gW rfl (by decide) v l.length (l.flatMap ej.cells) hs au ⟨g,0,none⟩ m.length cap (m.flatMap ej.cells) hx (AN m) (hu.1.cells (g:=g) rfl) (TH m) (by unfold maxLen;omega) (by omega) ak ?_;intro v' w' h2 h3 _ h5;refine h v' w' ?_ (cD h3) h5 (fun h0=>absurd h0 hm);unfold DX;rw[List.length_append,List.flatMap_append];exact h2
theorem Ii (base b:Nat) (post:List Value) (T:TypeId) (L:Lex) (x:Int) (F:List Nat) (w:World) (h:dK w base b post T L F) (hx:0≤x) (dE:x≤255) (hf:L.Fit) (hs:L.state=2):Calls prog 147 #[.pointer (some ⟨b,0,none⟩),.int .u8 x] w fun e w'=>dX w base b post T F (L.number x) e w':=by
 obtain⟨iM,p,v,hh,_⟩:=h;have Ah:=DV b _ _ T L.n x w (hh.conv (L.rm p v post)) 12 (Vk L p v) ⟨hx,dE⟩ hf.v;have jz:=qM hf.v x;obtain⟨n',hn'⟩: ∃n',L.n.after x=n':=⟨_,rfl⟩
 obtain⟨tk,Ld⟩: ∃tk,L.n.kf x=tk:=⟨_,rfl⟩
 have hL:L.number x=if tk=true∨n'.e≠0 then({L with n:=n',e:=n'.e},[]) else if(Lex.ended {L with n:=n',e:=0}).1.e≠0 then((Lex.ended {L with n:=n',e:=0}).1,[]) else(((Lex.ended {L with n:=n',e:=0}).1.aj x).1,(Lex.ended {L with n:=n',e:=0}).2++((Lex.ended {L with n:=n',e:=0}).1.aj x).2):=by unfold Lex.number;rw[hn',Ld]
 rw[hL];rw[hn',Ld] at Ah;rw[hn'] at jz;have HS:=hid hs;have HV2:=hid jz;clear hL hn' Ld hh hs jz hf;have start: ∀ (w1:World),Has w1 b ([.int .i64 L.state]++L.r.cells++[p,v]++n'.cells++([.string ⟨L.rest.toArray⟩,.int .u8 L.kind,.int .i64 L.e]++post)) T→Has w1 b (Lex.cells {L with n:=n'} p v++post) T:=fun w1 h1=>h1.conv (by rw[Lex.rm]);by_cases hc:tk=true∨n'.e≠0
 ·rw[if_pos hc];have Nx:tk=true∨tk=false∧(n'.e != 0)=true:=by
   cases tk
   ·right;refine⟨rfl,?_⟩;rcases hc with h|h
    ·cases h
    ·simp[h]
   ·exact inl rfl
  clear hc;rcases Nx with rfl|⟨rfl,fX⟩;all_goals
   go_enter func147,ntmps147;go_wp2_with fail
   refine Ah.mono ?_;rintro e w1 ⟨rfl,h1,k1⟩;have h2:=start w1 h1;obtain⟨g0,g20,g21,g22,dD⟩:=du h2;obtain⟨f0,f20,f21,f22⟩:=eV h2;have H2:=hid h2;have K1:=hid k1;clear h1 k1 Ah h2 start;go_wp2_with fail
   go_ret;refine oz rfl (eZ (p:=p) (v:=v) iM ((H2.out.set 22 _).conv ?_) (inl (by simp[HS.out])) ((K1.out.mono (by simpa using iM.1)).setCell (inl iM.1) _));simp[Lex.cells,cA.cells,cm.cells,cM.cells]
 ·rw[if_neg hc];obtain⟨rfl,fX⟩:tk=false∧n'.e=0:=by
   constructor
   ·cases tk
    ·rfl
    ·exact absurd (inl rfl) hc
   ·exact Decidable.not_not.1 (fun hh=>hc (inr hh))
  rw[fX] at Ah;obtain⟨⟨L3,t3⟩,h3⟩: ∃r,Lex.ended {L with n:=n',e:=0}=r:=⟨_,rfl⟩
  have hl3:L3.e=0→L3.state≠1:=fun h5=>by
   have gp:L3.state=0∨L3.e≠0:=by
    have:L3=(Lex.ended {L with n:=n',e:=0}).1:=by rw[h3]
    rw[this];unfold Lex.ended;split
    ·rename_i hh;exact inr hh
    ·exact inl rfl
   rcases gp with h6|h6
   ·omega
   ·exact absurd h5 h6
  have ht3:t3.length≤1:=by
   have:t3=(Lex.ended {L with n:=n',e:=0}).2:=by rw[h3]
   rw[this];unfold Lex.ended;split<;>simp
  have ht4: ∀M:Lex,(M.aj x).2.length≤1:=fun M=>by
   unfold Lex.aj;repeat' split
   all_goals simp
  rw[h3];simp only;obtain⟨res,iI⟩: ∃res,(if L3.e≠0 then(L3,([]:List ej)) else((L3.aj x).1,t3++(L3.aj x).2))=res:=⟨_,rfl⟩
  rw[iI];have rO:=hid iI;clear iI;obtain⟨w2,gU⟩: ∃w2:World→World,∀w1,w2 w1=w1.setCell ⟨b,22,none⟩ (.int .i64 0):=⟨fun w1=>w1.setCell ⟨b,22,none⟩ (.int .i64 0),fun _=>rfl⟩
  have H3:=hid h3;have HL3:=hid hl3;have HW:=hid gU;have HC:=hid hc;clear gU hc fX h3 hl3;go_enter func147,ntmps147;go_wp2_with fail
  refine Ah.mono ?_;rintro e w1 ⟨rfl,h1,k1⟩;have h2:=start w1 h1;obtain⟨g0,g20,g21,g22,dD⟩:=du h2;obtain⟨f0,f20,f21,f22⟩:=eV h2;have uw:=(h2.set 22 (.int .i64 0)).conv (cs':=Lex.cells {L with n:=n',e:=0} p v++post) (by simp[Lex.cells,cA.cells,cm.cells,cM.cells])
  have k2:I F w (w1.setCell ⟨b,22,none⟩ (.int .i64 0)):=(k1.mono (by simpa using iM.1)).setCell (inl iM.1) _;have iT:dK (w1.setCell ⟨b,22,none⟩ (.int .i64 0)) base b post T {L with n:=n',e:=0} F:=⟨⟨iM.1,fun i hi=>Nat.lt_of_lt_of_le (iM.2 i hi) k2.size⟩,p,v,uw,fun h5=>by have:=HS.out;simp only at h5;omega⟩
  have eB:=yY base b post T _ F _ iT HV2.out HS.out;rw[H3.out] at eB;have HF:=hid iM.2;have K2:=hid k2;have HB:=hid iM.1;clear h1 k1 Ah h2 start uw k2 iT iM;go_wp2_with fail
  refine eB.mono ?_;rintro e w3 ⟨v3,rfl,Yw,TJ,k3⟩;obtain⟨g0,g22⟩:=iw TJ;have TI:=TJ.Z3;have K3:=hid k3;have Z6:=hid TJ;have Zi:=hid Yw;clear eB Yw TJ k3 f0 f20 f21 f22 g20 g21;by_cases R8:L3.e=0
  ·have ael:=tD base b post T L3 x F w3 Z6.out hx dE (HL3.out R8);have TK:res=((L3.aj x).1,t3++(L3.aj x).2):=by rw[←rO.out,if_neg (by simp[R8])]
   have HIF:=hid TK;rw[R8] at g22;clear TK R8;go_wp2_with fail
   refine ael.mono ?_;rintro e w4 ⟨v4,F4,rfl,ho4,Ij,k4,fW,_⟩;have Sa: ∀i∈ae v3,i<w3.heap.size∧w.heap.size≤i∧i∉F:=fun i hi=>by have h6:=Zi.out.1.lt i (aa.1 hi);have h7:=K2.out.size;refine⟨h6.2,by omega,fun hm=> ?_⟩;have:=HF.out i hm;omega
   have aen:=Zi.out.keeps k4 (fun i hi=>(Sa i hi).2.2);have aeo:w.heap.size≤w4.heap.size:=by have:=K2.out.size;have:=K3.out.size;have:=k4.size;omega
   go_wp2_with (at_builtin;refine P1 rfl _ _ rfl w.heap.size v3 t3 rfl (gM aen.1 (by have:=K2.out.size;omega)) w3.heap.size v4 _ rfl ho4 (by have:=ht4 L3;omega) aeo ?_)
   intro v5 w5 de k5 yl Z7;have cO:=hid de;clear de;go_wp2_with fail
   go_ret;rw[HIF.out];have kw5:I F w w5:=by
    have ka:I F w w4:=((K2.out.trans K3.out).trans k4)
    exact ka.trans' k5 (fun i hi=>inr (Sa i hi).2.1)
   refine⟨v5,F4,rfl,⟨cO.out,fun h0=> ?_⟩,Ij.keeps k5 (fun i hi hm=> ?_),kw5,fun i hi=> ?_,fun i hi hm=> ?_⟩
   ·have h8:v3= .slice none 0 0:=Zi.out.2 (List.append_eq_nil_iff.1 h0).1;rw[Z7 (List.append_eq_nil_iff.1 h0).2,h8]
   ·have:=Sa i hm;rcases fW i hi with h8|h8
    ·exact this.2.2 h8
    ·omega
   ·rcases fW i hi with h8|h8
    ·exact inl h8
    ·have:=K2.out.size;have:=K3.out.size;exact inr (by omega)
   ·rw[aa] at hm;rcases yl with h9|h9
    ·rw[h9,←aa] at hm;have:=Sa i hm;rcases fW i hi with h8|h8
     ·exact this.2.2 h8
     ·omega
    ·rw[h9] at hm;injection hm with hm;have:=Ij.1.2 i hi;omega
  ·have TK:res=(L3,[]):=by rw[←rO.out,if_pos R8]
   have HIF:=hid TK;have alr:(L3.e != 0)=true:=by simp[R8]
   clear TK R8;go_wp2_with fail
   go_ret;rw[HIF.out];exact iF rfl ⟨F,Z6.out,K2.out.trans K3.out,fun i hi=>inl hi⟩
def uq (v:Value) (e:Int):Value:= .tuple #[v,.int .i64 e]
def oA (w:World) (base b:Nat) (post:List Value) (T:TypeId) (F:List Nat) (r:Lex×List ej) (e:Ending) (w':World):Prop:=
 ∃v F',e= .returned (uq v r.1.e)∧cZ w' w.heap.size v r.2∧dK w' base b post T r.1 F'∧I F w w'∧(∀i∈F',i∈F∨w.heap.size≤i)∧∀i∈F',i∉ae v
theorem rp {w w':World} {base b:Nat} {post:List Value} {T:TypeId} {F:List Nat} {L':Lex} {e:Ending} (he:e= .returned (uq (.slice none 0 0) L'.e)) (h:gj w base b post T F L' w'):oA w base b post T F (L',[]) e w':=by obtain⟨F',h1,h2,h3⟩:=h;exact⟨_,F',he,cZ.nil _ _,h1,h2,h3,by simp[aR]⟩
theorem P2 {w w':World} {base b:Nat} {post:List Value} {T:TypeId} {F:List Nat} {L':Lex} {t:List ej} {e:Ending} {v:Value} (he:e= .returned (uq v L'.e)) (ho:cZ w' w.heap.size v t) (h:ig w base b post T F L' w'):oA w base b post T F (L',t) e w':=
 ⟨v,F,he,ho,h.1,h.2.1,fun _ hi=>inl hi,fun i hi hm=>by
  have h1:=ho.1.lt i (aa.1 hm)
  have h2:=h.2.2 i hi
  omega⟩
theorem ig.drew {w:World} {base b:Nat} {post:List Value} {T:TypeId} {F:List Nat} {L:Lex} {w':World} (h:ig w base b post T F L w'):ig w base b post T F L w'.drew:=⟨h.1.keeps (G:=[]) (I.refl _ _).drew (by simp),h.2.1.drew,h.2.2⟩
theorem gj.drew {w:World} {base b:Nat} {post:List Value} {T:TypeId} {F:List Nat} {L:Lex} {w':World} (h:gj w base b post T F L w'):gj w base b post T F L w'.drew:=by obtain⟨F',h1,h2,h3⟩:=h;exact⟨F',h1.keeps (G:=[]) (I.refl _ _).drew (by simp),h2.drew,h3⟩
theorem cZ.drew {w:World} {B:Nat} {v:Value} {l:List ej} (h:cZ w B v l):cZ w.drew B v l:=h
theorem AS (base b:Nat) (post:List Value) (T:TypeId) (L:Lex) (x:Int) (F:List Nat) (w:World) (h:dK w base b post T L F) (he: ¬L.e=0):Calls prog 143 #[.pointer (some ⟨b,0,none⟩),.int .u8 x] w fun e w'=>oA w base b post T F (L.step x) e w':=by
 have hs:L.step x=(L,[]):=by unfold Lex.step;rw[if_pos he]
 rw[hs];have UO:(L.e != 0)=true:=by simp[he]
 obtain⟨g0,g22⟩:=iw h;have H:=hid h;clear h he hs;go_enter func143,ntmps143;go_wp2_with fail
 go_region;all_goals
  go_wp2_with fail
  go_ret2;exact rp rfl ⟨F,H.out.keeps (G:=[]) (I.refl _ _).drew (by simp),(I.refl _ _).drew,fun i hi=>inl hi⟩
theorem NA (base b:Nat) (post:List Value) (T:TypeId) (L:Lex) (x:Int) (F:List Nat) (w:World) (h:dK w base b post T L F) (ht:Ih T post.length) (hx:0≤x) (dE:x≤255) (ak:base≤w.heap.size) (hf:L.Fit):Calls prog 143 #[.pointer (some ⟨b,0,none⟩),.int .u8 x] w fun e w'=>oA w base b post T F (L.step x) e w':=by
 by_cases he:L.e=0
 ·obtain⟨⟨L',ts⟩,hr⟩: ∃r,L.jZ x=r:=⟨_,rfl⟩
  have hs:L.step x=(L',if L'.e≠0 then [] else ts):=by unfold Lex.step;rw[if_neg (by simp[he]),hr]
  rw[hs];obtain⟨res,iI⟩: ∃res,(if L'.e≠0 then([]:List ej) else ts)=res:=⟨_,rfl⟩
  rw[iI];have rO:=hid iI;obtain⟨g0,g22⟩:=iw h;rw[he] at g22;have lH:L.state=1∧Calls prog 145 #[.pointer (some ⟨b,0,none⟩),.int .u8 x] w (fun e w'=>dX w base b post T F (L',ts) e w')∨(L.state==1)=false∧L.state=3∧Calls prog 146 #[.pointer (some ⟨b,0,none⟩),.int .u8 x] w (fun e w'=>dX w base b post T F (L',ts) e w')∨(L.state==1)=false∧(L.state==3)=false∧L.state=2∧Calls prog 147 #[.pointer (some ⟨b,0,none⟩),.int .u8 x] w (fun e w'=>dX w base b post T F (L',ts) e w')∨(L.state==1)=false∧(L.state==3)=false∧(L.state==2)=false∧Calls prog 148 #[.pointer (some ⟨b,0,none⟩),.int .u8 x] w (fun e w'=>dX w base b post T F (L',ts) e w'):=by
   unfold Lex.jZ at hr;by_cases h1:L.state=1
   ·rw[if_pos h1] at hr;exact inl ⟨h1,hr▸PX base b post T L x F w h ht hx dE ak hf h1 he⟩
   ·rw[if_neg h1] at hr;by_cases h3:L.state=3
    ·rw[if_pos h3] at hr;exact inr (inl ⟨by simp[h1],h3,hr▸PZ base b post T L x F w h hx dE hf h3⟩)
    ·rw[if_neg h3] at hr;by_cases h2:L.state=2
     ·rw[if_pos h2] at hr;exact inr (inr (inl ⟨by simp[h1],by simp[h3],h2,hr▸Ii base b post T L x F w h hx dE hf h2⟩))
     ·rw[if_neg h2] at hr;exact inr (inr (inr ⟨by simp[h1],by simp[h3],by simp[h2],hr▸tD base b post T L x F w h hx dE h1⟩))
  clear hs hr iI h he hf ht ak;rcases lH with⟨h1,hc⟩|⟨h1,h3,hc⟩|⟨h1,h3,h2,hc⟩|⟨h1,h3,h2,hc⟩;all_goals
   (try rw[h1] at g0)
   (try rw[h3] at g0)
   (try rw[h2] at g0)
   go_enter func143,ntmps143;go_wp2_with fail
   refine hc.mono ?_;rintro e w1 ⟨v1,F1,rfl,AU,mh,k1,ij,U5⟩;obtain⟨c0,c22⟩:=iw mh;have als:=mh.Z3;have HP:=hid (⟨F1,mh,k1,ij⟩:gj w base b post T F L' w1);have HO:=hid AU;have HD:=hid (⟨mh,k1,ij,U5⟩:dK w1 base b post T L' F1∧I F w w1∧(∀i∈F1,i∈F∨w.heap.size≤i)∧∀i∈F1,i∉ae v1);clear hc AU mh k1 ij U5 g0 g22;by_cases LI:L'.e=0
   ·have TK:res=ts:=by rw[←rO.out,if_neg (by simp[LI])]
    rw[LI] at c22;have HE:=hid LI;subst TK;clear LI;go_wp2_with fail
    go_ret2;exact⟨v1,F1,by rw[HE.out];rfl,HO.out,HD.out⟩
   ·have TK:res= []:=by rw[←rO.out,if_pos LI]
    have alu:(L'.e != 0)=true:=by simp[LI]
    subst TK;clear LI;go_wp2_with fail
    go_region;all_goals
     go_wp2_with fail
     go_ret2;exact rp rfl (gj.drew HP.out)
 ·exact AS base b post T L x F w h he
theorem Sk (base b:Nat) (post:List Value) (T:TypeId) (L:Lex) (F:List Nat) (w:World) (h:dK w base b post T L F) (hf:L.Fit):Calls prog 107 #[.pointer (some ⟨b,0,none⟩)] w fun e w'=>oA w base b post T F L.fin e w':=by
 obtain⟨g0,g22⟩:=iw h;by_cases hc:L.e≠0∨L.state=0
 ·have hL:L.fin=(L,[]):=by unfold Lex.fin;rw[if_pos hc]
  rw[hL];have Nx:(L.e != 0)=true∨L.e=0∧L.state=0:=by
   by_cases h1:L.e=0
   ·right;refine⟨h1,?_⟩;rcases hc with h|h
    ·exact absurd h1 h
    ·exact h
   ·left;simp[h1]
  have HP:gj w base b post T F L w.drew:=⟨F,h.keeps (G:=[]) (I.refl _ _).drew (by simp),(I.refl _ _).drew,fun i hi=>inl hi⟩
  have HP:=hid HP;clear h hL hc hf;rcases Nx with h1|⟨h1,h2⟩
  ·go_enter func107,ntmps107;go_wp2_with fail
   go_region;all_goals
    go_wp2_with fail
    go_ret2;exact rp rfl HP.out
  ·have HE:=hid h1;rw[h1] at g22;rw[h2] at g0;clear h1 h2;go_enter func107,ntmps107;go_wp2_with fail
   go_region;all_goals
    go_wp2_with fail
    go_ret2;exact rp (by rw[HE.out];rfl) HP.out
 ·have h1:L.e=0:=Decidable.not_not.1 (fun hh=>hc (inl hh));have h2: ¬L.state=0:=fun hh=>hc (inr hh);by_cases h3:L.state=2
  ·have hL:L.fin=L.ended:=by unfold Lex.fin;rw[if_neg hc,if_pos h3]
   rw[hL];have eB:=yY base b post T L F w h hf.v h3;obtain⟨⟨L',ts⟩,hr⟩: ∃r,L.ended=r:=⟨_,rfl⟩
   rw[hr] at eB⊢;rw[h1] at g22;rw[h3] at g0;simp only at eB;have FA:=hid h.1.2;clear hL hc hf h h1 h2 h3 hr;go_enter func107,ntmps107;go_wp2_with fail
   refine eB.mono ?_;rintro e w1 ⟨v1,rfl,AU,mh,k1⟩;obtain⟨c0,c22⟩:=iw mh;have HP:=hid (⟨mh,k1,FA.out⟩:ig w base b post T F L' w1);have HO:=hid AU;clear eB AU mh k1 g0 g22;go_wp2_with fail
   go_region;all_goals
    go_wp2_with fail
    go_ret2;exact P2 rfl (cZ.drew HO.out) (ig.drew HP.out)
  ·have hL:L.fin=({L with e:=3},[]):=by unfold Lex.fin;rw[if_neg hc,if_neg h3]
   rw[hL];have b0:(L.state==0)=false:=by simp[h2]
   have b3:(L.state==2)=false:=by simp[h3]
   obtain⟨iM,p,v,hh,_⟩:=h;have dD:=hh.lt;have f22:=hh.free 22;rw[h1] at g22;have JI:=(hh.set 22 (.int .i64 3)).conv (cs':=Lex.cells {L with e:=3} p v++post) (by simp[Lex.cells,cA.cells,cm.cells,cM.cells])
   have HP:gj w base b post T F {L with e:=3} (w.setCell ⟨b,22,none⟩ (.int .i64 3)):=(eZ (p:=p) (v:=v) iM JI (inr (by simp)) ((I.refl _ _).setCell (inl iM.1) _)).post;have HP:=hid HP;clear hL hc hf hh h1 h2 h3 JI iM;go_enter func107,ntmps107;go_wp2_with fail
   go_region;all_goals
    go_wp2_with fail
    go_ret2;exact rp rfl (gj.drew HP.out)
end Go.Proofs.YthffblhdjjbkaaaGreat
