/- What works() meets; What works() calls; works() -/
import Derived.Test.YthffblhdjjbkaaaGreatM45
set_option maxHeartbeats 100000000
set_option maxRecDepth 1000000
open Go.Lib (hid)
open Go.Proofs.Tryz
open Or (inl inr)
namespace Go.Proofs.YthffblhdjjbkaaaGreat
open Go.RowKit Go.Tru
def J6:List UInt8:=[84,82,1,3,3,0,50,0]
def wkA:Gt:=sL 1400 2
def wkB:Gt:=wkA.conn 0
def X8:Gt:=wkB.conn 1
def BK:ag:=(ag.new.feed (J6++[91,49,44]) (X8.pu.left 0)).2
def X9:Gt:=X8.put 0 BK
def MK:ag:=(ag.new.feed [84,82] (X9.pu.left 1)).2
def Uu:Gt:=X9.put 1 MK
def gd (T:Pr) (s:ag):ag:=((s.run T 700 16).getD (0,ag.new)).2
def Uv (T:Pr):Gt:=(Uu.jZ 0 0).put 0 (gd T BK)
def Y0 (T:Pr):Gt:=((Uv T).jZ 0 1).put 1 (gd T MK)
def wkH (T:Pr):Gt:=(Y0 T).put 0 ((gd T BK).wrote 9)
def Uw (T:Pr):ag:=(gd T MK).end_ 13 (gd T MK).told
def Y1 (T:Pr):Gt:=(wkH T).put 1 (Uw T)
def Ya (T:Pr):Gt:=((Y1 T).put 1 ((Uw T).wrote 9)).out 1 1
def RN (T:Pr):ag:=(((gd T BK).wrote 9).feed [116,114,117,101,93] ((Ya T).pu.left 0)).2
def wkK (T:Pr):Gt:=(Ya T).put 0 (RN T)
def BB (T:Pr):ag:={RN T with half:=true}
def Ux (T:Pr):Gt:=(wkK T).put 0 (BB T)
def VI (T:Pr):Gt:=((Ux T).jZ 0 0).put 0 (gd T (BB T))
def Yb (T:Pr):Gt:=((VI T).put 0 ((gd T (BB T)).wrote 99)).out 0 0
theorem afC (T:Pr):BK.run T 700 16=some (11,gd T BK):=by kernel_rfl
theorem afD (T:Pr):MK.run T 700 16=some (2,gd T MK):=by kernel_rfl
theorem afE (T:Pr):(BB T).run T 700 16=some (6,gd T (BB T)):=by kernel_rfl
theorem afF (T:Pr):(bm 99 (gd T (BB T)).q).1= [146,1,195,255,0]:=by kernel_rfl
theorem afG (T:Pr):bytesOf (bm 9 (gd T BK).q).1=⟨#[75]⟩:=by kernel_rfl
theorem afH (T:Pr):bytesOf (bm 9 (Uw T).q).1=⟨#[78,13]⟩:=by kernel_rfl
theorem abm (T:Pr):bytesOf (bm 99 (gd T (BB T)).q).1=⟨#[146,1,195,255,0]⟩:=by rw[afF];rfl
theorem at1:At X8 0 0 ag.new:=⟨by kernel_rfl,by kernel_rfl,by kernel_rfl,by decide,by kernel_rfl⟩
theorem UJ:At X9 1 3 ag.new:=⟨by kernel_rfl,by kernel_rfl,by kernel_rfl,by decide,by kernel_rfl⟩
theorem at3:At Uu 0 0 BK:=⟨by kernel_rfl,by kernel_rfl,by kernel_rfl,by decide,by kernel_rfl⟩
theorem at4 (T:Pr):At (Uv T) 1 3 MK:=⟨by kernel_rfl,by kernel_rfl,by kernel_rfl,by decide,by kernel_rfl⟩
theorem at5 (T:Pr):At (Y0 T) 0 0 (gd T BK):=⟨by kernel_rfl,by kernel_rfl,by kernel_rfl,by decide,by kernel_rfl⟩
theorem at6 (T:Pr):At (wkH T) 1 3 (gd T MK):=⟨by kernel_rfl,by kernel_rfl,by kernel_rfl,by decide,by kernel_rfl⟩
theorem at7 (T:Pr):At (Y1 T) 1 3 (Uw T):=⟨by kernel_rfl,by kernel_rfl,by kernel_rfl,by decide,by kernel_rfl⟩
theorem at8 (T:Pr):At (Ya T) 0 0 ((gd T BK).wrote 9):=⟨by kernel_rfl,by kernel_rfl,by kernel_rfl,by decide,by kernel_rfl⟩
theorem at9 (T:Pr):At (wkK T) 0 0 (RN T):=⟨by kernel_rfl,by kernel_rfl,by kernel_rfl,by decide,by kernel_rfl⟩
theorem afI (T:Pr):At (Ux T) 0 0 (BB T):=⟨by kernel_rfl,by kernel_rfl,by kernel_rfl,by decide,by kernel_rfl⟩
theorem abn (T:Pr):At (VI T) 0 0 (gd T (BB T)):=⟨by kernel_rfl,by kernel_rfl,by kernel_rfl,by decide,by kernel_rfl⟩
def abo (g:Gt) (k:Nat) (s:ag):Bool:=decide (s.bj≤40000)&&decide (s.bj≤g.pu.may k)
theorem jm {g:Gt} {k:Nat} {s:ag} (h:abo g k s=true):g.fits k s:=by simp only[abo,Bool.and_eq_true,decide_eq_true_eq] at h;exact h
theorem afJ:X8.fits 0 BK:=jm (by kernel_rfl)
theorem afK:X9.fits 1 MK:=jm (by kernel_rfl)
theorem afL (T:Pr):Uu.fits 0 (gd T BK):=jm (by kernel_rfl)
theorem afM (T:Pr):(Uv T).fits 1 (gd T MK):=jm (by kernel_rfl)
theorem afN (T:Pr):(Y0 T).fits 0 ((gd T BK).wrote 9):=jm (by kernel_rfl)
theorem afO (T:Pr):(wkH T).fits 1 (Uw T):=jm (by kernel_rfl)
theorem afP (T:Pr):(Y1 T).fits 1 ((Uw T).wrote 9):=jm (by kernel_rfl)
theorem afQ (T:Pr):(Ya T).fits 0 (RN T):=jm (by kernel_rfl)
theorem afR (T:Pr):(wkK T).fits 0 (BB T):=jm (by kernel_rfl)
theorem abp (T:Pr):(Ux T).fits 0 (gd T (BB T)):=jm (by kernel_rfl)
theorem abq (T:Pr):(VI T).fits 0 ((gd T (BB T)).wrote 99):=jm (by kernel_rfl)
theorem afS:mi Uu.wh Uu.j9=some 0:=by kernel_rfl
theorem afT (T:Pr):mi (Uv T).wh (Uv T).j9=some 0:=by kernel_rfl
theorem afU (T:Pr):mi (Ux T).wh (Ux T).j9=some 0:=by kernel_rfl
theorem abr:Uu.pu.may 0=700:=by kernel_rfl
theorem abt (T:Pr):(Uv T).pu.may 1=700:=by kernel_rfl
theorem abu (T:Pr):(Ux T).pu.may 0=700:=by kernel_rfl
theorem wh1:Uu.wh= [0,1]:=by kernel_rfl
theorem wh2 (T:Pr):(Uv T).wh= [1,0]:=by kernel_rfl
theorem wh3 (T:Pr):(Y0 T).wh= [0,1]:=by kernel_rfl
theorem wh4 (T:Pr):(Y1 T).wh= [0,1]:=by kernel_rfl
theorem wh5 (T:Pr):(Ux T).wh= [0]:=by kernel_rfl
theorem wh6 (T:Pr):(VI T).wh= [0]:=by kernel_rfl
theorem afX (T:Pr):(((gd T BK).wrote 9).ended&&decide (cT ((gd T BK).wrote 9).q=0))=false:=by kernel_rfl
theorem afY (T:Pr):(((Uw T).wrote 9).ended&&decide (cT ((Uw T).wrote 9).q=0))=true:=by kernel_rfl
theorem afZ (T:Pr):(((gd T (BB T)).wrote 99).ended&&decide (cT ((gd T (BB T)).wrote 99).q=0))=true:=by kernel_rfl
theorem QX (T:Pr):(gd T (BB T)).e=0∧(gd T (BB T)).ended=true:=⟨by kernel_rfl,by kernel_rfl⟩
theorem abv (T:Pr):oD (Yb T).ss=0:=by kernel_rfl
theorem af0 (T:Pr):(Yb T).pu.has.sum=0:=by kernel_rfl
theorem af1:(ag.new.feed (J6++[91,49,44]) (X8.pu.left 0)).1=11:=by kernel_rfl
theorem af2:(ag.new.feed [84,82] (X9.pu.left 1)).1=2:=by kernel_rfl
theorem af3 (T:Pr):(((gd T BK).wrote 9).feed [116,114,117,101,93] ((Ya T).pu.left 0)).1=5:=by kernel_rfl
theorem VJ (T:Pr):((RN T).half||(RN T).ended)=false:=by kernel_rfl
theorem en2 (T:Pr):(gd T MK).ended=false∧cT (gd T MK).q≤1000000:=⟨by kernel_rfl,of_decide_eq_true (by kernel_rfl)⟩
theorem Yc (T:Pr):0≤(gd T BK).bV.cN∧0≤(gd T MK).bV.cN∧0≤(gd T (BB T)).bV.cN:=⟨of_decide_eq_true (by kernel_rfl),of_decide_eq_true (by kernel_rfl),of_decide_eq_true (by kernel_rfl)⟩
theorem ql1 (T:Pr):cT (gd T BK).q≤900000∧cT (Uw T).q≤900000∧cT (gd T (BB T)).q≤900000:=⟨of_decide_eq_true (by kernel_rfl),of_decide_eq_true (by kernel_rfl),of_decide_eq_true (by kernel_rfl)⟩
def NB (N:Int):Prop:=0≤N∧N+16≤100000000
theorem NB.lo {N:Int} (h:NB N):0≤N∧N≤100000000:=⟨h.1,by have:=h.2;omega⟩
variable {t:bq} {N:Int} {w:World} {base:Nat} {L:dG}
theorem I0 {g:Gt} (hN:NB N) (h:dz t N w base L g) (sK: ∀x∈g.wh,0≤x∧x<g.n) (FB:g.wh.length≤8) {j k id n:Nat} {s s':ag} (hw:mi g.wh g.j9=some j) (hk:g.wh[j]? =some (k:Int)) (ok:J3 t g k id n s s'):Calls prog 12 #[.pointer (some ⟨L.gb,0,none⟩)] w (fJ t (N+16) w base L.gb ((g.jZ j k).put k s') (.tuple #[.int .i64 id,.int .i64 n])):=by
 have Vw: ∀j' k':Nat,mi g.wh g.j9=some j'→g.wh[j']? =some (k':Int)→j'=j∧k'=k:=fun j' k' h1 h2=>by rw[hw] at h1;injection h1 with h1;subst h1;rw[hk] at h2;injection h2 with h2;exact⟨rfl,by omega⟩
 refine(QO hN h sK FB (fun j' k' h1 h2=>by obtain⟨rfl,rfl⟩:=Vw j' k' h1 h2;exact⟨id,n,s,s',ok⟩)).mono ?_;rintro e w' (⟨h1,-⟩|⟨j',k',id',n',u,u',h1,h2,h3,h4⟩)
 ·rw[hw] at h1;cases h1
 ·obtain⟨rfl,rfl⟩:=Vw j' k' h1 h2;have e1:=h3.at_.s_;rw[ok.at_.s_] at e1;injection e1 with e1;injection e1 with e1;subst e1;have e2:=h3.at_.i_;rw[ok.at_.i_] at e2;injection e2 with e2;obtain rfl:id=id':=by omega
  have e3:=h3.run;rw[ok.run] at e3;injection e3 with e3;injection e3 with e3 e4;subst e3 e4;exact h4
theorem Yd (ht:dt t w) (h0:br<w.heap.size):Calls prog 8 #[.int .i64 1400,.int .i64 2] w fun e w'=>∃L,e= .returned (.pointer (some ⟨L.gb,0,none⟩))∧dz t 0 w' w.heap.size L wkA∧I [] w w':=VB 1400 2 (inr rfl) ⟨by decide,by decide⟩ ht h0
theorem QY (hN:NB N) (h:dz t N w base L wkA):Calls prog 10 #[.pointer (some ⟨L.gb,0,none⟩)] w (fJ t N w base L.gb wkB (.tuple #[.int .i64 0,.string ⟨#[]⟩])):=sM hN.lo h (k:=0) (by kernel_rfl) (fun j hj=>absurd hj (Nat.not_lt_zero _)) (by kernel_rfl) (by decide) (of_decide_eq_true (by kernel_rfl)) (fun j y hj=>absurd hj (Nat.not_lt_zero _)) (by decide) (by decide) h.jA.1
theorem af6:wkB.ss[0]? =some (some ag.new):=by kernel_rfl
theorem QZ (hN:NB N) (h:dz t N w base L wkB):
    Calls prog 10 #[.pointer (some ⟨L.gb,0,none⟩)] w (fJ t N w base L.gb X8 (.tuple #[.int .i64 3,.string ⟨#[]⟩])):=
 sM hN.lo h (k:=1) (by kernel_rfl) (fun j hj=>⟨ag.new,by rw[show j=0 by omega];exact af6⟩) (by kernel_rfl) (by decide) (of_decide_eq_true (by kernel_rfl)) (fun j y hj hy=>by
  have hw:wkB.wh= [0]:=by kernel_rfl
  rw[hw] at hj hy
  obtain rfl:j=0:=by simp at hj;omega
  simp at hy
  omega) (by decide) (by decide) h.jA.1
theorem ML (hN:NB N) (h:dz t N w base L X8) (b:ByteArray) (hb:b.data.toList=J6++[91,49,44]) (hz:b.size≤1000000):Calls prog 11 #[.pointer (some ⟨L.gb,0,none⟩),.int .i64 0,.string b] w (fJ t N w base L.gb X9 (.int .i64 11)):=by have:=uB hN.lo h at1 b hz (by rw[hb];exact afJ);rw[hb,af1] at this;exact this
theorem MM (hN:NB N) (h:dz t N w base L X9):Calls prog 11 #[.pointer (some ⟨L.gb,0,none⟩),.int .i64 3,.string ⟨#[84,82]⟩] w (fJ t N w base L.gb Uu (.int .i64 2)):=by have hb:(⟨#[84,82]⟩:ByteArray).data.toList= [84,82]:=rfl;have:=uB hN.lo h UJ ⟨#[84,82]⟩ (by decide) (by rw[hb];exact afK);rw[hb,af2] at this;exact this
theorem Uy (hN:NB N) (h:dz t N w base L Uu):Calls prog 12 #[.pointer (some ⟨L.gb,0,none⟩)] w (fJ t (N+16) w base L.gb (Uv t.pr) (.tuple #[.int .i64 0,.int .i64 11])):=I0 hN h (by rw[wh1];intro x hx;simp at hx;rcases hx with rfl|rfl<;>decide) (by decide) afS (by rw[wh1];rfl) ⟨at3,by rw[abr];exact afC t.pr,by rw[abr];decide,(Yc t.pr).1,afL t.pr⟩
theorem Uz (hN:NB N) (h:dz t N w base L (Uv t.pr)):Calls prog 12 #[.pointer (some ⟨L.gb,0,none⟩)] w (fJ t (N+16) w base L.gb (Y0 t.pr) (.tuple #[.int .i64 3,.int .i64 2])):=I0 hN h (by rw[wh2];intro x hx;simp at hx;rcases hx with rfl|rfl;exact⟨by decide,(by decide:(1:Int)<2)⟩;exact⟨by decide,(by decide:(0:Int)<2)⟩) (by rw[wh2];decide) (afT t.pr) (by rw[wh2];rfl) ⟨at4 t.pr,by rw[abt];exact afD t.pr,by rw[abt];decide,(Yc t.pr).2.1,afM t.pr⟩
theorem MN (hN:NB N) (h:dz t N w base L (Y0 t.pr)):Calls prog 13 #[.pointer (some ⟨L.gb,0,none⟩),.int .i64 0,.int .i64 9] w (fJ t N w base L.gb (wkH t.pr) (.string ⟨#[75]⟩)):=by have:=uC hN.lo h (at5 t.pr) 9 (ql1 t.pr).1 (afN t.pr) (j:=0) (by rw[wh3];rfl) (fun i y hi=>absurd hi (Nat.not_lt_zero _));unfold oS at this;rw[afX,if_neg (by decide),afG] at this;exact this
theorem MO (hN:NB N) (h:dz t N w base L (wkH t.pr)):Calls prog 14 #[.pointer (some ⟨L.gb,0,none⟩),.int .i64 3] w (fJ t N w base L.gb (Y1 t.pr) (.bool true)):=QD hN.lo h (at6 t.pr) (en2 t.pr).1 (en2 t.pr).2 (afO t.pr)
theorem MP (hN:NB N) (h:dz t N w base L (Y1 t.pr)):Calls prog 13 #[.pointer (some ⟨L.gb,0,none⟩),.int .i64 3,.int .i64 9] w (fJ t N w base L.gb (Ya t.pr) (.string ⟨#[78,13]⟩)):=by
 have:=uC hN.lo h (at7 t.pr) 9 (ql1 t.pr).2.1 (afP t.pr) (j:=1) (by rw[wh4];rfl) (fun i y hi hy=>by
  obtain rfl:i=0:=by omega
  rw[wh4] at hy;simp at hy;omega)
 unfold oS at this;rw[afY,if_pos rfl,afH] at this;exact this
theorem MQ (hN:NB N) (h:dz t N w base L (Ya t.pr)):Calls prog 11 #[.pointer (some ⟨L.gb,0,none⟩),.int .i64 0,.string ⟨#[116,114,117,101,93]⟩] w (fJ t N w base L.gb (wkK t.pr) (.int .i64 5)):=by have hb:(⟨#[116,114,117,101,93]⟩:ByteArray).data.toList= [116,114,117,101,93]:=rfl;have:=uB hN.lo h (at8 t.pr) ⟨#[116,114,117,101,93]⟩ (by decide) (by rw[hb];exact afQ t.pr);rw[hb,af3] at this;exact this
theorem UA (hN:NB N) (h:dz t N w base L (wkK t.pr)):Calls prog 15 #[.pointer (some ⟨L.gb,0,none⟩),.int .i64 0] w (fJ t N w base L.gb (Ux t.pr) (.bool true)):=by
 have e:(if((RN t.pr).half||(RN t.pr).ended)=true then RN t.pr else{RN t.pr with half:=true})=BB t.pr:=by rw[VJ,if_neg (by decide)];rfl
 have:=QC hN.lo h (at9 t.pr) (by rw[e];exact afR t.pr);rw[e,VJ] at this;exact this
theorem UB (hN:NB N) (h:dz t N w base L (Ux t.pr)):Calls prog 12 #[.pointer (some ⟨L.gb,0,none⟩)] w (fJ t (N+16) w base L.gb (VI t.pr) (.tuple #[.int .i64 0,.int .i64 6])):=I0 hN h (by rw[wh5];intro x hx;simp at hx;subst hx;exact⟨by decide,(by decide:(0:Int)<2)⟩) (by rw[wh5];decide) (afU t.pr) (by rw[wh5];rfl) ⟨afI t.pr,by rw[abu];exact afE t.pr,by rw[abu];decide,(Yc t.pr).2.2,abp t.pr⟩
theorem Q0 (h:dz t N w base L (VI t.pr)):Calls prog 16 #[.pointer (some ⟨L.gb,0,none⟩),.int .i64 0] w (fJ t N w base L.gb (VI t.pr) (.tuple #[.int .i64 0,.bool true])):=by have:=Ud h (abn t.pr);rw[(QX t.pr).1,(QX t.pr).2] at this;exact this
theorem MR (hN:NB N) (h:dz t N w base L (VI t.pr)):Calls prog 13 #[.pointer (some ⟨L.gb,0,none⟩),.int .i64 0,.int .i64 99] w (fJ t N w base L.gb (Yb t.pr) (.string ⟨#[146,1,195,255,0]⟩)):=by have:=uC hN.lo h (abn t.pr) 99 (ql1 t.pr).2.2 (abq t.pr) (j:=0) (by rw[wh6];rfl) (fun i y hi=>absurd hi (Nat.not_lt_zero _));unfold oS at this;rw[afZ,if_pos rfl,abm] at this;exact this
theorem UC (h:dz t N w base L (Yb t.pr)):Calls prog 17 #[.pointer (some ⟨L.gb,0,none⟩)] w fun e w'=>∃a c,e= .returned (.slice a 0 c)∧dz t N w' base L (Yb t.pr)∧Below base w w':=by have:=IS h;rw[abv] at this;exact this
theorem Q1 (h:dz t N w base L (Yb t.pr)):Calls prog 18 #[.pointer (some ⟨L.gb,0,none⟩)] w (fJ t N w base L.gb (Yb t.pr) (.int .i64 0)):=by have:=Ue h;rw[af0] at this;exact this
end Go.Proofs.YthffblhdjjbkaaaGreat
namespace Go.Proofs.YthffblhdjjbkaaaGreat
open Go.RowKit Go.Tru
theorem mR {N:Int} (h1:0≤N) (h2:N+16≤100000000):NB N:=⟨h1,h2⟩
theorem zd {t:bq} {w:World} (ht:dt t w) (h0:br<w.heap.size):Calls prog 4 #[] w fun e w'=>e= .returned (.bool true)∧Below w.heap.size w w':=by
 have HT:=hid ht;have HZ:=hid h0;have AQ:cp ⟨1,3,3,50,0⟩= .agg #[.int .i64 1,.int .i64 3,.int .i64 3,.int .i64 50,.int .i64 0]:=rfl;have HP:=hid (fun W=>C3 ⟨1,3,3,50,0⟩ (by decide) W);rw[AQ] at HP;obtain⟨S,hS⟩: ∃S,bytesOf (tt ⟨1,3,3,50,0⟩)=S:=⟨_,rfl⟩
 have kD:(S++⟨#[91,49,44]⟩:ByteArray).data.toList=J6++[91,49,44]:=by rw[←hS];kernel_rfl
 have iL:S.size=8:=by rw[←hS];kernel_rfl
 rw[hS] at HP;have nH:=hid kD;have hzz: ¬281474976710656<S.size+(⟨#[91,49,44]⟩:ByteArray).size:=by rw[iL];decide
 clear ht h0 hS AQ kD;go_enter func4,ntmps4;go_wp2_with fail
 refine(Yd HT.out HZ.out).mono ?_;rintro e0 w0 ⟨L0,rfl,g0,k0⟩;have B0:=hid k0.all;have G0:=hid g0;clear g0 k0;go_wp2_with fail
 refine(HP.out _).mono ?_;rintro ep wp ⟨rfl,kp⟩;have G1:=hid (G0.out.aI kp);have B1:=hid (B0.out.trans (G0.out.fw kp));clear kp;go_wp2_with fail
 have oI:=QY (mR (by decide) (by decide)) G1.out;refine oI.mono ?_;clear oI;rintro e2 w2 ⟨rfl,L2,g2,hg2,b2⟩;have HG2:=hid hg2;clear hg2;have G2:=hid g2;have B2:=hid (B1.out.trans b2);clear g2 b2;go_wp2_with fail
 have gJ:=QZ (mR (by decide) (by decide)) G2.out;rw[HG2.out] at gJ;refine gJ.mono ?_;clear gJ;rintro e3 w3 ⟨rfl,L3,g3,Sa,b3⟩;have HG3:=hid Sa;clear Sa;have G3:=hid g3;have B3:=hid (B2.out.trans b3);clear g3 b3;go_wp2_with fail
 have Kp:=ML (mR (by decide) (by decide)) G3.out _ nH.out (by rw[ByteArray.size_append,iL];decide);rw[HG3.out] at Kp;refine Kp.mono ?_;clear Kp;rintro e4 w4 ⟨rfl,L4,g4,hg4,b4⟩;have HG4:=hid hg4;clear hg4;have G4:=hid g4;have B4:=hid (B3.out.trans b4);clear g4 b4;go_wp2_with fail
 have kn:=MM (mR (by decide) (by decide)) G4.out;rw[HG4.out] at kn;refine kn.mono ?_;clear kn;rintro e5 w5 ⟨rfl,L5,g5,Y8,b5⟩;have HG5:=hid Y8;clear Y8;have G5:=hid g5;have B5:=hid (B4.out.trans b5);clear g5 b5;go_wp2_with fail
 have Y2:=Uy (mR (by decide) (by decide)) G5.out;rw[HG5.out] at Y2;refine Y2.mono ?_;clear Y2;rintro e6 w6 ⟨rfl,L6,g6,Yp,b6⟩;have HG6:=hid Yp;clear Yp;have G6:=hid g6;have B6:=hid (B5.out.trans b6);clear g6 b6;go_wp2_with fail
 have QI:=Uz (mR (by decide) (by decide)) G6.out;rw[HG6.out] at QI;refine QI.mono ?_;clear QI;rintro e7 w7 ⟨rfl,L7,g7,hg7,b7⟩;have HG7:=hid hg7;clear hg7;have G7:=hid g7;have B7:=hid (B6.out.trans b7);clear g7 b7;go_wp2_with fail
 have hc7:=MN (mR (by decide) (by decide)) G7.out;rw[HG7.out] at hc7;refine hc7.mono ?_;clear hc7;rintro e8 w8 ⟨rfl,L8,g8,RM,b8⟩;have XR:=hid RM;clear RM;have G8:=hid g8;have B8:=hid (B7.out.trans b8);clear g8 b8;go_wp2_with fail
 have ZR:=MO (mR (by decide) (by decide)) G8.out;rw[XR.out] at ZR;refine ZR.mono ?_;clear ZR;rintro e9 w9 ⟨rfl,L9,g9,Sp,b9⟩;have HG9:=hid Sp;clear Sp;have G9:=hid g9;have B9:=hid (B8.out.trans b9);clear g9 b9;go_wp2_with fail
 have hc9:=MP (mR (by decide) (by decide)) G9.out;rw[HG9.out] at hc9;refine hc9.mono ?_;clear hc9;rintro e10 Ul ⟨rfl,L10,g10,abw,b10⟩;have af9:=hid abw;clear abw;have RL:=hid g10;have XX:=hid (B9.out.trans b10);clear g10 b10;go_wp2_with fail
 have Ye:=MQ (mR (by decide) (by decide)) RL.out;rw[af9.out] at Ye;refine Ye.mono ?_;clear Ye;rintro e11 w11 ⟨rfl,L11,g11,abx,b11⟩;have aga:=hid abx;clear abx;have G11:=hid g11;have B11:=hid (XX.out.trans b11);clear g11 b11;go_wp2_with fail
 have Yf:=UA (mR (by decide) (by decide)) G11.out;rw[aga.out] at Yf;refine Yf.mono ?_;clear Yf;rintro e12 w12 ⟨rfl,L12,g12,aby,b12⟩;have agb:=hid aby;clear aby;have G12:=hid g12;have B12:=hid (B11.out.trans b12);clear g12 b12;go_wp2_with fail
 have Yg:=UB (mR (by decide) (by decide)) G12.out;rw[agb.out] at Yg;refine Yg.mono ?_;clear Yg;rintro e13 w13 ⟨rfl,L13,g13,abz,b13⟩;have agc:=hid abz;clear abz;have G13:=hid g13;have B13:=hid (B12.out.trans b13);clear g13 b13;go_wp2_with fail
 have Yh:=Q0 G13.out;rw[agc.out] at Yh;refine Yh.mono ?_;clear Yh;rintro e14 w14 ⟨rfl,L14,g14,abA,b14⟩;have agd:=hid abA;clear abA;have G14:=hid g14;have B14:=hid (B13.out.trans b14);clear g14 b14;go_wp2_with fail
 have Yi:=MR (mR (by decide) (by decide)) G14.out;rw[agd.out] at Yi;refine Yi.mono ?_;clear Yi;rintro e15 w15 ⟨rfl,L15,g15,abB,b15⟩;have abC:=hid abB;clear abB;have G15:=hid g15;have B15:=hid (B14.out.trans b15);clear g15 b15;go_wp2_with fail
 have Yj:=UC G15.out;rw[abC.out] at Yj;refine Yj.mono ?_;clear Yj;rintro e16 w16 ⟨a,c,rfl,g16,b16⟩;have age:=abC;have G16:=hid g16;have B16:=hid (B15.out.trans b16);clear g16 b16;go_wp2_with fail
 have O8:=Q1 G16.out;rw[age.out] at O8;refine O8.mono ?_;clear O8;rintro e17 w17 ⟨rfl,L17,g17,abD,b17⟩;have anc:=hid abD;clear abD;have G17:=hid g17;have B17:=hid (B16.out.trans b17);clear g17 b17;go_wp2_with fail
 go_ret;exact⟨rfl,B17.out⟩
end Go.Proofs.YthffblhdjjbkaaaGreat
