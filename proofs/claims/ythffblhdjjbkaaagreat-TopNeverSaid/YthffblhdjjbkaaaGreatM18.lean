/- truchmanbook.Doc's function item; truchmanbook.Doc's function item; truchmanbook.Doc's function item; truchmanbook.Doc's function item; cborin.Core as plain data; cborin's Parser as plain data.; cbori -/
import Derived.Test.YthffblhdjjbkaaaGreatM2
import Derived.Test.YthffblhdjjbkaaaGreatM5
set_option maxHeartbeats 100000000
set_option maxRecDepth 1000000
open Go.Lib (hid)
open Go.Proofs.Tryz
open Or (inl inr)
namespace Go.Proofs.YthffblhdjjbkaaaGreat
open Go.RowKit Go.Tru
def iV (w0:World) (bL bD bO bA bN bI:Nat) (o:Option Addr) (n c:Nat) (xs:List Int) (dep:Int) (es:List Ev) (r:List Ev×List Int) (e:Ending) (w':World):Prop:=
 e= .returned (.tuple #[])∧∃ (yp:Nat) (v':Value),xs.drop yp=r.2∧yp≤(es++r.1).length∧fP w0 w' bL bD bO bA bN bI o n c xs dep yp (es++r.1) v'
theorem ed {w0 w:World} {bL bD bO bA bN bI:Nat} {o:Option Addr} {n c:Nat} {xs:List Int} {dep:Int} {at_:Nat} {es:List Ev} {v:Value} (h:fP w0 w bL bD bO bA bN bI o n c xs dep at_ es v):w.cell? ⟨bD,0,none⟩=some (.int .i64 dep)∧w.cell? ⟨bO,0,none⟩=some v∧w.frozen? ⟨bO,0,none⟩=false∧w.cell? ⟨bN,0,none⟩=some (.func (.func 19) #[] #[.pointer (some ⟨bA,0,none⟩),.pointer (some ⟨bL,0,none⟩)])∧w.cell? ⟨bI,0,none⟩=some (.func (.func 20) #[] #[.pointer (some ⟨bN,0,none⟩),.pointer (some ⟨bO,0,none⟩),.pointer (some ⟨bD,0,none⟩),.pointer (some ⟨bI,0,none⟩)])∧bO<w.heap.size∧bI+1≤w.heap.size:=⟨h.d.cell 0,h.out.cell 0,h.out.free 0,h.nx.cell 0,h.it.cell 0,h.out.lt,h.it.lt⟩
theorem Za (x:Nat) (hx:x<65536):(bits .and .i64 (x:Int) 8 != 0)=decide (x/8 % 2=1):=by
 have h1:bits .and .i64 (x:Int) 8=((x&&& 8:Nat):Int):=(bits_nat .i64 63 (by decide) (fun n h0 h1=>by rw[IntKind.wrap_i64];omega) x 8 (by omega) (by decide)).1;have h2:x&&& 8=if x.testBit 3 then 8 else 0:=by
  apply Nat.eq_of_testBit_eq;intro i;have h8:(8:Nat).testBit i=decide (3=i):=Nat.testBit_two_pow (n:=3) (m:=i);rw[Nat.testBit_and,h8];by_cases e:3=i
  ·subst e;cases x.testBit 3<;>rfl
  ·have h9:(if x.testBit 3=true then 8 else 0).testBit i=false:=by
    split
    ·rw[h8];simp[e]
    ·simp
   rw[h9];simp[e]
 rw[h1,h2,Nat.testBit_eq_decide_div_mod_eq];have h3:x/2^3=x/8:=rfl;rw[h3];cases h:decide (x/8 % 2=1)<;>simp
open Go.K4 in
theorem vf {w0 w:World} {bL bD bO bA bN bI:Nat} {o:Option Addr} {n c:Nat} {xs:List Int} {dep:Int} {at_:Nat} {es:List Ev} {v:Value} (d:Int) (h:fP w0 w bL bD bO bA bN bI o n c xs dep at_ es v) (nM:at_≤es.length) (Cs:es.length≤5000) (x:Nat) (hx:(nx (xs.drop at_)).1=x) (h8:x % 8=0):Calls prog 20 #[.int .i64 d,.pointer (some ⟨bN,0,none⟩),.pointer (some ⟨bO,0,none⟩),.pointer (some ⟨bD,0,none⟩),.pointer (some ⟨bI,0,none⟩)] w (iV w0 bL bD bO bA bN bI o n c xs dep es ([ar],(nx (xs.drop at_)).2)):=q5
open Go.K2 in
theorem vg {w0 w:World} {bL bD bO bA bN bI:Nat} {o:Option Addr} {n c:Nat} {xs:List Int} {dep:Int} {at_:Nat} {es:List Ev} {v:Value} (d:Int) (h:fP w0 w bL bD bO bA bN bI o n c xs dep at_ es v) (nM:at_≤es.length) (Cs:es.length≤5000) (x:Nat) (hx:(nx (xs.drop at_)).1=x) (h8:x % 8=1):Calls prog 20 #[.int .i64 d,.pointer (some ⟨bN,0,none⟩),.pointer (some ⟨bO,0,none⟩),.pointer (some ⟨bD,0,none⟩),.pointer (some ⟨bI,0,none⟩)] w (iV w0 bL bD bO bA bN bI o n c xs dep es ([aq (decide (x/8 % 2=1))],(nx (xs.drop at_)).2)):=q5
open Go.K3 in
theorem Ct {w0 w:World} {bL bD bO bA bN bI:Nat} {o:Option Addr} {n c:Nat} {xs:List Int} {dep:Int} {at_:Nat} {es:List Ev} {v:Value} (d:Int) (h:fP w0 w bL bD bO bA bN bI o n c xs dep at_ es v) (nM:at_≤es.length) (Cs:es.length≤5000) (x:Nat) (hx:(nx (xs.drop at_)).1=x) (h8:x % 8=5) (hd:dep≤d):Calls prog 20 #[.int .i64 d,.pointer (some ⟨bN,0,none⟩),.pointer (some ⟨bO,0,none⟩),.pointer (some ⟨bD,0,none⟩),.pointer (some ⟨bI,0,none⟩)] w (iV w0 bL bD bO bA bN bI o n c xs dep es ([ah aY],(nx (xs.drop at_)).2)):=q5
theorem Ga {w0 w:World} {bL bD bO bA bN bI:Nat} {o:Option Addr} {n c:Nat} {xs:List Int} {dep:Int} {at_:Nat} {es:List Ev} {v:Value} (d:Int) (h:fP w0 w bL bD bO bA bN bI o n c xs dep at_ es v) (nM:at_≤es.length) (Cs:es.length≤5000) (x:Nat) (hx:(nx (xs.drop at_)).1=x) (h8:x % 8=6∨x % 8=7) (hd:dep≤d):Calls prog 20 #[.int .i64 d,.pointer (some ⟨bN,0,none⟩),.pointer (some ⟨bO,0,none⟩),.pointer (some ⟨bD,0,none⟩),.pointer (some ⟨bI,0,none⟩)] w (iV w0 bL bD bO bA bN bI o n c xs dep es ([ay false x],(nx (xs.drop at_)).2)):=by
 obtain⟨q1,q2,q3,q4,q5,q6,q7⟩:=ed h;have iz:=jU h (by omega);rw[hx] at iz;have HN:=hid iz;have ur:x<65536:=by have:=kP (xs.drop at_);omega
 have zG:IntKind.u64.wrap (x:Int)=(x:Int):=by rw[IntKind.wrap_u64];omega
 have Ri:(x:Int) % 8=6∨(x:Int) % 8=7:=by omega
 clear h hx h8 iz;rcases Ri with Ri|Ri;all_goals
  go_enter func20,ntmps20;go_wp2_with fail
  refine HN.out.mono ?_;rintro e w1 ⟨rfl,h1,yo⟩;obtain⟨q1,q2,q3,q4,q5,q6,q7⟩:=ed h1;have H1:=hid h1;have Rk:=hid yo;clear h1 yo;go_wp2_with (at_builtin;go_must (refine mV rfl _ _ rfl (bI+1) _ es rfl (ab H1.out.own ((I.refl [] _).alloc _) (by simp)) ⟨_,0,none⟩ 1 1 [ay false x] rfl rfl (iO (ay false x) rfl) (by omega) (by simp;omega) ?_))
  intro v2 w2 cI iA my Kf;obtain⟨o2,c2,jz⟩:=cI.shape;rw[List.length_append,List.length_singleton] at jz;subst jz;have eH:=H1.out.push cI (((I.refl _ _).alloc _).trans iA);have qh:=(H1.out.out.alloc _).keeps iA (fun hm=>by have:=H1.out.az _ hm;have:=H1.out.lay.h3;have:=H1.out.lay.h4;have:=H1.out.lay.h5;omega);have q2':=qh.cell 0;have q3':=qh.free 0;have HP:=hid eH;clear eH cI iA my Kf qh q2 q3;go_wp2_with fail
  go_end0;exact⟨rfl,at_+1,_,Rk.out.symm,by simp;omega,HP.out⟩
end Go.Proofs.YthffblhdjjbkaaaGreat
namespace Go.Tru
theorem kQ (f:List Int→List Ev×List Int): ∀n l,rep f (n+1) l=((rep f n l).1++(f (rep f n l).2).1,(f (rep f n l).2).2)
 |0,l=>by simp[rep]
 |n+1,l=>by have ih:=kQ f n (f l).2;rw[rep,ih];simp[rep]
end Go.Tru
namespace Go.Proofs.YthffblhdjjbkaaaGreat
open Go.RowKit Go.Tru
def Gb (w0:World) (bL bD bO bA bN bI:Nat) (o:Option Addr) (n c:Nat) (xs:List Int) (dep:Int) (k:Nat):Prop:=
 ∀ (d:Int) (w:World) (at_:Nat) (es:List Ev) (v:Value),d+k=dep→0≤d→fP w0 w bL bD bO bA bN bI o n c xs dep at_ es v→at_≤es.length→es.length+1+8*(xs.drop at_).length≤2000→
  Calls prog 20 #[.int .i64 d,.pointer (some ⟨bN,0,none⟩),.pointer (some ⟨bO,0,none⟩),.pointer (some ⟨bD,0,none⟩),.pointer (some ⟨bI,0,none⟩)] w (iV w0 bL bD bO bA bN bI o n c xs dep es (aE k (xs.drop at_)))
def Ns (w0:World) (bL bD bO bA bN bI:Nat) (o:Option Addr) (n c:Nat) (xs:List Int) (dep:Int) (f:List Int→List Ev×List Int) (nn:Nat) (es1:List Ev) (l1:List Int) (i:Value) (wr:World):Prop:=
 ∃ (j yp:Nat) (v':Value),j≤nn∧i= .int .i64 j∧xs.drop yp=(rep f j l1).2∧yp≤(es1++(rep f j l1).1).length∧fP w0 wr bL bD bO bA bN bI o n c xs dep yp (es1++(rep f j l1).1) v'
open Go.K1 in
theorem KL {w0 w:World} {bL bD bO bA bN bI:Nat} {o:Option Addr} {n c:Nat} {xs:List Int} {dep:Int} {at_:Nat} {es:List Ev} {v:Value} (d:Int) (h:fP w0 w bL bD bO bA bN bI o n c xs dep at_ es v) (nM:at_≤es.length) (k:Nat) (Rj:d+((k+1:Nat):Int)=dep) (Zu:0≤d) (N3:dep≤1000) (FL:es.length+1+8*(xs.drop at_).length≤2000) (ih:Gb w0 bL bD bO bA bN bI o n c xs dep k) (x:Nat) (hx:(nx (xs.drop at_)).1=x) (h8:x % 8=5):Calls prog 20 #[.int .i64 d,.pointer (some ⟨bN,0,none⟩),.pointer (some ⟨bO,0,none⟩),.pointer (some ⟨bD,0,none⟩),.pointer (some ⟨bI,0,none⟩)] w (iV w0 bL bD bO bA bN bI o n c xs dep es (aN ((x/8 % 4:Nat):Int)::(rep (aE k) (x/8 % 4) (nx (xs.drop at_)).2).1++[aL],(rep (aE k) (x/8 % 4) (nx (xs.drop at_)).2).2)):=q5
theorem jK {o:Oper} {a:Act} {w:World} {K:Act→World→Prop} {Q:Exit→Act→World→Prop} (s x:Operand) (ho:o.op= .call {callee:= .builtin .append,args:= #[s,x],argTypes:= #[30,30]}) (base:Nat) (v:Value) (es:List Ev) (hs:a.eval s=v) (au:fM w base v es) (ad:Addr) (e:Ev) (hx:a.eval x= .slice (some ad) 1 1) (fO: ∀ (j:Nat) (u:Value),([e].flatMap Ev.cells)[j]? =some u→w.cell? (ad.add j)=some u) (hlen:es.length≤1000000) (ak:base≤w.heap.size) (h: ∀v' w',fM w' base v' (es++[e])→I (ae v) w w'→(v'.ownBlock=v.ownBlock∨v'.ownBlock=some w.heap.size)→K (a.put o.dst v') w'):Oper.wp prog o a w K Q:=by obtain⟨i0,hi,ko,gv,gW⟩:=info_parts Ji;obtain⟨v',w',hr,h2,h3,_,h5⟩:=run_append_own_at (P:=prog) w base 30 o.type 34 i0 (.agg #[.int .i64 0,.bool false,.int .u64 0,.string ⟨#[]⟩,.int .i64 0]) 5 48 underlying30 hi ko gv gW rfl (by decide) v es.length (es.flatMap Ev.cells) au ad 1 1 ([e].flatMap Ev.cells) rfl fO (N2 [e]) (by unfold maxLen;omega) (by omega) ak;unfold Oper.wp execOp;simp only[ho,resolve,invoke,builtin,Sem.run_bind,Sem.run_pure,Result.andThen_ok,List.map_toArray,List.map_cons,List.map_nil,hs,hx,hr];refine h v' w' ?_ (cD h3) h5;unfold fM;rw[List.length_append,List.flatMap_append];exact h2
theorem yz {w0 w:World} {bL bD bO bA bN bI:Nat} {o:Option Addr} {n c:Nat} {xs:List Int} {dep:Int} {at_:Nat} {es:List Ev} {v:Value} (d:Int) (h:fP w0 w bL bD bO bA bN bI o n c xs dep at_ es v) (nM:at_≤es.length) (Cs:es.length≤5000) (x:Nat) (hx:(nx (xs.drop at_)).1=x) (h8:x % 8=2∨x % 8=3):Calls prog 20 #[.int .i64 d,.pointer (some ⟨bN,0,none⟩),.pointer (some ⟨bO,0,none⟩),.pointer (some ⟨bD,0,none⟩),.pointer (some ⟨bI,0,none⟩)] w (iV w0 bL bD bO bA bN bI o n c xs dep es ([ay (decide (x/8 % 2=1)) (((x*x)>>>(x % 8):Nat):Int)],(nx (xs.drop at_)).2)):=by
 obtain⟨q1,q2,q3,q4,q5,q6,q7⟩:=ed h;have iz:=jU h (by omega);rw[hx] at iz;have HN:=hid iz;have ur:x<65536:=by have:=kP (xs.drop at_);omega
 have V3:(bits .and .i64 (x:Int) 8 != 0)=decide (x/8 % 2=1):=Za x ur;have h7:bits .and .i64 (x:Int) 7=((x % 8:Nat):Int):=by rw[uZ];omega
 have zG:IntKind.u64.wrap (x:Int)=(x:Int):=by rw[IntKind.wrap_u64];omega
 have oV:x*x<4294967296:=Nat.mul_lt_mul'' ur ur;have Wl:(x:Int)*(x:Int)=((x*x:Nat):Int):=by simp
 have Zv:IntKind.u64.wrap ((x:Int)*(x:Int))=((x*x:Nat):Int):=by rw[Wl,IntKind.wrap_u64];omega
 have hm:(((x*x)>>>(x % 8):Nat):Int)=((x*x:Nat):Int)/((2^(x % 8):Nat):Int):=by rw[Nat.shiftRight_eq_div_pow,Int.natCast_ediv]
 have Fu:x % 8≤7:=by omega
 rw[hm];generalize decide (x/8 % 2=1)=y at V3⊢;rcases h8 with h8|h8
 ·have Ri:(x:Int) % 8=2:=by omega
  rw[h8];rw[show((2^2:Nat):Int)=4 from rfl];generalize x*x=xx at Zv oV⊢;have HXX:=hid oV;clear h hx h8 iz oV Wl hm;go_enter func20,ntmps20;go_wp2_with fail
  refine HN.out.mono ?_;rintro e w1 ⟨rfl,h1,yo⟩;obtain⟨q1,q2,q3,q4,q5,q6,q7⟩:=ed h1;have H1:=hid h1;have Rk:=hid yo;clear h1 yo;go_wp2_with fail
  go_region_law (rw[if_pos (by rfl)];refine jK _ _ rfl (bI+1) v es rfl (ab H1.out.own (((I.refl [] _).drew).alloc _) (by simp)) ⟨_,0,none⟩ (ay y (↑xx/4)) rfl (iO (ay y (↑xx/4)) (by simp)) (by omega) (by simp;omega) ?_;intro v2 w2 cI iA Kf;obtain⟨o2,c2,jz⟩:=cI.shape;rw[List.length_append,List.length_singleton] at jz;subst jz;have eH:=H1.out.push cI ((((I.refl _ _).drew).alloc _).trans iA);have qh:=(H1.out.out.keeps (((I.refl [] _).drew).alloc _) (by simp)).keeps iA (fun hm=>by have:=H1.out.az _ hm;have:=H1.out.lay.h3;have:=H1.out.lay.h4;have:=H1.out.lay.h5;omega);have q2:=qh.cell 0;have q3:=qh.free 0;have HP:=hid eH;clear eH cI iA Kf qh)
  all_goals
   go_wp2_with fail
   go_end0;exact⟨rfl,at_+1,_,Rk.out.symm,by simp;omega,HP.out⟩
 ·have Ri:(x:Int) % 8=3:=by omega
  rw[h8];rw[show((2^3:Nat):Int)=8 from rfl];generalize x*x=xx at Zv oV⊢;have HXX:=hid oV;clear h hx h8 iz oV Wl hm;go_enter func20,ntmps20;go_wp2_with fail
  refine HN.out.mono ?_;rintro e w1 ⟨rfl,h1,yo⟩;obtain⟨q1,q2,q3,q4,q5,q6,q7⟩:=ed h1;have H1:=hid h1;have Rk:=hid yo;clear h1 yo;go_wp2_with fail
  go_region_law (rw[if_pos (by rfl)];refine jK _ _ rfl (bI+1) v es rfl (ab H1.out.own (((I.refl [] _).drew).alloc _) (by simp)) ⟨_,0,none⟩ (ay y (↑xx/8)) rfl (iO (ay y (↑xx/8)) (by simp)) (by omega) (by simp;omega) ?_;intro v2 w2 cI iA Kf;obtain⟨o2,c2,jz⟩:=cI.shape;rw[List.length_append,List.length_singleton] at jz;subst jz;have eH:=H1.out.push cI ((((I.refl _ _).drew).alloc _).trans iA);have qh:=(H1.out.out.keeps (((I.refl [] _).drew).alloc _) (by simp)).keeps iA (fun hm=>by have:=H1.out.az _ hm;have:=H1.out.lay.h3;have:=H1.out.lay.h4;have:=H1.out.lay.h5;omega);have q2:=qh.cell 0;have q3:=qh.free 0;have HP:=hid eH;clear eH cI iA Kf qh)
  all_goals
   go_wp2_with fail
   go_end0;exact⟨rfl,at_+1,_,Rk.out.symm,by simp;omega,HP.out⟩
theorem vh {w0 w:World} {bL bD bO bA bN bI:Nat} {o:Option Addr} {n c:Nat} {xs:List Int} {dep:Int} {at_:Nat} {es:List Ev} {v:Value} (d:Int) (h:fP w0 w bL bD bO bA bN bI o n c xs dep at_ es v) (nM:at_≤es.length) (Cs:es.length≤5000) (x:Nat) (hx:(nx (xs.drop at_)).1=x) (h8:x % 8=4):Calls prog 20 #[.int .i64 d,.pointer (some ⟨bN,0,none⟩),.pointer (some ⟨bO,0,none⟩),.pointer (some ⟨bD,0,none⟩),.pointer (some ⟨bI,0,none⟩)] w (iV w0 bL bD bO bA bN bI o n c xs dep es ([ah (cF x)],(nx (xs.drop at_)).2)):=by
 obtain⟨q1,q2,q3,q4,q5,q6,q7⟩:=ed h;have iz:=jU h (by omega);rw[hx] at iz;have HN:=hid iz;have Ri:(x:Int) % 8=4:=by omega
 clear h hx h8 iz;go_enter func20,ntmps20;go_wp2_with fail
 refine HN.out.mono ?_;rintro e w1 ⟨rfl,h1,yo⟩;obtain⟨q1,q2,q3,q4,q5,q6,q7⟩:=ed h1;have H1:=hid h1;have Rk:=hid yo;clear h1 yo;go_wp2_with fail
 go_region_law (first|(rw[if_pos (by rfl)];refine jK _ _ rfl (bI+1) v es rfl (ab H3.out.own ((I.refl [] _).alloc _) (by simp)) ⟨_,0,none⟩ (ah (cF x)) rfl (iO (ah (cF x)) (by simp)) (by omega) (by simp;omega) ?_;intro v2 w2 cI iA Kf;obtain⟨o2,c2,jz⟩:=cI.shape;rw[List.length_append,List.length_singleton] at jz;subst jz;have eH:=H3.out.push cI (((I.refl _ _).alloc _).trans iA);have qh:=(H3.out.out.keeps ((I.refl [] _).alloc _) (by simp)).keeps iA (fun hm=>by have:=H3.out.az _ hm;have:=H3.out.lay.h3;have:=H3.out.lay.h4;have:=H3.out.lay.h5;omega);have q2:=qh.cell 0;have q3:=qh.free 0;have HP:=hid eH;clear eH cI iA Kf qh)|(go_simp;go_at_call 21;refine(sP x _).mono ?_;rintro e w3 ⟨rfl,k3⟩;have H3:=hid (H1.out.aI (((I.refl [] _).drew).trans k3));obtain⟨q1,q2,q3,q4,q5,q6,q7⟩:=ed H3.out;clear k3;try go_simp))
 all_goals
  go_wp2_with fail
  go_end0;exact⟨rfl,at_+1,_,Rk.out.symm,by simp;omega,HP.out⟩
theorem V4 {w:World} {base:Nat} {v:Value} {es:List Ev} (h:fM w base v es): ∃a l cap,v= .slice a l cap:=by obtain⟨a,cap,h⟩:=h.shape;exact⟨a,_,cap,h⟩
theorem Ce (k:Nat) (l:List Int):(cx (aE k) l).1.length+8*(cx (aE k) l).2.length≤2+8*l.length:=by have h3:=lG k (nx l).2;have h4:=uM (l:=l);simp only[cx,List.length_cons];omega
open Go.K0 in
theorem KM {w0 w:World} {bL bD bO bA bN bI:Nat} {o:Option Addr} {n c:Nat} {xs:List Int} {dep:Int} {at_:Nat} {es:List Ev} {v:Value} (d:Int) (h:fP w0 w bL bD bO bA bN bI o n c xs dep at_ es v) (nM:at_≤es.length) (k:Nat) (Rj:d+((k+1:Nat):Int)=dep) (Zu:0≤d) (N3:dep≤1000) (FL:es.length+1+8*(xs.drop at_).length≤2000) (ih:Gb w0 bL bD bO bA bN bI o n c xs dep k) (x:Nat) (hx:(nx (xs.drop at_)).1=x) (h8:x % 8=6∨x % 8=7):Calls prog 20 #[.int .i64 d,.pointer (some ⟨bN,0,none⟩),.pointer (some ⟨bO,0,none⟩),.pointer (some ⟨bD,0,none⟩),.pointer (some ⟨bI,0,none⟩)] w (iV w0 bL bD bO bA bN bI o n c xs dep es (aO ((x/8 % 3:Nat):Int)::(rep (cx (aE k)) (x/8 % 3) (nx (xs.drop at_)).2).1++[aL],(rep (cx (aE k)) (x/8 % 3) (nx (xs.drop at_)).2).2)):=q5
end Go.Proofs.YthffblhdjjbkaaaGreat
namespace Go.Tru
def af.met (c:af):Bool:=if c.bg then decide (c.parts % 2=0∧c.parts/2=c.count) else decide (c.parts=c.count)
structure Core where
 depth:Int
 open_:List af
 done:Bool
 e:Int
 word:Bool
 chunks:Bool
 aT:Int
 s:List UInt8
 c:cm
def Core.new (depth:Int):Core:=⟨depth,[],false,0,false,false,0,[],cm.zero⟩
def aS:List af→List Ev×List af×Bool
 | []=>([],[],true)
 |c::r=>if({c with parts:=c.parts+1}:af).met then let t:=aS r;(aL::t.1,t.2.1,t.2.2) else([],{c with parts:=c.parts+1}::r,false)
def Core.fail (k:Core) (e:Int):List Ev×Core:=([],{k with e:=e})
def Core.value (k:Core) (p:Ev):List Ev×Core:=
 let t:=aS k.open_
 (p::t.1,{k with open_:=t.2.1,done:=k.done||t.2.2})
def aX (bg:Bool) (count:Int):Ev:=if bg then aO count else aN count
def Core.begin (k:Core) (bg:Bool) (count:Int):List Ev×Core:=
 if count=0 then let t:=k.value aL;(aX bg count::t.1,t.2)
 else([aX bg count],{k with open_:=⟨bg,count,0⟩::k.open_})
def Core.Cl (k:Core):List Ev×Core:=
 match k.open_ with
 | []=>k.fail 2
 |c::r=>if 0≤c.count∨c.bg=true∧0<c.parts % 2 then k.fail 2 else Core.value {k with open_:=r} aL
def bytesOf (l:List UInt8):ByteArray:=⟨l.toArray⟩
def me (word:Bool) (l:List UInt8):Ev:=if word then ah (bytesOf l) else dv (bytesOf l)
def Core.text (k:Core):List Ev×Core:=Core.value {k with s:=[],chunks:=false} (me k.word k.s)
def Core.length (k:Core) (word:Bool) (n:Int):List Ev×Core:=
 if(200- (k.s.length:Int))<n then k.fail 5
 else
  let k':={k with word:=word,aT:=n,c:=cm.zero}
  if 0<n∨k'.chunks=true then([],k') else k'.text
def Core.byte (k:Core) (b:Int):List Ev×Core:=
 let c':=if k.word then k.c.step b else k.c
 let k':={k with s:=k.s++[UInt8.ofNat b.toNat],aT:=k.aT-1,c:=c'}
 if k.word=true∧(c'.bad=true∨k.aT-1=0∧c'.whole=false) then k'.fail 9
 else if 0<k.aT-1∨k.chunks=true then([],k')
 else k'.text
def Core.cK (k:Core):Int:=if k.e=0∧k.done=false then 3 else k.e
def Core.held (k:Core):Int:=if k.e≠0 then 0 else(k.s.length:Int)+k.open_.length
def Core.atKey (k:Core):Bool:=match k.open_ with| []=>false|c::_=>c.bg&&decide (c.parts % 2=0)
def Core.full (k:Core):Bool:=decide (k.depth≤(k.open_.length:Int))
structure Core.Fit (N:Int) (k:Core):Prop where
 depth:1≤k.depth∧k.depth≤16
 opens:(k.open_.length:Int)≤k.depth
 parts: ∀c∈k.open_,0≤c.parts∧c.parts≤N∧ -1≤c.count∧c.count≤1000000
 aT:0≤k.aT∧k.aT+k.s.length≤200
 FZ:k.c.Fit
theorem Core.Fit.mono {N M:Int} {k:Core} (h:k.Fit N) (hm:N≤M):k.Fit M:=⟨h.depth,h.opens,fun c hc=>by obtain⟨h1,h2,h3⟩:=h.parts c hc;exact⟨h1,by omega,h3⟩,h.aT,h.FZ⟩
theorem Core.eS {d N:Int} (h:1≤d∧d≤16):(Core.new d).Fit N:=⟨h,by simp[Core.new];omega,by simp[Core.new],by simp[Core.new],cm.n7⟩
theorem sV {N:Int}: ∀ {l:List af},(∀c∈l,0≤c.parts∧c.parts≤N∧ -1≤c.count∧c.count≤1000000)→(aS l).2.1.length≤l.length∧∀c∈(aS l).2.1,0≤c.parts∧c.parts≤N+1∧ -1≤c.count∧c.count≤1000000
 | [],_=>by simp[aS]
 |c::r,h=>by
  have hc:=h c ms;have hr: ∀c∈r,0≤c.parts∧c.parts≤N∧ -1≤c.count∧c.count≤1000000:=fun x hx=>h x (List.mem_cons_of_mem _ hx);unfold aS;split
  ·obtain⟨h1,h2⟩:=sV hr;exact⟨by simp only[List.length_cons];omega,h2⟩
  ·refine⟨by simp,fun x hx=> ?_⟩;rcases List.mem_cons.1 hx with rfl|hx
   ·simp only[];omega
   ·obtain⟨h1,h2,h3⟩:=hr x hx;exact⟨h1,by omega,h3⟩
theorem Core.fx {N:Int} {k:Core} (h:k.Fit N) (e:Int):(k.fail e).2.Fit N:=⟨h.depth,h.opens,h.parts,h.aT,h.FZ⟩
theorem Core.iB {N:Int} {k:Core} (h:k.Fit N) (p:Ev):(k.value p).2.Fit (N+1):=by obtain⟨h1,h2⟩:=sV h.parts;have:=h.opens;exact⟨h.depth,by simp only[Core.value];omega,h2,h.aT,h.FZ⟩
theorem Core.yA {N:Int} {k:Core} (h:k.Fit N) (hf:k.full=false) (hN:0≤N) (bg:Bool) {count:Int} (hc: -1≤count∧count≤1000000):(k.begin bg count).2.Fit (N+1):=by
 unfold Core.begin;split
 ·exact Core.iB h aL
 ·have:=h.opens;unfold Core.full at hf;simp only[decide_eq_false_iff_not] at hf;refine⟨h.depth,by simp only[List.length_cons];omega,fun c Nx=> ?_,h.aT,h.FZ⟩;simp only[] at Nx;rcases List.mem_cons.1 Nx with rfl|hx
  ·simp only[];omega
  ·obtain⟨h1,h2,h3⟩:=h.parts c hx;exact⟨h1,by omega,h3⟩
theorem Core.SL {N:Int} {k:Core} (h:k.Fit N):k.Cl.2.Fit (N+1):=by
 unfold Core.Cl;split
 ·exact(Core.fx h 2).mono (by omega)
 ·rename_i c r ho;split
  ·exact(Core.fx h 2).mono (by omega)
  ·have h2:Core.Fit N {k with open_:=r}:=by refine⟨h.depth,?_,fun x hx=>h.parts x (by rw[ho];exact List.mem_cons_of_mem c hx),h.aT,h.FZ⟩;have:=h.opens;rw[ho] at this;simp only[List.length_cons] at this⊢;omega
   exact Core.iB h2 aL
theorem Core.nU {N:Int} {k:Core} (h:k.Fit N):k.text.2.Fit (N+1):=by
 have hk:Core.Fit N {k with s:=[],chunks:=false}:=⟨h.depth,h.opens,h.parts,by have:=h.aT;simp only[List.length_nil];omega,h.FZ⟩
 exact Core.iB hk (me k.word k.s)
theorem Core.Gd {N:Int} {k:Core} (h:k.Fit N) (word:Bool) {n:Int} (hn:0≤n):(k.length word n).2.Fit (N+1):=by
 unfold Core.length;split
 ·exact(Core.fx h 5).mono (by omega)
 ·have hk:Core.Fit N {k with word:=word,aT:=n,c:=cm.zero}:=⟨h.depth,h.opens,h.parts,by simp only[];omega,cm.n7⟩
  simp only[];split
  ·exact hk.mono (by omega)
  ·exact Core.nU hk
open Go.K0 in
theorem Core.N6 {N:Int} {k:Core} (h:k.Fit N) (hl:0<k.aT) (b:Int):(k.byte b).2.Fit (N+1):=q33
structure Hd where
 begun:Bool
 end_:Bool
 open_:Bool
 major:Int
 aT:Int
 v:Int
 e:Int
def Hd.zero:Hd:=⟨false,false,false,0,0,0,0⟩
def Hd.cells (h:Hd):List Value:=[.bool h.begun,.bool h.end_,.bool h.open_,.int .i64 h.major,.int .i64 h.aT,.int .u64 h.v,.int .i64 h.e]
structure Cb where
 c:Core
 h:Hd
 begun:Bool
def Cb.new (depth:Int):Cb:=⟨Core.new depth,Hd.zero,false⟩
def Cb.put (p:Cb) (t:List Ev×Core):List Ev×Cb:=(t.1,{p with c:=t.2})
def Cb.told (p:Cb) (major v:Int) (lP:Bool):List Ev×Cb:=
 if major=0∨major=1 then p.put (p.c.value (ay (decide (major=1)) v))
 else if major=2∨major=3 then
  (if lP then([],{p with c:={p.c with chunks:=true,word:=decide (major=3)}}) else p.put (p.c.length (decide (major=3)) v))
 else if lP then p.put (p.c.begin (decide (major=5)) (-1))
 else if 1000000<v then p.put (p.c.fail 7)
 else p.put (p.c.begin (decide (major=5)) v)
def Cb.first (p:Cb) (b:Int):List Ev×Cb:=
 if b % 32<24 then Cb.told {p with h:=Hd.zero,begun:=false} (b/32) (b % 32) false
 else if b % 32<28 then([],{p with h:=⟨true,false,false,b/32,2^(b % 32-24).toNat,0,0⟩,begun:=true})
 else if b % 32=31 then Cb.told {p with h:=Hd.zero,begun:=false} (b/32) 0 true
 else Cb.put {p with h:=⟨true,false,false,b/32,0,0,2⟩,begun:=true} (p.c.fail 2)
def Cb.more (p:Cb) (b:Int):List Ev×Cb:=
 if 0<p.h.aT-1 then([],{p with h:={p.h with v:=p.h.v*256+b,aT:=p.h.aT-1},begun:=true})
 else Cb.told {p with h:=Hd.zero,begun:=false} p.h.major (p.h.v*256+b) false
def Cb.head (p:Cb) (b:Int):List Ev×Cb:=if p.begun then p.more b else p.first b
def Cb.chunk (p:Cb) (b:Int):List Ev×Cb:=
 if b=255 then p.put p.c.text
 else if b/32≠(if p.c.word then 3 else 2)∨b % 32=31 then p.put (p.c.fail 2)
 else p.first b
def Cb.simple (p:Cb) (low:Int):List Ev×Cb:=
 if low=20∨low=21 then p.put (p.c.value (aq (decide (low=21))))
 else if low=22 then p.put (p.c.value ar)
 else if low=25∨low=26∨low=27 then p.put (p.c.fail 6)
 else p.put (p.c.fail 8)
def Cb.item (p:Cb) (b:Int):List Ev×Cb:=
 if p.c.done=true then p.put (p.c.fail 2)
 else if 28≤b % 32∧b % 32<31∨b % 32=31∧(b/32≤1∨b/32=6) then p.put (p.c.fail 2)
 else if b=255 then p.put p.c.Cl
 else if p.c.atKey=true∧b/32≠3∨b/32=6 then p.put (p.c.fail 8)
 else if b/32=7 then p.simple (b % 32)
 else if(b/32=4∨b/32=5)∧p.c.full=true then p.put (p.c.fail 4)
 else p.first b
def Cb.step (p:Cb) (b:Int):List Ev×Cb:=
 if p.c.e≠0 then([],p)
 else if 0<p.c.aT then p.put (p.c.byte b)
 else if p.begun=true then p.more b
 else if p.c.chunks=true then p.chunk b
 else p.item b
def Cb.run:Cb→List UInt8→List Ev×Int
 |p,[]=>([],p.c.cK)
 |p,b::r=>
  if(p.step b.toNat).2.c.e≠0 then((p.step b.toNat).1,(p.step b.toNat).2.c.e)
  else((p.step b.toNat).1++(Cb.run (p.step b.toNat).2 r).1,(Cb.run (p.step b.toNat).2 r).2)
structure Hd.Fit (h:Hd):Prop where
 begun:h.begun=true
 end_:h.end_=false
 open_:h.open_=false
 e:h.e=0
 major:0≤h.major∧h.major≤7
 aT:1≤h.aT∧h.aT≤8
 v:0≤h.v∧h.v<256^(8-h.aT).toNat
structure Cb.Fit (N:Int) (p:Cb):Prop where
 core:p.c.Fit N
 none_:p.c.e=0→p.begun=false→p.h=Hd.zero
 head:p.c.e=0→p.begun=true→p.h.Fit∧p.h.major≤5
 room:p.c.e=0→p.begun=true→(p.h.major=4∨p.h.major=5)→p.c.full=false
 sep:p.c.e=0→0<p.c.aT→p.begun=false
theorem Cb.eS {d N:Int} (h:1≤d∧d≤16):(Cb.new d).Fit N:=⟨Core.eS h,fun _ _=>rfl,fun _ h=>Bool.noConfusion h,fun _ h=>Bool.noConfusion h,fun _ _=>rfl⟩
theorem Cb.kx {N:Int} {p:Cb} {t:List Ev×Core} (hb:p.begun=false) (hh:p.h=Hd.zero) (h:t.2.Fit N):(p.put t).2.Fit N:=⟨h,fun _ _=>hh,fun _ h=>(by simp only[Cb.put] at h;rw[hb] at h;cases h),fun _ h=>(by simp only[Cb.put] at h;rw[hb] at h;cases h),fun _ _=>hb⟩
theorem Cb.fx {N:Int} {p:Cb} {e:Int} (he:e≠0) (h:p.c.Fit N):(p.put (p.c.fail e)).2.Fit N:=⟨Core.fx h e,fun h=>absurd h he,fun h=>absurd h he,fun h=>absurd h he,fun h=>absurd h he⟩
theorem Cb.vl {N:Int} (hN:0≤N) {p:Cb} (hb:p.begun=false) (hh:p.h=Hd.zero) (h:p.c.Fit N) {major v:Int} (hv:0≤v) (hr:major≠0∧major≠1∧major≠2∧major≠3→p.c.full=false) (lP:Bool):(p.told major v lP).2.Fit (N+1):=by
 unfold Cb.told;split
 ·exact Cb.kx hb hh (Core.iB h _)
 split
 ·split
  ·exact⟨⟨h.depth,h.opens,fun c hc=>by obtain⟨h1,h2,h3⟩:=h.parts c hc;exact⟨h1,by omega,h3⟩,h.aT,h.FZ⟩,fun _ _=>hh,fun _ h=>(by simp only[] at h;rw[hb] at h;cases h),fun _ h=>(by simp only[] at h;rw[hb] at h;cases h),fun _ _=>hb⟩
  ·exact Cb.kx hb hh (Core.Gd h _ hv)
 rename_i h1 h2;have hf:=hr (by omega);split
 ·exact Cb.kx hb hh (Core.yA h hf hN _ (by omega))
 split
 ·exact Cb.fx (by decide) (h.mono (by omega))
 ·exact Cb.kx hb hh (Core.yA h hf hN _ (by omega))
theorem Cb.yB {N:Int} (hN:0≤N) {p:Cb} (h:p.c.Fit N) (hl: ¬0<p.c.aT) {b:Int} (Zb:0≤b∧b≤255) (h5:b/32≤5) (hr:b/32=4∨b/32=5→p.c.full=false):(p.first b).2.Fit (N+1):=by
 unfold Cb.first;split
 ·exact Cb.vl (p:={p with h:=Hd.zero,begun:=false}) hN rfl rfl h (by omega) (fun h9=>hr (by omega)) _
 split
 ·refine⟨h.mono (by omega),fun _ h9=>Bool.noConfusion h9,fun _ _=>⟨⟨rfl,rfl,rfl,rfl,by simp only[];omega,?_,by simp only[];exact⟨by decide,Int.pow_pos (by decide)⟩⟩,h5⟩,fun _ _=>hr,fun _ h9=>absurd h9 hl⟩;simp only[];rcases(show b % 32=24∨b % 32=25∨b % 32=26∨b % 32=27 by omega) with e|e|e|e<;>rw[e]<;>decide
 split
 ·exact Cb.vl (p:={p with h:=Hd.zero,begun:=false}) hN rfl rfl h (by omega) (fun h9=>hr (by omega)) _
 ·exact Cb.fx (p:={p with h:=⟨true,false,false,b/32,0,0,2⟩,begun:=true}) (by decide) (h.mono (by omega))
theorem Cb.N7 {N:Int} (hN:0≤N) {p:Cb} (he:p.c.e=0) (hb:p.begun=true) (h:p.Fit N) {b:Int} (Zb:0≤b∧b≤255):(p.more b).2.Fit (N+1):=by
 obtain⟨hf,hm⟩:=h.head he hb;have hl:=hf.aT;have hv:=hf.v;unfold Cb.more;split
 ·have e:(8- (p.h.aT-1)).toNat=(8-p.h.aT).toNat+1:=by omega
  refine⟨h.core.mono (by omega),fun _ h9=>Bool.noConfusion h9,fun _ _=>⟨⟨hf.begun,hf.end_,hf.open_,hf.e,hf.major,by simp only[];omega,?_⟩,hm⟩,fun _ _=>h.room he hb,fun h8 h9=>absurd (h.sep h8 h9) (by rw[hb];simp)⟩;simp only[];rw[e,Int.pow_succ];omega
 ·exact Cb.vl (p:={p with h:=Hd.zero,begun:=false}) hN rfl rfl h.core (by omega) (fun h9=>h.room he hb (by have:=hf.major;omega)) _
theorem Cb.dN {N:Int} (hN:0≤N) {p:Cb} (h:p.Fit N) {b:Int} (hb:0≤b∧b≤255):(p.step b).2.Fit (N+1):=by
 unfold Cb.step;by_cases he:p.c.e≠0
 ·rw[if_pos he];exact⟨h.core.mono (by omega),h.none_,h.head,h.room,h.sep⟩
 rw[if_neg he];have qk:p.c.e=0:=by omega
 by_cases hl:0<p.c.aT
 ·rw[if_pos hl];have cY:=h.sep qk hl;exact Cb.kx cY (h.none_ qk cY) (Core.N6 h.core hl b)
 rw[if_neg hl];by_cases cY:p.begun=true
 ·rw[if_pos cY];exact Cb.N7 hN qk cY h hb
 rw[if_neg cY];have KN:p.begun=false:=by simpa using cY
 have hz:=h.none_ qk KN;have vm: ∀e:Int,e≠0→(p.put (p.c.fail e)).2.Fit (N+1):=fun e hx=>Cb.fx hx (h.core.mono (by omega));by_cases hc:p.c.chunks=true
 ·rw[if_pos hc];unfold Cb.chunk;split
  ·exact Cb.kx KN hz (Core.nU h.core)
  by_cases h2:b/32≠(if p.c.word=true then 3 else 2)∨b % 32=31
  ·rw[if_pos h2];exact vm 2 (by decide)
  ·rw[if_neg h2];have h3:b/32=if p.c.word=true then 3 else 2:=by
    by_cases hx:b/32=if p.c.word=true then 3 else 2
    ·exact hx
    ·exact absurd (inl hx) h2
   have h4:b/32=2∨b/32=3:=by cases hw:p.c.word<;>rw[hw] at h3<;>simp at h3<;>omega
   exact Cb.yB hN h.core hl hb (by omega) (fun _=>by omega)
 ·rw[if_neg hc];unfold Cb.item;split
  ·exact vm 2 (by decide)
  split
  ·exact vm 2 (by decide)
  split
  ·exact Cb.kx KN hz (Core.SL h.core)
  split
  ·exact vm 8 (by decide)
  split
  ·unfold Cb.simple;split
   ·exact Cb.kx KN hz (Core.iB h.core _)
   split
   ·exact Cb.kx KN hz (Core.iB h.core _)
   split
   ·exact vm 6 (by decide)
   ·exact vm 8 (by decide)
  split
  ·exact vm 4 (by decide)
  ·rename_i h1 h2 h3 h4 h5 h6;refine Cb.yB hN h.core hl hb (by omega) (fun h9=> ?_);cases hfu:p.c.full with
   |false=>rfl
   |true=>exact absurd ⟨h9,hfu⟩ h6
theorem sW: ∀l:List af,∀q∈(aS l).1,Clear q
 | []=>by simp[aS]
 |c::r=>by
  unfold aS;split
  ·intro q hq;simp only[List.mem_cons] at hq;rcases hq with rfl|hq
   ·exact inr (inr (inr (inr (inr (inr (inr rfl))))))
   ·exact sW r q hq
  ·simp
theorem rU: ∀l:List af,(aS l).1.length≤l.length
 | []=>by simp[aS]
 |c::r=>by
  have:=rU r;unfold aS;split
  ·simp only[List.length_cons];omega
  ·simp
theorem vp:Clear aL:=inr (inr (inr (inr (inr (inr (inr rfl))))))
theorem fF {k:Core} {p:Ev} (h:Clear p): ∀q∈(k.value p).1,Clear q:=by
 intro q hq;simp only[Core.value,List.mem_cons] at hq;rcases hq with rfl|hq
 ·exact h
 ·exact sW _ q hq
theorem pw (bg:Bool) {n:Int} (h: -1≤n):Clear (aX bg n):=by
 unfold aX;split
 ·exact inr (inr (inr (inr (inr (inr (inl ⟨n,h,rfl⟩))))))
 ·exact inr (inr (inr (inr (inr (inl ⟨n,h,rfl⟩)))))
theorem sX {k:Core} (bg:Bool) {n:Int} (h: -1≤n): ∀q∈(k.begin bg n).1,Clear q:=by
 unfold Core.begin;split
 ·intro q hq;simp only[List.mem_cons] at hq;rcases hq with rfl|hq
  ·exact pw bg h
  ·exact fF vp q hq
 ·intro q hq;simp only[List.mem_singleton] at hq;subst hq;exact pw bg h
theorem Ge (word:Bool) (l:List UInt8):Clear (me word l):=by
 unfold me;split
 ·exact inr (inr (inr (inl ⟨_,rfl⟩)))
 ·exact inr (inr (inr (inr (inl ⟨_,rfl⟩))))
theorem nT {k:Core}: ∀q∈k.text.1,Clear q:=fF (Ge _ _)
theorem zI {k:Core} (word:Bool) (n:Int): ∀q∈(k.length word n).1,Clear q:=by
 unfold Core.length;split
 ·simp[Core.fail]
 ·simp only[];split
  ·simp
  ·exact nT
theorem FX {k:Core} (b:Int): ∀q∈(k.byte b).1,Clear q:=by
 unfold Core.byte;simp only[];generalize (if k.word then k.c.step b else k.c)=c';split
 ·simp[Core.fail]
 ·split
  ·simp
  ·exact nT
theorem Gf (b:Bool) (m:Int):Clear (ay b m):=inr (inr (inl ⟨_,_,rfl⟩))
theorem Kw {k:Core}: ∀q∈k.Cl.1,Clear q:=by
 unfold Core.Cl;split
 ·simp[Core.fail]
 ·split
  ·simp[Core.fail]
  ·exact fF vp
theorem pN {p:Cb} {v:Int} (hv:0≤v) (major:Int) (lP:Bool): ∀q∈(p.told major v lP).1,Clear q:=by
 unfold Cb.told;split
 ·exact fF (Gf _ _)
 split
 ·split
  ·simp
  ·exact zI _ _
 split
 ·exact sX _ (by omega)
 split
 ·simp[Cb.put,Core.fail]
 ·exact sX _ (by omega)
theorem sT {p:Cb} {b:Int}: ∀q∈(p.first b).1,Clear q:=by
 unfold Cb.first;split
 ·exact pN (by omega) _ _
 split
 ·simp
 split
 ·exact pN (by omega) _ _
 ·simp[Cb.put,Core.fail]
theorem FY {p:Cb} (h:p.h.Fit) {b:Int} (hb:0≤b): ∀q∈(p.more b).1,Clear q:=by
 have:=h.v;unfold Cb.more;split
 ·simp
 ·exact pN (by omega) _ _
open Go.K1 in
theorem pO {N:Int} {p:Cb} (h:p.Fit N) {b:Int} (hb:0≤b): ∀q∈(p.step b).1,Clear q:=q26
theorem oK {N:Int} {k:Core} (h:k.Fit N) (p:Ev):(k.value p).1.length≤17:=by have:=rU k.open_;have:=h.opens;have:=h.depth;simp only[Core.value,List.length_cons];omega
theorem yC {N:Int} {k:Core} (h:k.Fit N) (bg:Bool) (n:Int):(k.begin bg n).1.length≤18:=by
 have:=oK h aL;unfold Core.begin;split
 ·simp only[List.length_cons];omega
 ·simp
theorem uS {N:Int} {k:Core} (h:k.Fit N):k.text.1.length≤17:=by
 have hk:Core.Fit N {k with s:=[],chunks:=false}:=⟨h.depth,h.opens,h.parts,by have:=h.aT;simp only[List.length_nil];omega,h.FZ⟩
 exact oK hk _
theorem Gg {N:Int} {k:Core} (h:k.Fit N) (word:Bool) {n:Int} (hn:0≤n):(k.length word n).1.length≤17:=by
 unfold Core.length;split
 ·simp[Core.fail]
 ·have hk:Core.Fit N {k with word:=word,aT:=n,c:=cm.zero}:=⟨h.depth,h.opens,h.parts,by simp only[];omega,cm.n7⟩
  simp only[];split
  ·simp
  ·exact uS hk
open Go.K1 in
theorem NM {N:Int} {k:Core} (h:k.Fit N) (hl:0<k.aT) (b:Int):(k.byte b).1.length≤17:=q33
theorem Su {N:Int} {k:Core} (h:k.Fit N):k.Cl.1.length≤18:=by
 have hd:=h.depth;have ho:=h.opens;unfold Core.Cl;split
 ·simp[Core.fail]
 ·rename_i c r hr;rw[hr,List.length_cons] at ho;split
  ·simp[Core.fail]
  ·have:=rU r;simp only[Core.value,List.length_cons];omega
theorem vt {N:Int} {p:Cb} (h:p.c.Fit N) {v:Int} (hv:0≤v) (major:Int) (lP:Bool):(p.told major v lP).1.length≤18:=by
 unfold Cb.told;split
 ·exact Nat.le_trans (oK h _) (by omega)
 split
 ·split
  ·simp
  ·exact Nat.le_trans (Gg h _ hv) (by omega)
 split
 ·exact yC h _ _
 split
 ·simp[Cb.put,Core.fail]
 ·exact yC h _ _
theorem yx {N:Int} {p:Cb} (h:p.c.Fit N) {b:Int}:(p.first b).1.length≤18:=by
 unfold Cb.first;split
 ·exact vt (p:={p with h:=Hd.zero,begun:=false}) h (by omega) _ _
 split
 ·simp
 split
 ·exact vt (p:={p with h:=Hd.zero,begun:=false}) h (by omega) _ _
 ·simp[Cb.put,Core.fail]
theorem NN {N:Int} {p:Cb} (h:p.c.Fit N) (hh:p.h.Fit) {b:Int} (hb:0≤b):(p.more b).1.length≤18:=by
 have:=hh.v;unfold Cb.more;split
 ·simp
 ·exact vt (p:={p with h:=Hd.zero,begun:=false}) h (by omega) _ _
open Go.K0 in
theorem nQ {N:Int} {p:Cb} (h:p.Fit N) {b:Int} (hb:0≤b):(p.step b).1.length≤18:=q26
end Go.Tru
