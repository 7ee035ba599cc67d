/- truchmanbook.Doc -/
import Derived.Test.YthffblhdjjbkaaaGreatM18
import Derived.Laws.EntriesVeiled
set_option maxHeartbeats 100000000
set_option maxRecDepth 1000000
open Go.Lib (hid)
open Go.Proofs.Tryz
namespace Go.Proofs.YthffblhdjjbkaaaGreat
open Go.RowKit Go.Tru
theorem N4 {w0:World} {bL bD bO bA bN bI:Nat} {o:Option Addr} {n c:Nat} {xs:List Int} {dep:Int} (N3:dep≤1000): ∀k,Gb w0 bL bD bO bA bN bI o n c xs dep k:=by
 intro k;induction k with
 |zero=>
  intro d w at_ es v Rj Zu h nM FL;have Cs:es.length≤5000:=by omega
  obtain⟨x,hx⟩: ∃x,(nx (xs.drop at_)).1=x:=⟨_,rfl⟩
  have hi:aE 0 (xs.drop at_)=(cE x,(nx (xs.drop at_)).2):=by rw[←hx];rfl
  rw[hi];have hd:dep≤d:=by omega
  rcases(show x % 8=0∨x % 8=1∨(x % 8=2∨x % 8=3)∨x % 8=4∨x % 8=5∨(x % 8=6∨x % 8=7) by omega) with h8|h8|h8|h8|h8|h8
  ·rw[show cE x= [ar] by simp[cE,h8]];exact vf d h nM Cs x hx h8
  ·rw[show cE x= [aq (decide (x/8 % 2=1))] by simp[cE,h8]];exact vg d h nM Cs x hx h8
  ·rw[show cE x= [ay (decide (x/8 % 2=1)) (((x*x)>>>(x % 8):Nat):Int)] by unfold cE;rw[if_neg (by omega),if_neg (by omega),if_pos h8]]
   exact yz d h nM Cs x hx h8
  ·rw[show cE x= [ah (cF x)] by simp[cE,h8]];exact vh d h nM Cs x hx h8
  ·rw[show cE x= [ah aY] by simp[cE,h8]];exact Ct d h nM Cs x hx h8 hd
  ·rw[show cE x= [ay false x] by unfold cE;rw[if_neg (by omega),if_neg (by omega),if_neg (by omega),if_neg (by omega),if_neg (by omega)]]
   exact Ga d h nM Cs x hx h8 hd
 |succ k ih=>
  intro d w at_ es v Rj Zu h nM FL;have Cs:es.length≤5000:=by omega
  obtain⟨x,hx⟩: ∃x,(nx (xs.drop at_)).1=x:=⟨_,rfl⟩
  rcases(show x % 8=0∨x % 8=1∨(x % 8=2∨x % 8=3)∨x % 8=4∨x % 8=5∨(x % 8=6∨x % 8=7) by omega) with h8|h8|h8|h8|h8|h8
  ·have hi:aE (k+1) (xs.drop at_)=([ar],(nx (xs.drop at_)).2):=by unfold aE;rw[hx,if_pos (by omega)];simp[cE,h8]
   rw[hi];exact vf d h nM Cs x hx h8
  ·have hi:aE (k+1) (xs.drop at_)=([aq (decide (x/8 % 2=1))],(nx (xs.drop at_)).2):=by unfold aE;rw[hx,if_pos (by omega)];simp[cE,h8]
   rw[hi];exact vg d h nM Cs x hx h8
  ·have hi:aE (k+1) (xs.drop at_)=([ay (decide (x/8 % 2=1)) (((x*x)>>>(x % 8):Nat):Int)],(nx (xs.drop at_)).2):=by unfold aE;rw[hx,if_pos (by omega)];unfold cE;rw[if_neg (by omega),if_neg (by omega),if_pos h8]
   rw[hi];exact yz d h nM Cs x hx h8
  ·have hi:aE (k+1) (xs.drop at_)=([ah (cF x)],(nx (xs.drop at_)).2):=by unfold aE;rw[hx,if_pos (by omega)];simp[cE,h8]
   rw[hi];exact vh d h nM Cs x hx h8
  ·have hi:aE (k+1) (xs.drop at_)=(aN ((x/8 % 4:Nat):Int)::(rep (aE k) (x/8 % 4) (nx (xs.drop at_)).2).1++[aL],(rep (aE k) (x/8 % 4) (nx (xs.drop at_)).2).2):=by rw[aE,hx,if_neg (by omega),if_pos h8]
   rw[hi];exact KL d h nM k Rj Zu N3 FL ih x hx h8
  ·have hi:aE (k+1) (xs.drop at_)=(aO ((x/8 % 3:Nat):Int)::(rep (cx (aE k)) (x/8 % 3) (nx (xs.drop at_)).2).1++[aL],(rep (cx (aE k)) (x/8 % 3) (nx (xs.drop at_)).2).2):=by rw[aE,hx,if_neg (by omega),if_neg (by omega)]
   rw[hi];exact KM d h nM k Rj Zu N3 FL ih x hx h8
theorem SK (o:Option Addr) (n c:Nat) (xs:List Int) (dep:Nat) (N3:dep≤100) (hn:n≤100) (w:World) (h:ni w o n c xs):Calls prog 5 #[.slice o n c,.int .i64 dep] w fun e w'=>∃v,e= .returned v∧fM w' w.heap.size v (doc xs dep)∧I [] w w':=by
 have hmf: ∀ (fn:Fn) (first cap:Array Value) (w:World),(Instr.makeFunc fn first cap).run prog w= .ok (.func fn first cap) w:=fun _ _ _ _=>rfl;have hit:=N4 (w0:=w) (bL:=w.heap.size) (bD:=w.heap.size+1) (bO:=w.heap.size+1+1) (bA:=w.heap.size+1+1+1) (bN:=w.heap.size+1+1+1+1) (bI:=w.heap.size+1+1+1+1+1) (o:=o) (n:=n) (c:=c) (xs:=xs) (dep:=(dep:Int)) (by omega) dep;have Cu:=hid hit;clear hit;have H:=hid h;have L:=hid h.len;clear h;go_enter func5,ntmps5;go_wp2_with fail
 refine(Cu.out 0 _ 0 [] (.slice none 0 0) (by omega) (by omega) ⟨⟨Nat.le_refl _,by omega,by omega,by omega,by omega,by omega⟩,((((((Has.aC w _ _ rfl).alloc _).alloc _).alloc _).alloc _).alloc _),(((((Has.aC (w.alloc _) _ _ (by simp)).alloc _).alloc _).alloc _).alloc _),((((Has.aC ((w.alloc _).alloc _) _ _ (by simp)).alloc _).alloc _).alloc _),fM.nil _ _,(((Has.aC (((w.alloc _).alloc _).alloc _) _ _ (by simp)).alloc _).alloc _),((Has.aC ((((w.alloc _).alloc _).alloc _).alloc _) _ _ (by simp)).alloc _),(Has.aC (((((w.alloc _).alloc _).alloc _).alloc _).alloc _) _ _ (by simp)),H.out,((((((I.refl [] w).alloc _).alloc _).alloc _).alloc _).alloc _).alloc _⟩ (by simp) (by have:=L.out;simp;omega)).mono ?_;rintro e w1 ⟨rfl,yp,v',Cf,adC,hD⟩;have q2:=hD.out.cell 0;simp only[List.getElem?_cons_zero,List.drop_zero,List.nil_append] at q2 hD;obtain⟨ov,cv,rfl⟩:=hD.own.shape;have HD:=hid hD;clear hD Cf adC;go_wp2_with fail
 go_ret;exact⟨_,rfl,gM HD.out.own (by omega),HD.out.keep⟩
end Go.Proofs.YthffblhdjjbkaaaGreat
