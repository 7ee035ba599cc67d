/- stage.Stage's hold -/
import Derived.Test.YthffblhdjjbkaaaGreatM5
import Derived.BigQuiet
import Derived.Deep.RegionWith
set_option maxHeartbeats 100000000
set_option maxRecDepth 1000000
open Go.Lib (hid)
open Go.Proofs.Tryz
open Or (inl inr)
namespace Go.Proofs.YthffblhdjjbkaaaGreat
open Go.RowKit Go.Tru
theorem cC {w:World} {b:Nat} {l s e:Int} {hv ov:Value} {t:TypeId} (h:Has w b [.int .i64 l,hv,.int .i64 s,ov,.int .i64 e] t):w.cell? ⟨b,0,none⟩=some (.int .i64 l)∧w.cell? ⟨b,1,none⟩=some hv∧w.cell? ⟨b,2,none⟩=some (.int .i64 s)∧w.cell? ⟨b,3,none⟩=some ov∧w.cell? ⟨b,4,none⟩=some (.int .i64 e):=⟨h.cell 0,h.cell 1,h.cell 2,h.cell 3,h.cell 4⟩
theorem eu {w:World} {b:Nat} {l:List Value} {t:TypeId} (h:Has w b l t):w.frozen? ⟨b,0,none⟩=false∧w.frozen? ⟨b,1,none⟩=false∧w.frozen? ⟨b,2,none⟩=false∧w.frozen? ⟨b,3,none⟩=false∧w.frozen? ⟨b,4,none⟩=false:=⟨h.free 0,h.free 1,h.free 2,h.free 3,h.free 4⟩
structure Tx (s:St) (base:Nat) (w:World):Prop where
 err:s.e=0
 size:0≤s.size∧s.size≤1000000
 lK:0≤s.cN∧s.cN≤2000
 len:s.held.length≤1000000
 gQ:base≤w.heap.size
theorem sE (w:World) (x:Int):dR (w.alloc (.cells #[.int .i64 x,.slice none 0 0,.int .i64 0,.slice none 0 0,.int .i64 0] 175)) w.heap.size w.heap.size (.slice none 0 0) (.slice none 0 0) (St.new x):=⟨Has.aC w _ _ rfl,aP.nil _ _,cG.nil _ _,by simp[aR],by simp[aR],by simp[aR]⟩
theorem Ja (n:Int) (w:World):Calls prog 104 #[.int .i64 n] w fun r w'=>r= .returned (.pointer (some ⟨w.heap.size,0,none⟩))∧dR w' w.heap.size w.heap.size (.slice none 0 0) (.slice none 0 0) (St.new (min (max n 0) 2000))∧I [] w w':=by
 by_cases h0:n<0
 ·have e:min (max n 0) 2000=0:=by omega
  rw[e];clear e;go_enter func104,ntmps104;go_wp2;go_ret;exact⟨rfl,sE w _,(I.refl _ _).alloc _⟩
 ·by_cases h1:2000<n
  ·have e:min (max n 0) 2000=2000:=by omega
   rw[e];clear e;go_enter func104,ntmps104;go_wp2;go_ret;exact⟨rfl,sE w _,(I.refl _ _).alloc _⟩
  ·have e:min (max n 0) 2000=n:=by omega
   rw[e];clear e;go_enter func104,ntmps104;go_wp2;go_ret;exact⟨rfl,sE w _,(I.refl _ _).alloc _⟩
theorem PE (s:St) (w:World) (base b:Nat) (hv ov:Value) (h:dR w base b hv ov s):Calls prog 94 #[.pointer (some ⟨b,0,none⟩)] w fun r w'=>r= .returned (.int .i64 s.size)∧w=w':=by obtain⟨g0,g1,g2,g3,g4⟩:=cC h.az;clear h;go_enter func94,ntmps94;go_wp2;go_ret;exact⟨rfl,rfl⟩
theorem mz (s:St) (p:Ev) (hp:Clear p) (lL:p.text.size≤1000000) (w:World) (base b:Nat) (hv ov:Value) (h:dR w base b hv ov s) (hf:Tx s base w):Calls prog 117 #[.pointer (some ⟨b,0,none⟩),p.part] w fun r w'=>r= .returned (.int .i64 (s.hold p).e)∧fK w base b hv ov (s.hold p) w':=by
 obtain⟨KO,⟨U1,hf3⟩,⟨hf4,hf5⟩,hf6,hf7⟩:=hf;have ko:1≤p.size:=by unfold Ev.size;omega
 have gv:p.size≤1000001:=by unfold Ev.size;omega
 have hsa:=fun W=>NY p hp (by unfold maxLen;omega) W;have H:=hid h;have HE:=hid KO;obtain⟨g0,g1,g2,g3,g4⟩:=cC h.az;obtain⟨f0,f1,f2,f3,f4⟩:=eu h.az;obtain⟨pv,oU⟩: ∃pv,p.part=pv:=⟨_,rfl⟩
 have sZ:=p7 p;rw[oU] at hsa sZ⊢;have HSA:=hid hsa;have Rm:=hid oU;clear h hsa KO oU;rcases sZ with rfl|⟨T,v,rfl⟩;all_goals
  go_enter func117,ntmps117;go_wp2_with (at_builtin;go_must (refine nj rfl _ _ rfl base _ s.held rfl (ab H.out.held ((I.refl [] _).alloc _) (by simp)) ⟨_,0,none⟩ 1 1 [p] rfl rfl (oO Rm.out rfl) (by omega) (by simp;omega) ?_))
  intro v2 w2 cI iA my Vf;obtain⟨o2,c2,jz⟩:=cI.shape;rw[List.length_append,List.length_singleton] at jz;subst jz;have bn:=dR.Tv H.out cI (((I.refl _ _).alloc _).trans iA) (Vf.imp id (fun h=>⟨_,h,by simp⟩));have fT:=(H.out.az.alloc _).keeps iA H.out.bh;obtain⟨g0,g1,g2,g3,g4⟩:=cC fT;obtain⟨f0,f1,f2,f3,f4⟩:=eu fT;have iJ:=hid bn;clear bn fT cI iA my Vf;go_wp2_with fail
  obtain⟨w3,jN⟩: ∃w3,w3=w2.setCell ⟨b,1,none⟩ (.slice o2 (s.held.length+1) c2):=⟨_,rfl⟩
  have bn:=iJ.out;rw[←jN] at bn⊢;clear iJ jN g0 g1 g2 g3 g4 f0 f1 f2 f3 f4;obtain⟨Fv,xh,Nh⟩:=bn;obtain⟨g0,g1,g2,g3,g4⟩:=cC Fv.az;obtain⟨f0,f1,f2,f3,f4⟩:=eu Fv.az;have Cc:=hid Fv;have Oe:=hid xh;have HB3:=hid Nh;clear Fv xh Nh;have zG:IntKind.i64.wrap (s.size+p.size)=s.size+p.size:=IntWalk.i64_in _ (by omega);go_region_with (go_at_call 121;refine(HSA.out _).mono ?_;rintro e w4 ⟨rfl,k4⟩;have g2:=(Cc.out.az.drew.keeps k4 (by simp)).cell 2;have f2:=(Cc.out.az.drew.keeps k4 (by simp)).free 2;simp only[List.getElem?_cons_zero,List.getElem?_cons_succ] at g2)
  all_goals
   clear zG;obtain⟨w5,VZ⟩: ∃w5,w5=w4.setCell ⟨b,2,none⟩ (.int .i64 (s.size+p.size)):=⟨_,rfl⟩
   have k34:I [] w3 w4:=(I.refl [] w3).drew.trans k4;have qt:=(Cc.out.aI k34).Tw (s.size+p.size);have qp:I (bM b hv ov) w (w4.setCell ⟨b,2,none⟩ (.int .i64 (s.size+p.size))):=(Oe.out.trans (k34.mono (by simp))).setCell (inl ms) _;rw[←VZ] at qt qp⊢;clear VZ k34 k4 g0 g1 g2 g3 g4 f0 f1 f2 f3 f4;obtain⟨g0,g1,g2,g3,g4⟩:=cC qt.az;obtain⟨f0,f1,f2,f3,f4⟩:=eu qt.az;have Rh:=hid qt;have I6:=hid qp;clear qt qp;by_cases PF:s.cN<s.size+p.size
   ·have hh:s.hold p=py:=by unfold St.hold;rw[if_pos PF]
    have HH:=hid hh;clear hh;go_wp2_with fail
    go_quiet (fail)
    go_wp2_with fail
    go_ret;refine⟨by rw[HH.out];rfl,?_⟩;rw[HH.out];exact Hl (Rh.out.aI ((I.refl [] _).drewN _)) (I6.out.drewN _)
   ·have hh:s.hold p={s with held:=s.held++[p],size:=s.size+p.size}:=by unfold St.hold;rw[if_neg PF]
    have HH:=hid hh;clear hh;go_wp2_with fail
    go_quiet (fail)
    go_wp2_with fail
    go_ret;refine⟨by rw[HH.out];rfl,?_⟩;rw[HH.out];exact⟨_,_,Rh.out.aI ((I.refl [] _).drewN _),I6.out.drewN _,HB3.out⟩
end Go.Proofs.YthffblhdjjbkaaaGreat
