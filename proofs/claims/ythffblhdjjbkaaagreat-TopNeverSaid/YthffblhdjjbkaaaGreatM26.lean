/- timer.Timer at an offset of a block -/
import Derived.Test.YthffblhdjjbkaaaGreatM12
import Derived.Test.YthffblhdjjbkaaaGreatM19
set_option maxHeartbeats 100000000
set_option maxRecDepth 1000000
open Go.Lib (hid)
open Go.Proofs.Tryz
open Or (inl inr)
namespace Go.Tru
open Go.RowKit
def Bw:Value→Option (DataW Nat×List MemPlace)
 | .pointer none=>some (.nil,[])
 | .pointer (some ⟨b,0,none⟩)=>some (.held b,[])
 |_=>none
theorem Qy:Bw (.pointer none)=some (.nil,[]):=rfl
theorem Qz {v:Value} {d:DataW Nat} {ps:List MemPlace} (h:Bw v=some (d,ps)):(v= .pointer none∧d= .nil)∨∃b,v= .pointer (some ⟨b,0,none⟩)∧d= .held b:=by
 unfold Bw at h;split at h
 ·simp at h;exact inl ⟨rfl,h.1.symm⟩
 ·rename_i b;simp at h;exact inr ⟨b,rfl,h.1.symm⟩
 ·cases h
end Go.Tru
namespace Go.Proofs.YthffblhdjjbkaaaGreat
open Go.RowKit Go.Tru
open Go.Maps (Keyed)
open Go.ChangeMaps Go.MapKept
def lN (w:World) (g:Nat):Prop:=∃x y z:Int,Has w g [.int .i64 x,.int .i64 y,.int .i64 z] 113
def pd (w:World) (mv:Value) (n:Nat) (M G:List Nat):Prop:=
 (mv= .map none∧M= []∧G= [])∨∃mb D,mv= .map (some mb)∧M= [mb]∧w.ownsMap prog 3 Bw mb n D∧Maps.IsMap D∧mb∉G∧(∀g∈G,lN w g)∧∀k:Int,D.atKey (.int .i64 k) .nil= .nil∨∃g∈G,D.atKey (.int .i64 k) .nil= .held g
structure mP (w:World) (b:Nat) (pre post:List Value) (T:TypeId) (now:Int) (mv:Value) (n:Nat) (M G:List Nat):Prop where
 az:Has w b (pre++[.int .i64 now,mv]++post) T
 map:pd w mv n M G
 own:b∉M++G
theorem lN.keeps {F:List Nat} {w w':World} {g:Nat} (h:lN w g) (k:I F w w') (hg:g∉F):lN w' g:=by obtain⟨x,y,z,h⟩:=h;exact⟨x,y,z,h.keeps k hg⟩
theorem pG {F:List Nat} {w w':World} {k:TypeId} {R:Value→Option (DataW Nat×List MemPlace)} {mb n:Nat} {D:DataW Nat} (h:w.ownsMap prog k R mb n D) (kp:I F w w') (hm:mb∉F):w'.ownsMap prog k R mb n D:=by obtain⟨es,clock,hb,r⟩:=h;exact⟨es,clock,kp.heap hb hm,r⟩
theorem pd.keeps {F:List Nat} {w w':World} {mv:Value} {n:Nat} {M G:List Nat} (h:pd w mv n M G) (k:I F w w') (hF: ∀i∈M++G,i∉F):pd w' mv n M G:=by
 rcases h with h|⟨mb,D,h1,h2,h3,h4,h5,h6,h7⟩
 ·exact inl h
 ·subst h2;exact inr ⟨mb,D,h1,rfl,pG h3 k (hF mb (by simp)),h4,h5,fun g hg=>(h6 g hg).keeps k (hF g (by simp[hg])),h7⟩
theorem pd.lt {w:World} {mv:Value} {n:Nat} {M G:List Nat} (h:pd w mv n M G): ∀i∈M++G,i<w.heap.size:=by
 intro i hi;rcases h with⟨_,rfl,rfl⟩|⟨mb,D,h1,rfl,h3,h4,h5,h6,h7⟩
 ·simp at hi
 ·simp only[List.singleton_append,List.mem_cons] at hi;rcases hi with rfl|hi
  ·exact h3.lt
  ·obtain⟨x,y,z,h⟩:=h6 i hi;exact h.lt
theorem mP.keeps {F:List Nat} {w w':World} {b:Nat} {pre post:List Value} {T:TypeId} {now:Int} {mv:Value} {n:Nat} {M G:List Nat} (h:mP w b pre post T now mv n M G) (k:I F w w') (hb:b∉F) (hF: ∀i∈M++G,i∉F):mP w' b pre post T now mv n M G:=⟨h.az.keeps k hb,h.map.keeps k hF,h.own⟩
theorem rE:Keyed prog 3:=Maps.int_keyed underlying3
theorem JW (w:World):(zeroValue 111).run prog w= .ok (.pointer none) w:=by kernel_rfl
theorem JX {w:World} {mv:Value} {n:Nat} {M G:List Nat} (h:pd w mv n M G) {key:Int} (hk: -9223372036854775808≤key∧key≤9223372036854775807):(Instr.lookup 72 mv (.int .i64 key) false).run prog w= .ok (.pointer none) w∨∃g∈G,(Instr.lookup 72 mv (.int .i64 key) false).run prog w= .ok (.pointer (some ⟨g,0,none⟩)) w:=by
 rcases h with⟨rfl,_,_⟩|⟨mb,D,rfl,rfl,h3,h4,h5,h6,h7⟩
 ·exact inl (Maps.look_nil false rE underlying72 (JW w) (Maps.keyOf_int_mk underlying3 (WalkArith.wf_i64 hk)))
 ·obtain⟨v,ps,oh,hv⟩:=h3.lookup rE underlying72 (JW w) Qy (Maps.keyOf_int_mk underlying3 (WalkArith.wf_i64 hk));rcases Qz hv with⟨rfl,_⟩|⟨g,rfl,hd⟩
  ·exact inl oh
  ·rcases h7 key with h8|⟨g',Vd,h8⟩
   ·rw[h8] at hd;cases hd
   ·rw[h8] at hd;injection hd with hd;exact inr ⟨g',Vd,hd▸oh⟩
theorem mP.facts {w:World} {b:Nat} {pre post:List Value} {T:TypeId} {now:Int} {mv:Value} {n:Nat} {M G:List Nat} (h:mP w b pre post T now mv n M G) {off:Nat} (ho:off=pre.length):w.cell? ⟨b,off,none⟩=some (.int .i64 now)∧w.cell? ⟨b,off+1,none⟩=some mv∧w.frozen? ⟨b,off+1,none⟩=false:=⟨bR h.az ho 0 (by simp),bR h.az ho 1 (by simp),h.az.free _⟩
theorem pd.shape {w:World} {mv:Value} {n:Nat} {M G:List Nat} (h:pd w mv n M G): ∃o,mv= .map o:=by
 rcases h with⟨rfl,_⟩|⟨mb,D,rfl,_⟩
 ·exact⟨_,rfl⟩
 ·exact⟨_,rfl⟩
theorem Cm (w:World) (b:Nat) (pre post:List Value) (T:TypeId) (now:Int) (mv:Value) (n:Nat) (M G:List Nat) (h:mP w b pre post T now mv n M G) (off:Nat) (ho:off=pre.length) (key:Nat) (hk:key≤1000):Calls prog 69 #[.pointer (some ⟨b,off,none⟩),.int .i64 key] w fun e w'=>(e= .returned (.pointer none)∨∃g∈G,e= .returned (.pointer (some ⟨g,0,none⟩)))∧w=w':=by
 obtain⟨c0,c1,f1⟩:=h.facts ho;have hl:=JX h.map (key:=(key:Int)) (by omega);obtain⟨o,rfl⟩:=h.map.shape;clear h ho;rcases hl with hl|⟨g,hg,hl⟩
 ·go_enter func69,ntmps69;go_wp2_with fail
  go_ret;exact⟨inl rfl,rfl⟩
 ·go_enter func69,ntmps69;go_wp2_with fail
  go_ret;exact⟨inr ⟨g,hg,rfl⟩,rfl⟩
theorem lN.set {w:World} {g i:Nat} (h:lN w g) (hi:i<3) (x:Int):lN (w.setCell ⟨g,i,none⟩ (.int .i64 x)) g:=by
 obtain⟨a,b,c,h⟩:=h;rcases(show i=0∨i=1∨i=2 by omega) with rfl|rfl|rfl
 ·exact⟨x,b,c,(h.set 0 _).conv rfl⟩
 ·exact⟨a,x,c,(h.set 1 _).conv rfl⟩
 ·exact⟨a,b,x,(h.set 2 _).conv rfl⟩
theorem mP.NO {w:World} {b:Nat} {pre post:List Value} {T:TypeId} {now:Int} {mv:Value} {n:Nat} {M G:List Nat} (h:mP w b pre post T now mv n M G) {g i:Nat} (hg:g∈G) (hi:i<3) (x:Int):mP (w.setCell ⟨g,i,none⟩ (.int .i64 x)) b pre post T now mv n M G:=by
 have cY:b≠g:=fun e=>h.own (List.mem_append_right _ (e▸hg));refine⟨h.az.other (p:=⟨g,i,none⟩) cY _,?_,h.own⟩;rcases h.map with⟨h1,h2,rfl⟩|⟨mb,D,h1,h2,h3,h4,h5,h6,h7⟩
 ·cases hg
 ·refine inr ⟨mb,D,h1,h2,pG h3 ((I.refl [g] _).ax _) (fun hm=>h5 (by rw[List.mem_singleton] at hm;exact hm▸hg)),h4,h5,fun g' Vd=> ?_,h7⟩;by_cases e:g'=g
  ·subst e;exact(h6 g' Vd).set hi x
  ·exact(h6 g' Vd).keeps ((I.refl [g] _).ax _) (by simpa using e)
open Go.K0 in
theorem Fa (w:World) (b:Nat) (pre post:List Value) (T:TypeId) (now:Int) (mv:Value) (n:Nat) (M G:List Nat) (h:mP w b pre post T now mv n M G) (off:Nat) (ho:off=pre.length) (key:Nat) (hk:key≤1000):Calls prog 40 #[.pointer (some ⟨b,off,none⟩),.int .i64 key] w fun e w'=>(∃y,e= .returned (.bool y))∧mP w' b pre post T now mv n M G∧I G w w':=q28
open Go.K1 in
theorem Fb (w:World) (b:Nat) (pre post:List Value) (T:TypeId) (now:Int) (mv:Value) (n:Nat) (M G:List Nat) (h:mP w b pre post T now mv n M G) (off:Nat) (ho:off=pre.length) (key:Nat) (hk:key≤1000) (lK:Int) (hl:0≤lK):Calls prog 47 #[.pointer (some ⟨b,off,none⟩),.int .i64 key,.int .i64 lK] w fun e w'=>(∃y,e= .returned (.bool y))∧mP w' b pre post T now mv n M G∧I G w w':=q28
theorem pd.del {w':World} {mb n:Nat} {D:DataW Nat} {G:List Nat} {key:Int} (h1:w'.ownsMap prog 3 Bw mb n (D.del (.int .i64 key))) (hD:Maps.IsMap D) (h5:mb∉G) (h6: ∀g∈G,lN w' g) (h7: ∀k:Int,D.atKey (.int .i64 k) .nil= .nil∨∃g∈G,D.atKey (.int .i64 k) .nil= .held g):pd w' (.map (some mb)) n [mb] G:=by
 refine inr ⟨mb,_,rfl,rfl,h1,hD.del _,h5,h6,fun k=> ?_⟩;by_cases e:k=key
 ·subst e;exact inl (Maps.atKey_del_same _)
 ·rw[Maps.atKey_del_other (by intro h;exact e (by injection h))];exact h7 k
theorem uj {w w':World} {mb:Nat} (h:w.mapTurned w' mb):I [mb] w w':=by obtain⟨es,clock,es',aeY,hb,rfl⟩:=h;exact⟨rfl,rfl,rfl,by simp[setBlock],fun k hk hF=>heap_setBlock_other hb _ (fun e=>hF (by simp[e]))⟩
theorem IM (w:World) (b:Nat) (pre post:List Value) (T:TypeId) (now:Int) (mv:Value) (n:Nat) (M G:List Nat) (h:mP w b pre post T now mv n M G) (off:Nat) (ho:off=pre.length) (key:Nat) (hk:key≤1000):Calls prog 52 #[.pointer (some ⟨b,off,none⟩),.int .i64 key] w fun e w'=>(∃y,e= .returned (.bool y))∧mP w' b pre post T now mv n M G∧I M w w':=by
 obtain⟨c0,c1,f1⟩:=h.facts ho;have xA:=hid (Cm w b pre post T now mv n M G h off ho key hk);have H:=hid h;have bP:=h.az.lt;obtain⟨o,rfl⟩:=h.map.shape;clear h ho c0 f1;go_enter func52,ntmps52;go_wp2_with fail
 refine xA.out.mono ?_;rintro e w1 ⟨rfl|⟨g,hg,rfl⟩,rfl⟩
 ·go_wp2_with fail
  go_ret;exact⟨⟨_,rfl⟩,H.out,I.refl _ _⟩
 ·rcases H.out.map with⟨_,_,h3⟩|⟨mb,D,h1,h2,h3,h4,h5,h6,h7⟩
  ·subst h3;cases hg
  ·injection h1 with h1;subst h1 h2;have H3:=hid h3;have H4:=hid h4;have H5:=hid h5;have H6:=hid h6;have H7:=hid h7;clear h3 h4 h5 h6 h7;go_wp2_with (at_delete;go_must (refine wpList_delete_own _ rfl _ _ 72 3 rfl 111 rE underlying72 Bw mb n D rfl H3.out _ (.int .i64 key) rfl (Maps.keyOf_int_mk underlying3 (WalkArith.wf_i64 (by omega))) ?_))
   intro w2 cI QA;have K2:=hid (uj QA);have wK:=hid cI;clear cI QA;go_wp2_with fail
   go_ret;have hb:=H.out.own;refine⟨⟨_,rfl⟩,⟨H.out.az.keeps K2.out (fun hm=>hb (by simp at hm;simp[hm])),pd.del wK.out H4.out H5.out (fun g hg=>(H6.out g hg).keeps K2.out (fun hm=>H5.out (by rw[List.mem_singleton] at hm;exact hm▸hg))) H7.out,hb⟩,K2.out⟩
theorem pd.put {w6:World} {mb n:Nat} {D:DataW Nat} {G:List Nat} {key:Int} {g:Nat} (h1:w6.ownsMap prog 3 Bw mb (n+1) (D.put (.int .i64 key) (.held g))) (hD:Maps.IsMap D) (h5:mb∉G) (hg:mb≠g) (h6: ∀g∈G,lN w6 g) (Wj:lN w6 g) (h7: ∀k:Int,D.atKey (.int .i64 k) .nil= .nil∨∃g∈G,D.atKey (.int .i64 k) .nil= .held g):pd w6 (.map (some mb)) (n+1) [mb] (g::G):=by
 refine inr ⟨mb,_,rfl,rfl,h1,hD.put _ _,by simp[h5,hg],fun x hx=> ?_,fun k=> ?_⟩
 ·rcases List.mem_cons.1 hx with rfl|hx
  ·exact Wj
  ·exact h6 x hx
 ·by_cases e:k=key
  ·subst e;exact inr ⟨g,by simp,Maps.atKey_put_same (k:= .int .i64 k) hD trivial _ _⟩
  ·rw[Maps.atKey_put_other (by intro h;exact e (by injection h))];rcases h7 k with h8|⟨x,hx,h8⟩
   ·exact inl h8
   ·exact inr ⟨x,List.mem_cons_of_mem _ hx,h8⟩
theorem IN (mb:Nat) (W:World):(binOp .eql 72 (.map (some mb)) (.map none)).run prog W= .ok (.bool false) W:=by kernel_rfl
theorem IP (W:World):(binOp .eql 72 (.map none) (.map none)).run prog W= .ok (.bool true) W:=by kernel_rfl
theorem Ub (W:World):(Instr.makeMap 72 none).run prog W= .ok (.map (some W.heap.size)) (W.alloc (.map #[] 0)):=by kernel_rfl
theorem Fc (w:World) (b:Nat) (pre post:List Value) (T:TypeId) (now:Int) (mv:Value) (n:Nat) (M G:List Nat) (h:mP w b pre post T now mv n M G) (off:Nat) (ho:off=pre.length) (key:Nat) (hk:key≤1000) (lK:Int) (al8:0≤lK) (hn:n≤1000000):Calls prog 35 #[.pointer (some ⟨b,off,none⟩),.int .i64 key,.int .i64 lK] w fun e w'=>(∃y,e= .returned (.bool y))∧∃yv M' G',mP w' b pre post T now yv (n+1) M' G'∧I (b::(M++G)) w w'∧∀i∈M'++G',i∈M++G∨w.heap.size≤i:=by
 obtain⟨c0,c1,f1⟩:=h.facts ho;have hl:=JX h.map (key:=(key:Int)) (by omega);have H:=hid h;have HO:=hid ho;have bP:=h.az.lt;have BH: ¬ (key:Int)<0:=by omega
 have To: ¬lK<0:=by omega
 rcases h.map with⟨h1,h2,h3⟩|⟨mb,D,h1,h2,h3,h4,h5,h6,h7⟩
 ·subst h1 h2 h3;rcases hl with hl|⟨g,hg,hl⟩
  ·have KT:=Ub;have heq:=IP;clear h ho;go_enter func35,ntmps35;go_upto_region 5 with fail;obtain⟨mb,Wc⟩: ∃mb,w.heap.size=mb:=⟨_,rfl⟩
   have ys: ¬b=mb:=by omega
   obtain⟨wA,YV⟩: ∃wA,(w.setCell ⟨b,off+1,none⟩ (.map (some w.heap.size))).alloc (.map #[] 0)=wA:=⟨_,rfl⟩
   rw[YV];rw[Wc] at YV;have dU:I [b] w wA:=by rw[←YV];exact((I.refl [b] w).setCell (p:=⟨b,off+1,none⟩) (inl (by simp)) _).alloc _
   have HB:=hid (show Has wA b (pre++[.int .i64 now,.map (some mb)]++post) T by rw[←YV];exact((cd H.out.az HO.out 1 _ (by simp)).alloc _).conv (by simp))
   have HM:=hid (show wA.ownsMap prog 3 Bw mb n (.map []) by
    have h0:=(World.ownsMap_made (w.setCell ⟨b,off+1,none⟩ (.map (some mb))) prog 3 Bw).mono (Nat.zero_le n);have hs:(w.setCell ⟨b,off+1,none⟩ (.map (some mb))).heap.size=mb:=by rw[←Wc];simp
    rw[hs,YV] at h0;exact h0)
   have c0':wA.cell? ⟨b,off,none⟩=some (.int .i64 now):=bR HB.out HO.out 0 (by simp);have YT:wA.cell? ⟨b,off+1,none⟩=some (.map (some mb)):=bR HB.out HO.out 1 (by simp);have L0: ∀w',I [mb] wA w'→w'.cell? ⟨b,off,none⟩=some (.int .i64 now):=fun w' k=>k.cell c0' (by simpa using ys);have L1: ∀w',I [mb] wA w'→w'.cell? ⟨b,off+1,none⟩=some (.map (some mb)):=fun w' k=>k.cell YT (by simpa using ys);have H4:RowKit.Hid (Maps.IsMap (.map []:DataW Nat)):=hid Maps.isMap_empty;have H5:RowKit.Hid (mb∉([]:List Nat)):=hid (by simp);have H6:RowKit.Hid (∀g∈([]:List Nat),lN wA g):=hid (by simp);have H7:RowKit.Hid (∀k:Int,(DataW.map []:DataW Nat).atKey (.int .i64 k) .nil= .nil∨∃g∈([]:List Nat),(DataW.map []:DataW Nat).atKey (.int .i64 k) .nil= .held g):=hid (fun k=>inl (by simp[DataW.atKey]));have hml:=HM.out.lt;have wo:=hid dU;have gv:=dU.size;obtain⟨G,hG⟩: ∃G:List Nat,[]=G:=⟨_,rfl⟩
   rw[hG] at H5 H6 H7;clear c0 c1 f1 hl c0' YT dU YV KT heq;refine rg (fun w'=>I [mb] wA w') ((I.refl _ _).drew) fun HH=> ?_;refine tk 0 HH.out ?_;try simp only[gz]
   refine tk 1 HH.out ?_;try simp only[gz]
   refine tk 2 HH.out ?_;try simp only[gz]
   refine tf 3 L1 HH.out ?_;try simp only[gz]
   refine tk 4 HH.out ?_;try simp only[gz]
   refine tk 5 HH.out ?_;try simp only[gz]
   refine tk 6 HH.out ?_;try simp only[gz]
   refine tk 7 HH.out ?_;try simp only[gz]
   refine tk 8 HH.out ?_;try simp only[gz]
   refine tf 9 L0 HH.out ?_;try simp only[gz]
   refine tk 10 HH.out ?_;try simp only[gz]
   refine tk 11 HH.out ?_;try simp only[gz]
   refine tk 12 HH.out ?_;try simp only[gz]
   refine tf 13 L0 HH.out ?_;try simp only[gz]
   refine tk 14 HH.out ?_;try simp only[gz]
   refine rd 15 fun K hK=> ?_;go_simp;refine hK.out _ _ (HH.out.alloc _) fun HH=> ?_;clear hK K;refine rd 16 fun K hK=> ?_;obtain⟨w6,oh,bx,pC⟩:=((HM.out.alloc (.cells #[.int .i64 lK,.int .i64 now,.int .i64 now] 113)).drew).update rE underlying72 (by unfold maxLen;omega) (Maps.keyOf_int_mk underlying3 (WalkArith.wf_i64 (show-9223372036854775808≤(key:Int)∧(key:Int)≤9223372036854775807 by omega))) (val:= .pointer (some ⟨wA.heap.size,0,none⟩)) rfl;have XN:=hid (show lN w6 wA.heap.size from⟨_,_,_,((Has.new wA [.int .i64 lK,.int .i64 now,.int .i64 now] 113).drew).keeps (I.grown (I.refl [mb] _) pC (fun k hk=>by injection hk with hk;exact inl (by simp[hk]))) (by simp;omega)⟩);have Vx:=hid bx;go_simp;refine hK.out _ _ (HH.out.trans (I.grown (I.refl [mb] _) pC (fun k hk=>by injection hk with hk;exact inl (by simp[hk])))) fun HH=> ?_;clear hK K;refine wpAnyH_done (by kernel_rfl) ?_ _;clear oh bx pC;go_wp2_with fail
   go_ret;have lB:=pd.put Vx.out H4.out H5.out (by omega) (fun g hg=>(H6.out g hg).keeps HH.out (fun hm=>H5.out (by rw[List.mem_singleton] at hm;exact hm▸hg))) XN.out H7.out;refine⟨by first|exact⟨_,rfl⟩|exact inl rfl|exact inr rfl,_,[mb],wA.heap.size::G,⟨HB.out.keeps HH.out (by simpa using ys),lB,?_⟩,?_,?_⟩
   ·intro hm;simp only[List.mem_append,List.mem_cons,List.not_mem_nil,or_false] at hm;subst hG;rcases hm with hm|hm|hm
    ·exact ys hm
    ·omega
    ·cases hm
   ·exact(wo.out.mono (by simp)).trans' HH.out (fun i hi=>inr (by rw[List.mem_singleton] at hi;omega))
   ·intro i hi;subst hG;simp only[List.mem_cons,List.not_mem_nil,or_false] at hi;rcases hi with hi|hi|hi
    ·exact inr (by omega)
    ·exact inr (by omega)
  ·cases hg
 ·subst h1 h2;rcases hl with hl|⟨g,hg,hl⟩
  ·have HM:=hid h3;have H4:=hid h4;have H5:=hid h5;have H6:=hid h6;have H7:=hid h7;have ys: ¬b=mb:=fun e=>h.own (by simp[e]);have L0: ∀w',I [mb] w w'→w'.cell? ⟨b,off,none⟩=some (.int .i64 now):=fun w' k=>k.cell c0 (by simpa using ys);have L1: ∀w',I [mb] w w'→w'.cell? ⟨b,off+1,none⟩=some (.map (some mb)):=fun w' k=>k.cell c1 (by simpa using ys);have hml:=h3.lt;have HB:=hid h.az;have heq:=IN mb;clear h ho h3 h4 h5 h6 h7;go_enter func35,ntmps35;go_upto_region 5 with fail;clear c0 c1 f1 hl;refine rg (fun w'=>I [mb] w w') ((I.refl _ _).drew) fun HH=> ?_;refine tk 0 HH.out ?_;try simp only[gz]
   refine tk 1 HH.out ?_;try simp only[gz]
   refine tk 2 HH.out ?_;try simp only[gz]
   refine tf 3 L1 HH.out ?_;try simp only[gz]
   refine tk 4 HH.out ?_;try simp only[gz]
   refine tk 5 HH.out ?_;try simp only[gz]
   refine tk 6 HH.out ?_;try simp only[gz]
   refine tk 7 HH.out ?_;try simp only[gz]
   refine tk 8 HH.out ?_;try simp only[gz]
   refine tf 9 L0 HH.out ?_;try simp only[gz]
   refine tk 10 HH.out ?_;try simp only[gz]
   refine tk 11 HH.out ?_;try simp only[gz]
   refine tk 12 HH.out ?_;try simp only[gz]
   refine tf 13 L0 HH.out ?_;try simp only[gz]
   refine tk 14 HH.out ?_;try simp only[gz]
   refine rd 15 fun K hK=> ?_;go_simp;refine hK.out _ _ (HH.out.alloc _) fun HH=> ?_;clear hK K;refine rd 16 fun K hK=> ?_;obtain⟨w6,oh,bx,pC⟩:=((HM.out.alloc (.cells #[.int .i64 lK,.int .i64 now,.int .i64 now] 113)).drew).update rE underlying72 (by unfold maxLen;omega) (Maps.keyOf_int_mk underlying3 (WalkArith.wf_i64 (show-9223372036854775808≤(key:Int)∧(key:Int)≤9223372036854775807 by omega))) (val:= .pointer (some ⟨w.heap.size,0,none⟩)) rfl;have XN:=hid (show lN w6 w.heap.size from⟨_,_,_,((Has.new w [.int .i64 lK,.int .i64 now,.int .i64 now] 113).drew).keeps (I.grown (I.refl [mb] _) pC (fun k hk=>by injection hk with hk;exact inl (by simp[hk]))) (by simp;omega)⟩);have Vx:=hid bx;go_simp;refine hK.out _ _ (HH.out.trans (I.grown (I.refl [mb] _) pC (fun k hk=>by injection hk with hk;exact inl (by simp[hk])))) fun HH=> ?_;clear hK K;refine wpAnyH_done (by kernel_rfl) ?_ _;clear oh bx pC;go_wp2_with fail
   go_ret;have lB:=pd.put Vx.out H4.out H5.out (by omega) (fun g hg=>(H6.out g hg).keeps HH.out (fun hm=>H5.out (by rw[List.mem_singleton] at hm;exact hm▸hg))) XN.out H7.out;refine⟨by first|exact⟨_,rfl⟩|exact inl rfl|exact inr rfl,_,[mb],w.heap.size::G,⟨HB.out.keeps HH.out (by simpa using ys),lB,?_⟩,?_,?_⟩
   ·intro hm;simp only[List.mem_append,List.mem_cons,List.not_mem_nil,or_false] at hm;rcases hm with hm|hm|hm
    ·exact ys hm
    ·omega
    ·exact H.out.own (by simp[hm])
   ·exact HH.out.mono (by simp)
   ·intro i hi;simp only[List.mem_cons,List.not_mem_nil,or_false] at hi⊢;rcases hi with hi|hi|hi
    ·exact inl (inl hi)
    ·exact inr (by omega)
    ·exact inl (inr hi)
  ·clear h ho h3 h4 h5 h6 h7;go_enter func35,ntmps35;go_wp2_with fail
   go_ret;refine⟨by first|exact⟨_,rfl⟩|exact inl rfl|exact inr rfl,_,[mb],G,⟨H.out.az,(by
    rcases H.out.map with h|⟨mb',D',g1,g2,g3,g4,g5,g6,g7⟩
    ·exact inl h
    ·exact inr ⟨mb',D',g1,g2,g3.mono (Nat.le_succ _),g4,g5,g6,g7⟩),H.out.own⟩,I.refl _ _,fun i hi=>inl (by simpa using hi)⟩
end Go.Proofs.YthffblhdjjbkaaaGreat
