/- truchmanref1.Writer in memory; truchmanref1.Writer; truchmanref1.Writer -/
import Derived.Test.YthffblhdjjbkaaaGreatM5
import Derived.Deep.RegionHeld
import Derived.BigQuiet
set_option maxHeartbeats 100000000
set_option maxRecDepth 1000000
open Go.Lib (hid)
open Go.Proofs.Tryz
open Or (inl inr)
namespace Go.Proofs.YthffblhdjjbkaaaGreat
open Go.RowKit Go.Tru
structure eJ (w:World) (base b:Nat) (to:Int) (ov:Value) (Gr:List af) (done:Bool):Prop where
 az:Has w b [.int .i64 to,ov,.bool done] 29
 bu:ai w base 61 ov Gr
 bo:b∉ae ov
theorem eJ.keeps {F:List Nat} {w w':World} {base b:Nat} {to:Int} {ov:Value} {Gr:List af} {done:Bool} (h:eJ w base b to ov Gr done) (k:I F w w') (hb:b∉F) (ho: ∀i∈ae ov,i∉F):eJ w' base b to ov Gr done:=⟨h.az.keeps k hb,ab h.bu k (fun i hi=>ho i (aa.2 hi)),h.bo⟩
theorem eJ.cells {w:World} {base b:Nat} {to:Int} {ov:Value} {Gr:List af} {done:Bool} (h:eJ w base b to ov Gr done):w.cell? ⟨b,0,none⟩=some (.int .i64 to)∧w.cell? ⟨b,1,none⟩=some ov∧w.cell? ⟨b,2,none⟩=some (.bool done):=⟨h.az.cell 0,h.az.cell 1,h.az.cell 2⟩
def iX (w:World) (base b:Nat) (to:Int) (ov:Value) (out:ByteArray) (Gr:List af) (done:Bool) (r:Ending) (w':World):Prop:=
 r= .returned (.tuple #[.string out,.int .i64 0])∧∃oW,eJ w' base b to oW Gr done∧I (b::ae ov) w w'∧∀i∈ae oW,i∈ae ov∨w.heap.size≤i
theorem CJ {to:Int} (pe:to=2∨to=3) (e:Ev) (hk:0≤e.kind∧e.kind≤4) {bs:ByteArray} (CK:bs.size≤1000000) (HP: ∀W,Calls prog 25 #[.int .i64 to,e.val] W fun r w'=>r= .returned (.tuple #[.string bs,.int .i64 0])∧I [] W w') {w:World} {base b:Nat} {ov:Value} (h:eJ w base b to ov [] false):Calls prog 6 #[.pointer (some ⟨b,0,none⟩),e.val] w (iX w base b to ov bs [] true):=by
 have HM:=hid (fun W=>kr e (inl (by omega)) W);obtain⟨a,cap,rfl⟩:=h.bu.shape;obtain⟨k,y,m,t,c⟩:=e;simp only[Ev.val,Ev.cells,List.length_nil] at*;have h1:(to==1)=false:=by rcases pe with rfl|rfl<;>decide
 have k5:(k==5)=false:=by simp;omega
 have k6:(k==6)=false:=by simp;omega
 have k7:(k==7)=false:=by simp;omega
 have dq:(⟨#[]⟩:ByteArray)++bs=bs:=ByteArray.empty_append;have HP:=hid HP;have H:=hid h;have bP:=h.az.lt;clear h pe hk;go_enter func6,ntmps6;have aJ:=Has.aC w #[.int .i64 k,.bool y,.int .u64 m,.string t,.int .i64 c] 34 rfl;have k0:=(I.refl [] w).alloc (.cells #[.int .i64 k,.bool y,.int .u64 m,.string t,.int .i64 c] 34);obtain⟨w1,eK⟩: ∃w1,w.alloc (.cells #[.int .i64 k,.bool y,.int .u64 m,.string t,.int .i64 c] 34)=w1:=⟨_,rfl⟩
 have H1:=hid (H.out.keeps (k0) (by simp) (by simp));rw[eK] at aJ k0 H1;obtain⟨g0,g1,g2⟩:=H1.out.cells;have e0:w1.cell? ⟨w.heap.size,0,none⟩=some (.int .i64 k):=aJ.cell 0;have e1:w1.cell? ⟨w.heap.size,1,none⟩=some (.bool y):=aJ.cell 1;have e2:w1.cell? ⟨w.heap.size,2,none⟩=some (.int .u64 m):=aJ.cell 2;have e3:w1.cell? ⟨w.heap.size,3,none⟩=some (.string t):=aJ.cell 3;have e4:w1.cell? ⟨w.heap.size,4,none⟩=some (.int .i64 c):=aJ.cell 4;have K0:=hid k0;have HN:=hid aJ;clear aJ k0;go_wp2_with fail
 go_wp2_with fail
 refine(HM.out _).mono ?_;rintro e w2 ⟨rfl,k2⟩;have H2:=hid (H1.out.keeps k2 (by simp) (by simp));have aJ:=HN.out.keeps k2 (by simp);have K2:=hid (K0.out.trans k2);clear g0 g1 g2 e0 e1 e2 e3 e4 eK;obtain⟨g0,g1,g2⟩:=H2.out.cells;have e0:w2.cell? ⟨w.heap.size,0,none⟩=some (.int .i64 k):=aJ.cell 0;have e1:w2.cell? ⟨w.heap.size,1,none⟩=some (.bool y):=aJ.cell 1;have e2:w2.cell? ⟨w.heap.size,2,none⟩=some (.int .u64 m):=aJ.cell 2;have e3:w2.cell? ⟨w.heap.size,3,none⟩=some (.string t):=aJ.cell 3;have e4:w2.cell? ⟨w.heap.size,4,none⟩=some (.int .i64 c):=aJ.cell 4;have rG:=hid aJ;clear aJ k2 K0 HN H1;go_wp2_with fail
 go_region_held (fun W=>W.cell? ⟨b,0,none⟩=some (.int .i64 to)∧W.cell? ⟨w.heap.size,0,none⟩=some (.int .i64 k)∧W.cell? ⟨w.heap.size,1,none⟩=some (.bool y)∧W.cell? ⟨w.heap.size,2,none⟩=some (.int .u64 m)∧W.cell? ⟨w.heap.size,3,none⟩=some (.string t)∧W.cell? ⟨w.heap.size,4,none⟩=some (.int .i64 c)) (go_keep) ((go_at_call 25;refine(HP.out _).mono ?_;rintro e w4 ⟨rfl,k4⟩;have d:=k4.cell (p:=⟨b,0,none⟩) g0 (by simp);have d0:=k4.cell (p:=⟨w.heap.size,0,none⟩) e0 (by simp);have d1:=k4.cell (p:=⟨w.heap.size,1,none⟩) e1 (by simp);have d2:=k4.cell (p:=⟨w.heap.size,2,none⟩) e2 (by simp);have d3:=k4.cell (p:=⟨w.heap.size,3,none⟩) e3 (by simp);have d4:=k4.cell (p:=⟨w.heap.size,4,none⟩) e4 (by simp)))
 all_goals
  have V2:=(I.refl [] w2).drew.trans k4;have H4:=hid (H2.out.keeps V2 (by simp) (by simp));have K4:=hid (K2.out.trans V2);have g2:=H4.out.az.cell 2;have f2:=H4.out.az.free 2;have nK:=H4.out.az.lt;simp only[List.getElem?_cons_succ,List.getElem?_cons_zero] at g2;clear g0 g1 e0 e1 e2 e3 e4 k4 V2 d1 d2 d3 d4 rG K2 H2;go_wp2_with fail
  go_ret2;refine⟨rfl,_,⟨(H4.out.az.set 2 (.bool true)).conv rfl,ab H4.out.bu ((I.refl [b] _).ax _) (fun i hi hm=>H4.out.bo (by rw[List.mem_singleton] at hm;exact hm▸aa.2 hi)),H4.out.bo⟩,?_,fun i hi=>inl hi⟩;exact(K4.out.mono (G:=b::ae (.slice a 0 cap)) nn).setCell (p:=⟨b,2,none⟩) (inl ms) _
theorem CL:(Tryz.prog.info? 61).map (fun i=>(i.zero,i.size,i.bytes))=some (some (.agg #[.bool false,.int .i64 0,.int .i64 0]),3,24):=by kernel_rfl
theorem Jq (l:List af): ∀u∈bJ l,u.oneCell'=true:=by intro u hu;obtain⟨c,_,h⟩:=List.mem_flatMap.1 hu;exact ve c u h
theorem Jr (l d:List af):bJ l++bJ d=bJ (d++l):=by unfold bJ;rw[List.reverse_append,List.flatMap_append]
theorem qo {ops:Array Oper} {rest:List Oper} {o:Oper} {a:Act} {w:World} {Q:Exit→Act→World→Prop} (sU:o.guard=none) (s x:Operand) (ho:o.op= .call {callee:= .builtin .append,args:= #[s,x],argTypes:= #[27,27]}) (base:Nat) (v:Value) (l:List af) (hs:a.eval s=v) (au:ai w base 61 v l) (ad:Addr) (m c:Nat) (ds:List af) (hx:a.eval x= .slice (some ad) m c) (hm:ds.length=m) (fO: ∀ (j:Nat) (u:Value),(bJ ds)[j]? =some u→w.cell? (ad.add j)=some u) (hlen:l.length+m≤1000000) (ak:base≤w.heap.size) (h: ∀v' w',ai w' base 61 v' (ds++l)→I (ae v) w w'→(v'.ownBlock=v.ownBlock∨v'.ownBlock=some w.heap.size)→wpList prog ops Q rest (a.put o.dst v') w'):wpList prog ops Q (o::rest) a w:=by obtain⟨i0,hi,ko,gv,gW⟩:=info_parts CL;subst hm;refine wpList_append_own_at w sU s x 27 ho base 61 i0 (.agg #[.bool false,.int .i64 0,.int .i64 0]) 3 24 underlying27 hi ko gv gW rfl (by decide) v l.length (bJ l) hs au ad ds.length c (bJ ds) hx (fN ds) fO (Jq ds) (by unfold maxLen;omega) (by omega) ak ?_;intro v' w' h2 h3 _ h5;refine h v' w' ?_ (cD h3) h5;unfold ai;rw[←Jr,List.length_append,Nat.add_comm];exact h2
theorem bH {o:Oper} {a:Act} {w:World} {K:Act→World→Prop} {Q:Exit→Act→World→Prop} (s x:Operand) (ho:o.op= .call {callee:= .builtin .append,args:= #[s,x],argTypes:= #[27,27]}) (base:Nat) (v:Value) (l:List af) (hs:a.eval s=v) (au:ai w base 61 v l) (ad:Addr) (m c:Nat) (ds:List af) (hx:a.eval x= .slice (some ad) m c) (hm:ds.length=m) (fO: ∀ (j:Nat) (u:Value),(bJ ds)[j]? =some u→w.cell? (ad.add j)=some u) (hlen:l.length+m≤1000000) (ak:base≤w.heap.size) (h: ∀v' w',ai w' base 61 v' (ds++l)→I (ae v) w w'→(v'.ownBlock=v.ownBlock∨v'.ownBlock=some w.heap.size)→K (a.put o.dst v') w'):Oper.wp prog o a w K Q:=by obtain⟨i0,hi,ko,gv,gW⟩:=info_parts CL;subst hm;obtain⟨v',w',hr,h2,h3,_,h5⟩:=run_append_own_at (P:=prog) w base 27 o.type 61 i0 (.agg #[.bool false,.int .i64 0,.int .i64 0]) 3 24 underlying27 hi ko gv gW rfl (by decide) v l.length (bJ l) au ad ds.length c (bJ ds) (fN ds) fO (Jq ds) (by unfold maxLen;omega) (by omega) ak;unfold Oper.wp execOp;simp only[ho,resolve,invoke,builtin,Sem.run_bind,Sem.run_pure,Result.andThen_ok,List.map_toArray,List.map_cons,List.map_nil,hs,hx,hr];refine h v' w' ?_ (cD h3) h5;unfold ai;rw[←Jr,List.length_append,Nat.add_comm];exact h2
theorem _root_.Go.Tru.eJ.pH {w w2:World} {base b:Nat} {to:Int} {ov v2:Value} {Gr s:List af} {c:af} {dn:Bool} (h:eJ w base b to ov Gr dn) (au:ai w2 base 61 v2 (c::s)) (k:I [] w w2) (hb: ∀m,v2.ownBlock=some m→w.heap.size≤m): ∃g cap,v2= .slice (some ⟨g,0,none⟩) (s.length+1) cap∧w.heap.size≤g∧eJ (w2.setCell ⟨b,1,none⟩ v2) base b to v2 (c::s) dn∧I [b] w (w2.setCell ⟨b,1,none⟩ v2)∧w2.cell? ⟨b,1,none⟩=some ov∧w2.frozen? ⟨b,1,none⟩=false∧b<w2.heap.size:=by
 obtain⟨g,cap,rfl,-,gl,-,-,-,-,-,-⟩:=au.some_;have hg:w.heap.size≤g:=hb g rfl;have bP:=h.az.lt;have mE:=h.az.keeps k (by simp);have bn:I [b] w2 (w2.setCell ⟨b,1,none⟩ (.slice (some ⟨g,0,none⟩) (s.length+1) cap)):=(I.refl _ _).ax _;refine⟨g,cap,rfl,hg,⟨(mE.set 1 _).conv rfl,ab au bn (fun i hi KT=> ?_),fun KT=> ?_⟩,(k.mono (by simp)).trans bn,mE.cell 1,mE.free 1,mE.lt⟩
 ·rw[List.mem_singleton] at KT;simp only[Value.ownBlock,Option.some.injEq] at hi;omega
 ·rw[aa] at KT;simp only[Value.ownBlock,Option.some.injEq] at KT;omega
theorem ym {w:World} {b:Nat} {cs:List Value} {t:TypeId} (h:Has w b cs t): ∀ (j:Nat) (u:Value),cs[j]? =some u→w.cell? ((⟨b,0,none⟩:Addr).add j)=some u:=by
 intro j u hu;have F9:(⟨b,0,none⟩:Addr).add j=⟨b,j,none⟩:=by unfold Addr.add;split<;>simp_all
 rw[F9,h.cell];exact hu
end Go.Proofs.YthffblhdjjbkaaaGreat
