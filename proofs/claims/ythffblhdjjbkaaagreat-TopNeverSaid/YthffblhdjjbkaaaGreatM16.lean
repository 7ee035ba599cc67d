/- jsonin.Parser -/
import Derived.Test.YthffblhdjjbkaaaGreatM15
import Derived.Deep.RegionLaw
set_option maxHeartbeats 100000000
set_option maxRecDepth 1000000
open Go.Lib (hid)
open Go.Proofs.Tryz
open Or (inl inr)
namespace Go.Proofs.YthffblhdjjbkaaaGreat
open Go.RowKit Go.Tru
theorem yw (base b:Nat) (mv:Value) (p:Js) (F:List Nat) (w:World) (h:dr w base b mv p F):Calls prog 119 #[.pointer (some ⟨b,0,none⟩)] w fun e w'=>e= .returned (.tuple #[])∧dr w' base b mv p.behind F∧I [b] w w':=by
 obtain⟨g23,g24,zr,Kk,dD,ys⟩:=fl h;obtain⟨f24,f25,f26⟩:=kt h;obtain⟨o,c,Fy⟩:=h.maps.shape;have H:=hid h;by_cases hm:p.maps= []
 ·have hp:p.behind={p with next:=6}:=by unfold Js.behind;rw[if_pos hm]
  rw[hp];have hz:p.maps.length=0:=by rw[hm];rfl
  rw[hz] at Fy;subst Fy;clear h hp hm hz;go_enter func119,ntmps119;go_wp2_with fail
  go_end0;exact⟨rfl,(H.out.iS 5).iS 6,((I.refl _ _).ax _).ax _⟩
 ·have hp:p.behind={p with next:=5}:=by unfold Js.behind;rw[if_neg hm]
  rw[hp];obtain⟨n,hn⟩: ∃n:Nat,p.maps.length=n:=⟨_,rfl⟩
  have hz:((n:Int)==0)=false:=by rw[beq_eq_false_iff_ne];intro h0;exact hm (List.length_eq_zero_iff.1 (by omega))
  rw[hn] at Fy;subst Fy;clear h hp hm hn;go_enter func119,ntmps119;go_wp2_with fail
  go_end0;exact⟨rfl,H.out.iS 5,(I.refl _ _).ax _⟩
def gn (w:World) (base b:Nat) (mv:Value) (F:List Nat) (r:Option Ev×Js) (e:Ending) (w':World):Prop:=
 e= .returned (rR r.1)∧pL w base b mv F r.2 w'
theorem NI {F:List Nat} {mv:Value} {b:Nat} {w w':World} (hb:b∈F++ae mv) (k:I [b] w w'):I (F++ae mv) w w':=k.mono (by simpa using hb)
theorem D4 (base b:Nat) (mv:Value) (p:Js) (F:List Nat) (t:ej) (w:World) (h:dr w base b mv p F) (hk:t.kind=115∨t.kind=110∨t.kind=116∨t.kind=102∨t.kind=48):Calls prog 120 #[.pointer (some ⟨b,0,none⟩),ew t] w fun e w'=>gn w base b mv F (p.value t) e w':=by
 obtain⟨kind,text,neg,jM⟩:=t;have H:=hid h;have eA:=ku h;have Wg:=fun W hW=>yw base b mv p F W hW;clear h;simp only at hk;simp only[ew,ej.cells];rcases hk with rfl|rfl|rfl|rfl|rfl;all_goals
  go_enter func120,ntmps120;go_wp2_with fail
  refine(Wg _ (H.out.aI ((I.refl _ _).alloc _))).mono ?_;rintro e w1 ⟨rfl,h1,k1⟩;have H1:=hid h1;have K1:=hid (((I.refl (F++ae mv) w).alloc (.cells #[.int .u8 _,.string text,.bool neg,.int .u64 jM] 209)).trans (NI eA k1));clear h1 k1;go_wp2_with fail
  go_ret2;exact⟨rfl,eT H1.out K1.out⟩
theorem LR:(Tryz.prog.info? 4).map (fun i=>(i.zero,i.size,i.bytes))=some (some (.bool false),1,1):=by kernel_rfl
theorem mem_left {F:List Nat} {v v':Value} {n:Nat} (h: ∀i,i∈ae v'→i∈ae v∨n≤i): ∀i∈F++ae v',i∈F++ae v∨n≤i:=by
 intro i hi;rcases List.mem_append.1 hi with h1|h1
 ·exact inl (List.mem_append_left _ h1)
 ·rcases h i h1 with h2|h2
  ·exact inl (List.mem_append_right _ h2)
  ·exact inr h2
theorem wI {o:Oper} {a:Act} {w:World} {K:Act→World→Prop} {Q:Exit→Act→World→Prop} (s x:Operand) (ho:o.op= .call {callee:= .builtin .append,args:= #[s,x],argTypes:= #[86,86]}) (base:Nat) (v:Value) (l:List Bool) (hs:a.eval s=v) (au:dY w base v l) (ad:Addr) (m:Bool) (hx:a.eval x= .slice (some ad) 1 1) (fO: ∀ (j:Nat) (u:Value),[Value.bool m][j]? =some u→w.cell? (ad.add j)=some u) (hlen:l.length≤1000000) (ak:base≤w.heap.size) (h: ∀v' w',dY w' base v' (m::l)→I (ae v) w w'→(v'.ownBlock=v.ownBlock∨v'.ownBlock=some w.heap.size)→K (a.put o.dst v') w'):Oper.wp prog o a w K Q:=by obtain⟨i0,hi,ko,gv,gW⟩:=info_parts LR;obtain⟨v',w',hr,h2,h3,_,h5⟩:=run_append_own_at (P:=prog) w base 86 o.type 4 i0 (.bool false) 1 1 underlying86 hi ko gv gW rfl (by decide) v l.length (l.reverse.map Value.bool) au ad 1 1 [.bool m] rfl fO (by intro u hu;simp at hu;subst hu;rfl) (by unfold maxLen;omega) (by omega) ak;unfold Oper.wp execOp;simp only[ho,resolve,invoke,builtin,Sem.run_bind,Sem.run_pure,Result.andThen_ok,List.map_toArray,List.map_cons,List.map_nil,hs,hx,hr];refine h v' w' ?_ (cD h3) h5;unfold dY;rw[ll];exact h2
theorem P3 (m:Bool) {w:World} {t:TypeId} {g:Nat} (hg:g=w.heap.size): ∀ (j:Nat) (u:Value),[Value.bool m][j]? =some u→(w.alloc (.cells #[.bool m] t)).cell? ((⟨g,0,none⟩:Addr).add j)=some u:=aA [Value.bool m] hg
theorem Ik (base b:Nat) (mv:Value) (p:Js) (F:List Nat) (t:ej) (w:World) (h:dr w base b mv p F) (hk:t.kind=91∨t.kind=123) (hd:(p.maps.length:Int)=p.depth):Calls prog 120 #[.pointer (some ⟨b,0,none⟩),ew t] w fun e w'=>gn w base b mv F (p.value t) e w':=by
 have hv:p.value t=p.fail 4:=by unfold Js.value;rw[if_pos hk,if_pos hd]
 rw[hv];obtain⟨kind,text,neg,jM⟩:=t;have eA:=ku h;obtain⟨o,c,Fy⟩:=h.maps.shape;obtain⟨n,hn⟩: ∃n:Nat,p.maps.length=n:=⟨_,rfl⟩
 rw[hn] at Fy hd;subst Fy;have hA:=h.aI (((I.refl [] w).alloc (.cells #[.int .u8 kind,.string text,.bool neg,.int .u64 jM] 209)));obtain⟨g23,g24,zr,Kk,dD,ys⟩:=fl hA;obtain⟨f24,f25,f26⟩:=kt hA;rw[←hd] at g23;have H:=hid hA;clear h hv hn hd hA;simp only at hk;simp only[ew,ej.cells];rcases hk with rfl|rfl;all_goals
  go_enter func120,ntmps120;go_wp2_with fail
  go_region;all_goals
   go_wp2_with fail
   go_ret2;exact⟨rfl,eT ((H.out.aI (I.refl [] _).drew).uN 4) ((((I.refl _ _).alloc _).drew).setCell (inl eA) _)⟩
theorem Il (base b:Nat) (mv:Value) (p:Js) (F:List Nat) (t:ej) (w:World) (h:dr w base b mv p F) (hf:p.Fit) (ak:base≤w.heap.size) (hk:t.kind=91∨t.kind=123) (hd: ¬ (p.maps.length:Int)=p.depth):Calls prog 120 #[.pointer (some ⟨b,0,none⟩),ew t] w fun e w'=>gn w base b mv F (p.value t) e w':=by
 have hv:p.value t=(some (if t.kind=123 then aO (-1) else aN (-1)),{p with maps:=decide (t.kind=123)::p.maps,next:=if t.kind=123 then 2 else 1}):=by unfold Js.value;rw[if_pos hk,if_neg hd]
 rw[hv];obtain⟨kind,text,neg,jM⟩:=t;have eA:=ku h;obtain⟨o,c,Fy⟩:=h.maps.shape;obtain⟨n,hn⟩: ∃n:Nat,p.maps.length=n:=⟨_,rfl⟩
 have alv:n≤16:=by have:=hf.maps;have:=hf.depth;omega
 have hA:=h.aI (((I.refl [] w).alloc (.cells #[.int .u8 kind,.string text,.bool neg,.int .u64 jM] 209)));obtain⟨d,hdd⟩: ∃d,p.depth=d:=⟨_,rfl⟩
 have fX:((n:Int)==d)=false:=by rw[beq_eq_false_iff_ne,←hdd,←hn];exact hd
 rw[hn] at Fy;subst Fy;obtain⟨g23,g24,zr,Kk,dD,ys⟩:=fl hA;obtain⟨f24,f25,f26⟩:=kt hA;rw[hdd] at g23;have H:=hid hA;have HT:=hid (show(w.alloc (.cells #[.int .u8 kind,.string text,.bool neg,.int .u64 jM] 209)).cell? ⟨w.heap.size,0,none⟩=some (.int .u8 kind) from(Has.aC w #[.int .u8 kind,.string text,.bool neg,.int .u64 jM] 209 rfl).cell 0);have RF:=hid (fun i hi=>(World.ownsRow.lt h.maps i hi).2: ∀i,(Value.slice o n c).ownBlock=some i→i<w.heap.size);have HN:=hid hn;clear h hv hn hd hA hdd hf;simp only at hk;simp only[ew,ej.cells];rcases hk with rfl|rfl;all_goals
  go_enter func120,ntmps120;go_wp2_with fail
  go_region;all_goals
   go_wp2_with fail
   have HX:=hid (H.out.aI (I.refl [] _).drew);have BE:b<w.heap.size+1:=by simpa using dD
   have fT:b<w.heap.size+1+1:=by omega
   go_region_law (rw[if_pos (by rfl)];refine wI _ _ rfl base (.slice o n c) p.maps rfl (ab HX.out.maps (((I.refl [] _).drew).alloc _) (by simp)) ⟨_,0,none⟩ _ rfl (P3 _ (by simp)) (by have:=HN.out;omega) (by simp;omega) ?_;intro v9 w9 kR xu Si;obtain⟨o9,c9,Zj⟩:=kR.shape;have hl9:=HX.out.lex.keeps ((((I.refl _ _).drew).alloc _).trans xu) HX.out.apart;have h9:=dr.Jg HX.out ((((I.refl _ _).drew).alloc _).trans xu) kR (fun i hi=>(aa.1 hi |> fun hi=>Si.elim (fun h1=>inl (aa.2 (h1▸hi))) (fun h1=>inr (by rw[h1] at hi;injection hi with hi;rw[←hi];simp))));obtain⟨g23,g24,zr,Kk,alw,f24,f25,f26⟩:=D3 hl9;have HB9:=hid (show∀i,i∈ae v9→i∈ae (.slice o n c)∨w.heap.size≤i from fun i hi=>Si.elim (fun h1=>inl (aa.2 (h1▸aa.1 hi))) (fun h1=>inr (by have hi:=aa.1 hi;rw[h1] at hi;injection hi with hi;rw[←hi];first|(simp;done)|(simp;omega))));have H9:=hid h9;have HK9:=hid xu;subst Zj;clear h9 hl9 kR xu Si)
   all_goals
    have BH:I (ae (.slice o n c)) (w.alloc (.cells #[.int .u8 _,.string text,.bool neg,.int .u64 jM] 209)) w9:=(((I.refl _ _).alloc _).drew.drew).trans HK9.out;have gt9:=BH.cell HT.out (fun hm=>Nat.lt_irrefl _ (RF.out _ (aa.1 hm)));go_wp2_with fail
    go_ret2;have Vp:=(((I.refl (F++ae (.slice o n c)) w).alloc (.cells #[.int .u8 _,.string text,.bool neg,.int .u64 jM] 209)).trans (BH.mono (fun i hi=>List.mem_append_right _ hi)))
    first
     |exact⟨rfl,_,F,H9.out.iS 1,(Vp.setCell (inl eA) _).setCell (inl eA) _,mem_left HB9.out⟩
     |exact⟨rfl,_,F,(H9.out.iS 1).iS 2,((Vp.setCell (inl eA) _).setCell (inl eA) _).setCell (inl eA) _,mem_left HB9.out⟩
end Go.Proofs.YthffblhdjjbkaaaGreat
