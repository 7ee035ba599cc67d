/- strconv.FormatUint at base 10, decimal.Print; jsonout.plain at the parts that are met; jsonout.Writer.Step where it succeeds; Whichever writer; What a pipe writes with; pipe.Pipe.write where all goes -/
import Derived.Test.YthffblhdjjbkaaaGreatM38
import Derived.Test.YthffblhdjjbkaaaGreatM36
import Derived.Test.YthffblhdjjbkaaaGreatM35
import Derived.Test.YthffblhdjjbkaaaGreatM29
import Derived.Lib.ItoaMem
set_option maxHeartbeats 100000000
set_option maxRecDepth 1000000
open Go.Lib (hid)
open Go.Proofs.Tryz
open Or (inl inr)
namespace Go.Proofs.YthffblhdjjbkaaaGreat
open Go.RowKit Go.Tru Go.Sort Go.Lib
theorem Hg (w:World) (k:Nat) (os:Array Obj):I [] w (grow (w.drewN k) os):=
 ⟨rfl,rfl,rfl,by simp,fun i hi _=>by
  show(w.heap++os)[i]? =w.heap[i]?
  rw[Array.getElem?_append_left hi]⟩
theorem Pz (w:World) (o:Obj) (dk:Array UInt8) (k:Nat): ∃os,(putRow (fun(b:UInt8)=>Value.int .u8 (b.toNat:Int)) (w.alloc o) w.heap.size 0 dk).drewN k=grow (w.drewN k) os:=by rw[alloc_eq_grow];obtain⟨os',_,e⟩:=putRow_grow_new (fun(b:UInt8)=>Value.int .u8 (b.toNat:Int)) w #[o] w.heap.size 0 dk (Nat.le_refl _);exact⟨os',by rw[e];rfl⟩
theorem DB (w:World) (T:TypeId) (nd:Nat) (hs:nd≤24):Holds (fun(b:UInt8)=>Value.int .u8 (b.toNat:Int)) (w.alloc (.cells zeros24 T)) w.heap.size 0 (Array.replicate nd (0:UInt8)):=fun j hj=>by
 have hj':j<nd:=by simpa using hj
 refine⟨?_,World.frozen?_alloc_new _ _ _ _⟩
 rw[World.cell?_alloc_new,zeros24_at _ (by omega),getElem!_pos _ j hj]
 simp
theorem PA (t:bq) (u:Nat) (hu:u<4294967296) (w:World) (h:dt t w):Calls prog 220 #[.int .u64 u] w fun e w'=>e= .returned (.int .i64 (t.nd u))∧w'=w:=by
 have hq9:=yT hu;have hL:Lib.bitLen u≤64:=Nat.le_trans (Lib.bitLen_le u 32 (by omega) hu) (by omega);have nW:=h.pow (Lib.l10 (Lib.bitLen u)) (by omega);have pe:((u:Int)).toNat=u:=by omega
 obtain⟨N,hN⟩: ∃N,t.nd u=N:=⟨_,rfl⟩
 rw[hN];unfold bq.nd at hN;generalize hq:Lib.l10 (Lib.bitLen u)=q at hq9 nW hN;generalize hT:t.pow q=T at nW hN;have h20:q<20:=by omega
 have HN:=hid hN;clear hN h hT;go_enter func220,ntmps220;go_wp2_with (first
  |(go_at_call 224;refine(Tryz.bits_Len64 _ _ (by omega) (by omega)).mono ?_;rintro e w' ⟨rfl,rfl⟩)
  |(go_at_call 223;refine(Tryz.internal_strconv_log10Pow2 _ (by first|exact hL|(rw[pe];exact hL)) _).mono ?_;rintro e w' ⟨rfl,rfl⟩)
  |(go_at_call 225;refine(Tryz.internal_strconv_bool2_int _ _).mono ?_;rintro e w' ⟨rfl,rfl⟩))
 all_goals go_ret
 all_goals (refine⟨?_,rfl⟩;rw[←HN.out];first|rfl|(congr 2;split<;>simp_all<;>omega)|(congr 2;simp_all;omega))
theorem PB (t:bq) (u:Nat) (hu:u<4294967296) (w:World) (h:dt t w):Calls prog 214 #[.int .u64 u,.int .i64 10] w fun e w'=>e= .returned (.string (bytesOf (t.uint u)))∧I [] w w':=by
 by_cases hs:u<100
 ·have dD:(u:Int)<100:=by omega
  have zG:IntKind.i64.wrap (u:Int)=u:=by rw[IntKind.wrap_i64];omega
  have hR:=hid (show t.uint u=Lib.decDigits u by unfold bq.uint;rw[if_pos hs]);go_enter func214,ntmps214;go_wp2_with (go_at_call 219;refine(Tryz.internal_strconv_small u hs _).mono ?_;rintro e w' ⟨rfl,rfl⟩)
  go_ret;rw[hR.out];exact⟨rfl,I.refl _ _⟩
 ·have akQ: ¬ (u:Int)<100:=by omega
  have ad2:=t.Dx hu;have hR:=hid (show t.uint u=(z8 (t.nd u) u (Array.replicate (t.nd u) 0)).toList by unfold bq.uint;rw[if_neg hs]);have Ah:=hid (fun W hW=>PA t u hu W hW);obtain⟨n,hn⟩: ∃n,t.nd u=n:=⟨_,rfl⟩
  rw[hn] at ad2 hR Ah;clear hn;have Nh:n≤24:=by omega
  have Lg:Tryz.prog.arrayLen 282=24:=by kernel_rfl
  have akR: ∀W,(Instr.sliceAt 282 (.pointer (some ⟨w.heap.size,0,none⟩)) none (some (.int .i64 (n:Int))) none).run prog W= .ok (.slice (some ⟨w.heap.size,0,none⟩) n 24) W:=fun W=>by rw[run_sliceAt_array_h W 282 ⟨w.heap.size,0,none⟩ (by kernel_rfl) .i64 (n:Int) (by omega) (by rw[Lg];omega)];rw[Lg,show Tryz.prog.elem 282=5 by kernel_rfl];go_simp;try (simp[slicedAt])
  have WL:=DB w 282 n (by omega);have WT:Calls prog 221 #[.slice (some ⟨w.heap.size,0,none⟩) (Array.replicate n (0:UInt8)).size 24,.int .u64 u] (w.alloc (.cells Lib.zeros24 282)) _:=Pk Tryz.RW w.heap.size 0 24 u (Array.replicate n 0) (w.alloc (.cells Lib.zeros24 282)) WL hu (by rw[Array.size_replicate];omega);have hT0:=hid (h.keeps ((I.refl [] w).alloc (.cells Lib.zeros24 282)) (by simp));rw[Array.size_replicate] at WT;have HH0:=hid WL;have HFM:=hid WT;clear WL Lg h WT;go_enter func214,ntmps214;go_wp2_with (go_at_call 220;refine(Ah.out _ hT0.out).mono ?_;rintro e w' ⟨rfl,rfl⟩)
  go_at_call 221;refine HFM.out.mono ?_;rintro e w' ⟨rfl,k,v',dk,rfl,hF⟩;have Rj:z8 n u (Array.replicate n 0)=dk:=by have:=hF.same;rw[Array.size_replicate] at this;exact this.symm
  have ZT:dk.size=n:=by rw[←Rj,sr,Array.size_replicate]
  have tQ:(convert 63 9 (.slice (some ⟨w.heap.size,0,none⟩) n 24)).run prog ((putRow (fun(b:UInt8)=>Value.int .u8 (b.toNat:Int)) (w.alloc (.cells Lib.zeros24 282)) w.heap.size 0 dk).drewN k)= .ok (.string ⟨dk.toList.toArray⟩) ((putRow (fun(b:UInt8)=>Value.int .u8 (b.toNat:Int)) (w.alloc (.cells Lib.zeros24 282)) w.heap.size 0 dk).drewN k):=by
   have h:=run_convert_bytes_back (P:=prog) ((putRow (fun(b:UInt8)=>Value.int .u8 (b.toNat:Int)) (w.alloc (.cells Lib.zeros24 282)) w.heap.size 0 dk).drewN k) 63 9 5 ⟨w.heap.size,0,none⟩ 24 dk.toList underlying63 underlying5 underlying9 (fun j hj=>by
    have hj':j<dk.size:=by simpa using hj
    rw[Lib.add_plain,World.cell?_drewN];have hc:=cell?_putRow (fun(b:UInt8)=>Value.int .u8 (b.toNat:Int)) _ w.heap.size 0 _ dk HH0.out (by rw[ZT,Array.size_replicate]) j hj';rw[getElem!_pos dk j hj'] at hc;simpa using hc)
   rw[Array.length_toList,ZT] at h;exact h
  go_wp2;go_ret;obtain⟨os,eo⟩:=Pz w (.cells Lib.zeros24 282) dk k;refine⟨?_,by rw[eo];exact Hg _ _ _⟩;rw[hR.out,Rj];rfl
theorem DC (t:bq) (u:Nat) (hu:u<4294967296) (w:World) (h:dt t w):Calls prog 210 #[.int .u64 u,.int .i64 10] w fun e w'=>e= .returned (.string (bytesOf (t.uint u)))∧I [] w w':=by
 go_enter func210,ntmps210;go_wp2_with (go_at_call 214;refine(PB t u hu _ h).mono ?_;rintro e w' ⟨rfl,k1⟩)
 go_ret;exact⟨rfl,k1⟩
theorem Hh (t:bq) (neg:Bool) (m:Nat) (hm:m<4294967295) (w:World) (h:dt t w):Calls prog 207 #[.agg #[.bool neg,.int .u64 m]] w fun e w'=>e= .returned (.string (bytesOf (t.num neg m)))∧I [] w w':=by
 have hT:=hid (fun(o:Obj)=>h.keeps ((I.refl [] w).alloc o) (by simp));cases neg with
 |false=>
  have lH:=hid (fun W h=>DC t m (by omega) W h);have hR:=hid (show t.num false (m:Int)=t.uint m by unfold bq.num;rw[if_pos (by omega)];rfl);clear h;go_enter func207,ntmps207;go_wp2_with (go_at_call 210;refine(lH.out _ (hT.out _)).mono ?_;rintro e w' ⟨rfl,k1⟩;have K1:=hid k1;clear k1)
  go_ret;rw[hR.out];exact⟨rfl,((I.refl _ _).alloc _).trans K1.out⟩
 |true=>
  have fX:((m:Int)==18446744073709551615)=false:=by rw[beq_eq_false_iff_ne];omega
  have zG:IntKind.u64.wrap ((m:Int)+1)=((m+1:Nat):Int):=by rw[IntKind.wrap_u64];omega
  have lH:=hid (fun W h=>DC t (m+1) (by omega) W h);have hl:=t.wk (u:=m+1) (by omega);obtain⟨S2,iL⟩: ∃S,bytesOf (t.uint (m+1))=S:=⟨_,rfl⟩
  rw[iL] at lH;have lx:S2.size≤20:=by rw[←iL,an];exact hl
  have gq: ¬281474976710656<1+S2.size:=by omega
  have hR:=hid (show bytesOf (t.num true (m:Int))=bytesOf [45]++S2 by unfold bq.num;rw[if_pos (by omega),←iL,aZ];rfl)
  clear hl hm h iL;go_enter func207,ntmps207;go_wp2_with (go_at_call 210;refine(lH.out _ (hT.out _)).mono ?_;rintro e w' ⟨rfl,k1⟩;have K1:=hid k1;clear k1)
  go_ret;refine⟨?_,((I.refl _ _).alloc _).trans K1.out⟩;rw[hR.out];rfl
end Go.Proofs.YthffblhdjjbkaaaGreat
namespace Go.Proofs.YthffblhdjjbkaaaGreat
open Go.RowKit Go.Tru
theorem Ai (t:bq) (w:World):Calls prog 206 #[ar.part] w (fun e w'=>e= .returned (.string (bytesOf (dM t.pr ar)))∧I [] w w'):=by
 rw[fU];have hR:=hid (show bytesOf (dM t.pr ar)=⟨#[110,117,108,108]⟩ from rfl);go_enter func206,ntmps206;go_wp2_with fail
 go_ret;rw[hR.out];exact⟨rfl,(I.refl _ _).alloc _⟩
theorem Aj (t:bq) (y:Bool) (w:World):Calls prog 206 #[(aq y).part] w (fun e w'=>e= .returned (.string (bytesOf (dM t.pr (aq y))))∧I [] w w'):=by
 rw[ft];cases y with
 |true=>
  have hR:=hid (show bytesOf (dM t.pr (aq true))=⟨#[116,114,117,101]⟩ from rfl);go_enter func206,ntmps206;go_wp2_with fail
  go_ret;rw[hR.out];exact⟨rfl,I.refl _ _⟩
 |false=>
  have hR:=hid (show bytesOf (dM t.pr (aq false))=⟨#[102,97,108,115,101]⟩ from rfl);go_enter func206,ntmps206;go_wp2_with fail
  go_ret;rw[hR.out];exact⟨rfl,I.refl _ _⟩
theorem DD (t:bq) (y:Bool) (m:Nat) (hm:m<2147483648) (w:World) (h:dt t w):Calls prog 206 #[(ay y m).part] w (fun e w'=>e= .returned (.string (bytesOf (dM t.pr (ay y m))))∧I [] w w'):=by
 rw[fq];have hR:=hid (show dM t.pr (ay y m)=t.num y m from rfl);have HP:=hid (fun W hW=>Hh t y m (by omega) W hW);have HT:=hid (fun(o:Obj)=>h.keeps ((I.refl [] w).alloc o) (by simp));clear h hm;go_enter func206,ntmps206;go_wp2_with fail
 refine(HP.out _ (HT.out _)).mono ?_;rintro e w1 ⟨rfl,k1⟩;have K1:=hid (((I.refl [] w).alloc (.cells #[.bool y,.int .u64 m] 96)).trans k1);clear k1;go_wp2_with fail
 go_ret;rw[hR.out];exact⟨rfl,K1.out⟩
theorem Ak (t:bq) (s:ByteArray) (hu:eh s.size s.data.toList=true) (lx:s.size<32) (w:World) (h:dt t w):Calls prog 206 #[(ah s).part] w (fun e w'=>e= .returned (.string (bytesOf (dM t.pr (ah s))))∧I [] w w'):=by
 rw[fr];have HP:=hid (fun W hW=>Py t s hu (by omega) W hW);have HT:=hid (fun(o:Obj)=>h.keeps ((I.refl [] w).alloc o) (by simp));obtain⟨S2,iL⟩: ∃S,bytesOf (t.RC s.data.toList)=S:=⟨_,rfl⟩
 rw[iL] at HP;have hl:=t.mI s.data.toList.length s.data.toList;have hz:S2.size≤200:=by
  rw[←iL,an];have e:s.data.toList.length=s.size:=by rw[Array.length_toList];rfl
  show(t.ek s.data.toList.length s.data.toList).length≤200;omega
 have gq: ¬281474976710656<1+S2.size:=by omega
 have fD: ¬281474976710656<1+S2.size+1:=by omega
 have hR:=hid (show bytesOf (dM t.pr (ah s))=bytesOf [34]++S2++bytesOf [34] by rw[←iL,aZ,aZ];rfl)
 clear h hu lx hl hz iL;go_enter func206,ntmps206;go_wp2_with fail
 refine(HP.out _ (HT.out _)).mono ?_;rintro e w1 ⟨rfl,k1⟩;have K1:=hid (((I.refl [] w).alloc (.cells #[.bool false,.int .u64 0] 96)).trans k1);clear k1;go_wp2_with fail
 go_ret;rw[hR.out];exact⟨rfl,K1.out⟩
theorem Au {w:World} {base b:Nat} {ov:Value} {st:Wr} (h:cV w base b ov st) (hb:br<b) (ak:br<base): ∀i∈b::ae ov,br<i:=by
 intro i hi;rcases List.mem_cons.1 hi with rfl|hi
 ·exact hb
 ·exact Nat.lt_of_lt_of_le ak (World.ownsRow.lt h.bu i (aa.1 hi)).1
theorem kJ {n q:Int}:jQ ⟨false,n,q⟩=if 0<q then [44] else []:=by simp[jQ,af.aj]
theorem kK {n q:Int} (h:af.aj ⟨true,n,q⟩=true):jQ ⟨true,n,q⟩= [58]:=by simp[jQ,h]
theorem Lz {n q:Int} (h:af.aj ⟨true,n,q⟩=false):jQ ⟨true,n,q⟩=if 0<q then [44] else []:=by simp[jQ,h]
theorem Av (t:bq) {w:World} {base b:Nat} {ov:Value} {st:Wr} (_:dt t w) (lr:br<b) (jf:br<base) (dT:(bF t.pr st ar).2.1=0) (ir: ∀c r,st.open_=c::r→r.length≤1000∧0≤c.count∧(0≤c.parts∧c.parts≤1000000)) (h:cV w base b ov st):Calls prog 203 #[.pointer (some ⟨b,0,none⟩),ar.part] w (cX w base b ov (bF t.pr st ar).1 (bF t.pr st ar).2.2):=by
 have PC:=Au h lr jf;have hd:=lW dT;have hlen:(dM t.pr ar).length≤100000:=by
  have h1:=j4 t.ou ar;have h2:=show aY.size≤1000 by decide
  have h3:ar.text.size≤1000:=h2;omega
 have eI: ∀W,I (b::ae ov) w W→Calls prog 206 #[ar.part] W (fun e w'=>e= .returned (.string (bytesOf (dM t.pr ar)))∧I [] W w'):=fun W k=>Ai t W;obtain⟨o,d⟩:=st;simp only at hd;subst hd;cases o with
 |nil=>rw[qV (by simp[ar]) (by simp[ar])];exact DJ hlen eI h
 |cons c r=>
  obtain⟨hr,nN,hq⟩:=ir c r rfl;obtain⟨hk,he⟩:=qW (by simp[ar]) (by simp[ar]) dT;rw[he];obtain⟨m2,n,q⟩:=c;have Wx:0≤q:=hq.1;cases m2 with
  |false=>
   rw[kJ];by_cases eQ:0<q
   ·rw[if_pos eQ];exact Ao hlen eI hq hr eQ h
   ·rw[if_neg eQ];exact Al hlen eI hq hr (show q=0 by omega) h
  |true=>
   cases hb:af.aj ⟨true,n,q⟩ with
   |true=>rw[kK hb];exact DG hlen eI hq hr hb h
   |false=>exact absurd (hk rfl hb) (by simp[ar])
theorem Aw (t:bq) (y:Bool) {w:World} {base b:Nat} {ov:Value} {st:Wr} (_:dt t w) (lr:br<b) (jf:br<base) (dT:(bF t.pr st (aq y)).2.1=0) (ir: ∀c r,st.open_=c::r→r.length≤1000∧0≤c.count∧(0≤c.parts∧c.parts≤1000000)) (h:cV w base b ov st):Calls prog 203 #[.pointer (some ⟨b,0,none⟩),(aq y).part] w (cX w base b ov (bF t.pr st (aq y)).1 (bF t.pr st (aq y)).2.2):=by
 have PC:=Au h lr jf;have hd:=lW dT;have hlen:(dM t.pr (aq y)).length≤100000:=by
  have h1:=j4 t.ou (aq y);have h2:=show aY.size≤1000 by decide
  have h3:(aq y).text.size≤1000:=h2;omega
 have eI: ∀W,I (b::ae ov) w W→Calls prog 206 #[(aq y).part] W (fun e w'=>e= .returned (.string (bytesOf (dM t.pr (aq y))))∧I [] W w'):=fun W k=>Aj t y W;obtain⟨o,d⟩:=st;simp only at hd;subst hd;cases o with
 |nil=>rw[qV (by simp[aq]) (by simp[aq])];exact DK y hlen eI h
 |cons c r=>
  obtain⟨hr,nN,hq⟩:=ir c r rfl;obtain⟨hk,he⟩:=qW (by simp[aq]) (by simp[aq]) dT;rw[he];obtain⟨m2,n,q⟩:=c;have Wx:0≤q:=hq.1;cases m2 with
  |false=>
   rw[kJ];by_cases eQ:0<q
   ·rw[if_pos eQ];exact Ap y hlen eI hq hr eQ h
   ·rw[if_neg eQ];exact Am y hlen eI hq hr (show q=0 by omega) h
  |true=>
   cases hb:af.aj ⟨true,n,q⟩ with
   |true=>rw[kK hb];exact DH y hlen eI hq hr hb h
   |false=>exact absurd (hk rfl hb) (by simp[aq])
theorem DM (t:bq) (y:Bool) (m:Nat) (hm:m<2147483648) {w:World} {base b:Nat} {ov:Value} {st:Wr} (hT:dt t w) (lr:br<b) (jf:br<base) (dT:(bF t.pr st (ay y m)).2.1=0) (ir: ∀c r,st.open_=c::r→r.length≤1000∧0≤c.count∧(0≤c.parts∧c.parts≤1000000)) (h:cV w base b ov st):Calls prog 203 #[.pointer (some ⟨b,0,none⟩),(ay y m).part] w (cX w base b ov (bF t.pr st (ay y m)).1 (bF t.pr st (ay y m)).2.2):=by
 have PC:=Au h lr jf;have hd:=lW dT;have hlen:(dM t.pr (ay y m)).length≤100000:=by
  have h1:=j4 t.ou (ay y m);have h2:=show aY.size≤1000 by decide
  have h3:(ay y m).text.size≤1000:=h2;omega
 have eI: ∀W,I (b::ae ov) w W→Calls prog 206 #[(ay y m).part] W (fun e w'=>e= .returned (.string (bytesOf (dM t.pr (ay y m))))∧I [] W w'):=fun W k=>DD t y m hm W (hT.keeps k PC);obtain⟨o,d⟩:=st;simp only at hd;subst hd;cases o with
 |nil=>rw[qV (by simp[ay]) (by simp[ay])];exact Hj y m hlen eI h
 |cons c r=>
  obtain⟨hr,nN,hq⟩:=ir c r rfl;obtain⟨hk,he⟩:=qW (by simp[ay]) (by simp[ay]) dT;rw[he];obtain⟨m2,n,q⟩:=c;have Wx:0≤q:=hq.1;cases m2 with
  |false=>
   rw[kJ];by_cases eQ:0<q
   ·rw[if_pos eQ];exact DF y m hlen eI hq hr eQ h
   ·rw[if_neg eQ];exact DE y m hlen eI hq hr (show q=0 by omega) h
  |true=>
   cases hb:af.aj ⟨true,n,q⟩ with
   |true=>rw[kK hb];exact Hi y m hlen eI hq hr hb h
   |false=>exact absurd (hk rfl hb) (by simp[ay])
theorem Ax (t:bq) (s:ByteArray) (hs:s.size<32) (hu:eh s.size s.data.toList=true) {w:World} {base b:Nat} {ov:Value} {st:Wr} (hT:dt t w) (lr:br<b) (jf:br<base) (dT:(bF t.pr st (ah s)).2.1=0) (ir: ∀c r,st.open_=c::r→r.length≤1000∧0≤c.count∧(0≤c.parts∧c.parts≤1000000)) (h:cV w base b ov st):Calls prog 203 #[.pointer (some ⟨b,0,none⟩),(ah s).part] w (cX w base b ov (bF t.pr st (ah s)).1 (bF t.pr st (ah s)).2.2):=by
 have PC:=Au h lr jf;have hd:=lW dT;have hlen:(dM t.pr (ah s)).length≤100000:=by
  have h1:=j4 t.ou (ah s);have h2:=show s.size≤1000 by omega
  have h3:(ah s).text.size≤1000:=h2;omega
 have eI: ∀W,I (b::ae ov) w W→Calls prog 206 #[(ah s).part] W (fun e w'=>e= .returned (.string (bytesOf (dM t.pr (ah s))))∧I [] W w'):=fun W k=>Ak t s hu hs W (hT.keeps k PC);obtain⟨o,d⟩:=st;simp only at hd;subst hd;cases o with
 |nil=>rw[qV (by simp[ah]) (by simp[ah])];exact DL s hlen eI h
 |cons c r=>
  obtain⟨hr,nN,hq⟩:=ir c r rfl;obtain⟨hk,he⟩:=qW (by simp[ah]) (by simp[ah]) dT;rw[he];obtain⟨m2,n,q⟩:=c;have Wx:0≤q:=hq.1;cases m2 with
  |false=>
   rw[kJ];by_cases eQ:0<q
   ·rw[if_pos eQ];exact Aq s hlen eI hq hr eQ h
   ·rw[if_neg eQ];exact An s hlen eI hq hr (show q=0 by omega) h
  |true=>
   cases hb:af.aj ⟨true,n,q⟩ with
   |true=>rw[kK hb];exact DI s hlen eI hq hr hb h
   |false=>
    rw[Lz hb];by_cases eQ:0<q
    ·rw[if_pos eQ];exact As s hlen eI hq hr hb eQ h
    ·rw[if_neg eQ];exact Ar s hlen eI hq hr hb (show q=0 by omega) h
theorem Ay (t:bq) (n2:Nat) (hn:n2<16) {w:World} {base b:Nat} {ov:Value} {st:Wr} (dT:(bF t.pr st (aN n2)).2.1=0) (ir: ∀c r,st.open_=c::r→r.length≤1000∧0≤c.count∧(0≤c.parts∧c.parts≤1000000)) (h:cV w base b ov st) (ak:base≤w.heap.size):Calls prog 203 #[.pointer (some ⟨b,0,none⟩),(aN n2).part] w (cX w base b ov (bF t.pr st (aN n2)).1 (bF t.pr st (aN n2)).2.2):=by
 have hd:=lW dT;obtain⟨o,d⟩:=st;simp only at hd;subst hd;have hp:(aN n2)=aX false n2:=rfl;cases o with
 |nil=>rw[CY hp];exact ud n2 hn h ak
 |cons c r=>
  obtain⟨hr,nN,hq⟩:=ir c r rfl;obtain⟨hk,he⟩:=CZ hp dT;rw[he];obtain⟨m2,n,q⟩:=c;have Wx:0≤q:=hq.1;cases m2 with
  |false=>
   rw[kJ];by_cases eQ:0<q
   ·rw[if_pos eQ];exact sA n2 hn hq hr eQ h ak
   ·rw[if_neg eQ];exact sx n2 hn hq hr (show q=0 by omega) h ak
  |true=>rw[kK (hk rfl)];exact uf n2 hn hq hr (hk rfl) h ak
theorem Az (t:bq) (n2:Nat) (hn:n2<16) {w:World} {base b:Nat} {ov:Value} {st:Wr} (dT:(bF t.pr st (aO n2)).2.1=0) (ir: ∀c r,st.open_=c::r→r.length≤1000∧0≤c.count∧(0≤c.parts∧c.parts≤1000000)) (h:cV w base b ov st) (ak:base≤w.heap.size):Calls prog 203 #[.pointer (some ⟨b,0,none⟩),(aO n2).part] w (cX w base b ov (bF t.pr st (aO n2)).1 (bF t.pr st (aO n2)).2.2):=by
 have hd:=lW dT;obtain⟨o,d⟩:=st;simp only at hd;subst hd;have hp:(aO n2)=aX true n2:=rfl;cases o with
 |nil=>rw[CY hp];exact ue n2 hn h ak
 |cons c r=>
  obtain⟨hr,nN,hq⟩:=ir c r rfl;obtain⟨hk,he⟩:=CZ hp dT;rw[he];obtain⟨m2,n,q⟩:=c;have Wx:0≤q:=hq.1;cases m2 with
  |false=>
   rw[kJ];by_cases eQ:0<q
   ·rw[if_pos eQ];exact sC n2 hn hq hr eQ h ak
   ·rw[if_neg eQ];exact sy n2 hn hq hr (show q=0 by omega) h ak
  |true=>rw[kK (hk rfl)];exact ug n2 hn hq hr (hk rfl) h ak
theorem Hk (t:bq) {v:Ev} (hv:CM v=true) {w:World} {base b:Nat} {ov:Value} {st:Wr} (hT:dt t w) (lr:br<b) (jf:br<base) (dT:(bF t.pr st v).2.1=0) (ir: ∀c r,st.open_=c::r→r.length≤1000∧0≤c.count∧(0≤c.parts∧c.parts≤1000000)) (h:cV w base b ov st) (ak:base≤w.heap.size):Calls prog 203 #[.pointer (some ⟨b,0,none⟩),v.part] w (cX w base b ov (bF t.pr st v).1 (bF t.pr st v).2.2):=by
 rcases sk hv with rfl|⟨y,rfl⟩|⟨y,m,hm,rfl⟩|⟨s,hs,hu,rfl⟩|⟨n,hn,rfl⟩|⟨n,hn,rfl⟩|rfl
 ·exact Av t hT lr jf dT ir h
 ·exact Aw t y hT lr jf dT ir h
 ·exact DM t y m hm hT lr jf dT ir h
 ·exact Ax t s hs hu hT lr jf dT ir h
 ·exact Ay t n hn dT ir h ak
 ·exact Az t n hn dT ir h ak
 ·have hd:=lW dT;obtain⟨c,r,ho,hf,he⟩:=Tc dT;obtain⟨hr,nN,hq⟩:=ir c r ho;rw[he hd];obtain⟨o,d⟩:=st;simp only at hd ho;subst hd ho;obtain⟨m2,n,q⟩:=c;exact WU m2 hq hr hf h
def mg (w:World) (base b:Nat) (ov:Value):Out→Prop
 | .js st=>cV w base b ov st
 | .cb st=>eR w base b ov st
 | .pk st=>ff w base b ov st
def mJ:Out→Nat
 | .js _=>203
 | .cb _=>231
 | .pk _=>238
def o5:Out→TypeId
 | .js _=>159
 | .cb _=>163
 | .pk _=>167
theorem mg.keeps {F:List Nat} {w w':World} {base b:Nat} {ov:Value} {o:Out} (h:mg w base b ov o) (k:I F w w') (hb:b∉F) (ho: ∀i∈ae ov,i∉F):mg w' base b ov o:=by
 cases o with
 |js st=>exact cV.keeps h k hb ho
 |cb st=>exact jd.keeps h k hb ho
 |pk st=>exact jd.keeps h k hb ho
theorem mg.lt {w:World} {base b:Nat} {ov:Value} {o:Out} (h:mg w base b ov o):b<w.heap.size∧b∉ae ov∧∀i∈ae ov,base≤i∧i<w.heap.size:=by
 cases o with
 |js st=>exact⟨h.az.lt,h.bo,fun i hi=>World.ownsRow.lt h.bu i (aa.1 hi)⟩
 |cb st=>exact⟨h.az.lt,h.bo,fun i hi=>World.ownsRow.lt h.bu i (aa.1 hi)⟩
 |pk st=>exact⟨h.az.lt,h.bo,fun i hi=>World.ownsRow.lt h.bu i (aa.1 hi)⟩
def ox (w:World) (base b:Nat) (ov:Value) (t:List UInt8×Int×Out) (r:Ending) (w':World):Prop:=
 r= .returned (.tuple #[.string (bytesOf t.1),.int .i64 0])∧∃oW,mg w' base b oW t.2.2∧I (b::ae ov) w w'∧∀i∈ae oW,i∈ae ov∨w.heap.size≤i
theorem oN (t:bq) {v:Ev} (hv:CM v=true) {o:Out} (dT:(o.step t.pr v).2.1=0) (ir:o.small=true) {w:World} {base b:Nat} {ov:Value} (hT:dt t w) (lr:br<b) (jf:br<base) (h:mg w base b ov o) (ak:base≤w.heap.size):Calls prog (mJ o) #[.pointer (some ⟨b,0,none⟩),v.part] w (ox w base b ov (o.step t.pr v)):=by
 cases o with
 |js st=>exact Hk t hv hT lr jf dT (fun c r ho=>sq ir (d:=st.done) (by show st=_;rw[←ho])) h ak
 |cb st=>exact GV hv dT (fun c r ho=>sq ir (d:=st.done) (by show st=_;rw[←ho])) h ak
 |pk st=>exact GQ hv dT (fun c r ho=>sq ir (d:=st.done) (by show st=_;rw[←ho])) h ak
def ic (w:World) (i:Nat):Option TypeId:=
 match w.heap[i]? with
 |some (.cells _ t _)=>some t
 |_=>none
theorem iU {w:World} {b:Nat} {cs:List Value} {T:TypeId} (h:Has w b cs T):ic w b=some T:=by unfold ic;rw[show w.heap[b]? =_ from h]
theorem ng {w:World} {base:Nat} {e:TypeId} {z:Nat} {v:Value} {n:Nat} {xs:List Value} (h:w.ownsRow base e z v n xs): ∀i∈ae v,ic w i=some e:=by
 intro i hi;rw[aa] at hi;rcases h.2 with⟨rfl,-⟩|⟨g,cap,cur,rfl,-,hg,-⟩
 ·cases hi
 ·simp only[Value.ownBlock,Option.some.injEq] at hi;subst hi;unfold ic;rw[hg]
theorem PK {F:List Nat} {w w':World} (k:I F w w') {i:Nat} {T:TypeId} (h:ic w i=some T) (hF:i∉F):ic w' i=some T:=by
 unfold ic at h⊢;cases hi:w.heap[i]? with
 |none=>rw[hi] at h;cases h
 |some o=>rw[hi] at h;rw[k.heap hi hF];exact h
structure jh (w:World) (o:Option Addr) (n c:Nat) (ps:List Ev):Prop where
 h:kV w o n c ps
 ty: ∀b off,o=some ⟨b,off,none⟩→b<w.heap.size∧ic w b=some 20
theorem jh.keeps {F:List Nat} {w w':World} {o:Option Addr} {n c:Nat} {ps:List Ev} (h:jh w o n c ps) (k:I F w w') (hF: ∀b off,o=some ⟨b,off,none⟩→b∉F):jh w' o n c ps:=⟨⟨h.h.len,h.h.room,h.h.nV,h.h.at_.imp id fun⟨b,off,h1,h2,h3⟩=>⟨b,off,h1,Nat.lt_of_lt_of_le h2 k.size,fun i p hp=>k.cell (h3 i p hp) (hF b off h1)⟩⟩,fun b off e=>⟨Nat.lt_of_lt_of_le (h.ty b off e).1 k.size,PK k (h.ty b off e).2 (hF b off e)⟩⟩
theorem jh.p8 {F:List Nat} {w w':World} {o:Option Addr} {n c:Nat} {ps:List Ev} (h:jh w o n c ps) (k:I F w w') (hF: ∀i∈F,ic w i≠some 20):jh w' o n c ps:=h.keeps k (fun b off e hm=>hF b hm (h.ty b off e).2)
theorem lX {w:World} {B:Nat} {v:Value} {ps:List Ev} (h:aP w B v ps): ∃o c,v= .slice o ps.length c∧jh w o ps.length c ps∧∀b off,o=some ⟨b,off,none⟩→b∈ae v:=by
 obtain⟨o,c,rfl,ha⟩:=vb h;refine⟨o,c,rfl,⟨ha,fun b off e=> ?_⟩,fun b off e=> ?_⟩
 ·subst e;exact⟨(World.ownsRow.lt h b rfl).2,ng h b (aa.2 rfl)⟩
 ·subst e;exact aa.2 rfl
theorem Ty (w:World):jh w none 0 0 []:=⟨kV.nil w,fun b off e=>by cases e⟩
/-! ### the writer's and the stage's blocks -/
def fh (ob:Nat) (ov:Value):List Nat:=ob::ae ov
theorem mg.ty {w:World} {base b:Nat} {ov:Value} {o:Out} (h:mg w base b ov o): ∀i∈fh b ov,ic w i=some 162∨ic w i=some 274∨ic w i=some 166∨ic w i=some 299∨ic w i=some 170∨ic w i=some 301:=by
 intro i hi;cases o with
 |js st=>
  rcases List.mem_cons.1 hi with rfl|hi
  ·exact inl (iU h.az)
  ·exact inr (inl (ng h.bu i hi))
 |cb st=>
  rcases List.mem_cons.1 hi with rfl|hi
  ·exact inr (inr (inl (iU h.az)))
  ·exact inr (inr (inr (inl (ng h.bu i hi))))
 |pk st=>
  rcases List.mem_cons.1 hi with rfl|hi
  ·exact inr (inr (inr (inr (inl (iU h.az)))))
  ·exact inr (inr (inr (inr (inr (ng h.bu i hi)))))
theorem mg.WX {w:World} {base b:Nat} {ov:Value} {o:Out} (h:mg w base b ov o): ∀i∈fh b ov,ic w i≠some 20:=by
 intro i hi e;rcases h.ty i hi with h|h|h|h|h|h;all_goals rw[h] at e;exact absurd e (by decide)
theorem jE (T:Pr) (o:Out) (v:Ev):o5 (o.step T v).2.2=o5 o∧mJ (o.step T v).2.2=mJ o:=by cases o<;>exact⟨rfl,rfl⟩
def jt (w:World) (base sb:Nat) (hv sv:Value):Option St→Prop
 |none=>True
 |some s=>dR w base sb hv sv s∧s.Fit
def tA (sb:Nat):Option St→Value
 |none=> .pointer none
 |some _=> .pointer (some ⟨sb,0,none⟩)
def gP (sb:Nat) (hv sv:Value):Option St→List Nat
 |none=>[]
 |some _=>bM sb hv sv
theorem jt.keeps {F:List Nat} {w w':World} {base sb:Nat} {hv sv:Value} {o:Option St} (h:jt w base sb hv sv o) (k:I F w w') (hF: ∀i∈gP sb hv sv o,i∉F):jt w' base sb hv sv o:=by
 cases o with
 |none=>trivial
 |some s=>exact⟨h.1.keeps k (hF sb ms) (fun i hi=>hF i (List.mem_cons_of_mem _ (List.mem_append_left _ hi))) (fun i hi=>hF i (List.mem_cons_of_mem _ (List.mem_append_right _ hi))),h.2⟩
theorem jt.lt {w:World} {base sb:Nat} {hv sv:Value} {o:Option St} (h:jt w base sb hv sv o): ∀i∈gP sb hv sv o,i<w.heap.size:=by
 intro i hi;cases o with
 |none=>cases hi
 |some s=>
  rcases List.mem_cons.1 hi with rfl|hi
  ·exact h.1.az.lt
  ·rcases List.mem_append.1 hi with hi|hi
   ·exact(World.ownsRow.lt h.1.held i (aa.1 hi)).2
   ·exact(World.ownsRow.lt h.1.bu i (aa.1 hi)).2
theorem jt.ty {w:World} {base sb:Nat} {hv sv:Value} {o:Option St} (h:jt w base sb hv sv o): ∀i∈gP sb hv sv o,ic w i=some 175∨ic w i=some 20∨ic w i=some 221:=by
 intro i hi;cases o with
 |none=>cases hi
 |some s=>
  rcases List.mem_cons.1 hi with rfl|hi
  ·exact inl (iU h.1.az)
  ·rcases List.mem_append.1 hi with hi|hi
   ·exact inr (inl (ng h.1.held i hi))
   ·exact inr (inr (ng h.1.bu i hi))
theorem DP {w:World} {base mD ob sb:Nat} {ov hv sv:Value} {o:Out} {s:Option St} (h:mg w base ob ov o) (k:jt w mD sb hv sv s): ∀i∈gP sb hv sv s,i∉fh ob ov:=by intro i hi hm;have h1:=h.ty i hm;have h2:=k.ty i hi;rcases h2 with h2|h2|h2<;>rw[h2] at h1<;>simp at h1
structure dh (t:bq) (w:World) (base pb ob sb:Nat) (iE ov hv sv:Value) (p:aw):Prop where
 az:Has w pb [iE,.iface (o5 p.out) (.pointer (some ⟨ob,0,none⟩)),tA sb p.hold,.bool p.cK,.int .i64 p.e] 143
 out:mg w base ob ov p.out
 hold:jt w base sb hv sv p.hold
 sO:dt t w
 low:br<base∧base≤pb∧base≤ob∧base≤sb
def cJ (pb ob sb:Nat) (ov hv sv:Value) (h:Option St):List Nat:=pb::(fh ob ov++gP sb hv sv h)
theorem dh.uT {t:bq} {w:World} {base pb ob sb:Nat} {iE ov hv sv:Value} {p:aw} (h:dh t w base pb ob sb iE ov hv sv p):pb∉fh ob ov∧pb∉gP sb hv sv p.hold:=by
 have h0:=iU h.az;constructor
 ·intro hm;have h1:=h.out.ty pb hm;rw[h0] at h1;simp at h1
 ·intro hm;have h1:=h.hold.ty pb hm;rw[h0] at h1;simp at h1
theorem dh.cells {t:bq} {w:World} {base pb ob sb:Nat} {iE ov hv sv:Value} {p:aw} (h:dh t w base pb ob sb iE ov hv sv p):w.cell? ⟨pb,0,none⟩=some iE∧w.cell? ⟨pb,1,none⟩=some (.iface (o5 p.out) (.pointer (some ⟨ob,0,none⟩)))∧w.cell? ⟨pb,2,none⟩=some (tA sb p.hold)∧w.cell? ⟨pb,3,none⟩=some (.bool p.cK)∧w.cell? ⟨pb,4,none⟩=some (.int .i64 p.e)∧pb<w.heap.size∧w.frozen? ⟨pb,4,none⟩=false∧w.frozen? ⟨pb,3,none⟩=false:=⟨h.az.cell 0,h.az.cell 1,h.az.cell 2,h.az.cell 3,h.az.cell 4,h.az.lt,h.az.free 4,h.az.free 3⟩
theorem dh.keeps {t:bq} {F:List Nat} {w w':World} {base pb ob sb:Nat} {iE ov hv sv:Value} {p:aw} (h:dh t w base pb ob sb iE ov hv sv p) (k:I F w w') (hF: ∀i∈cJ pb ob sb ov hv sv p.hold,i∉F) (hT: ∀i∈F,br<i):dh t w' base pb ob sb iE ov hv sv p:=⟨h.az.keeps k (hF pb ms),h.out.keeps k (hF ob (List.mem_cons_of_mem _ (List.mem_append_left _ ms))) (fun i hi=>hF i (List.mem_cons_of_mem _ (List.mem_append_left _ (List.mem_cons_of_mem _ hi)))),h.hold.keeps k (fun i hi=>hF i (List.mem_cons_of_mem _ (List.mem_append_right _ hi))),h.sO.keeps k hT,h.low⟩
theorem dh.aI {t:bq} {w w':World} {base pb ob sb:Nat} {iE ov hv sv:Value} {p:aw} (h:dh t w base pb ob sb iE ov hv sv p) (k:I [] w w'):dh t w' base pb ob sb iE ov hv sv p:=h.keeps k (by simp) (by simp)
theorem dh.far {t:bq} {w:World} {base pb ob sb:Nat} {iE ov hv sv:Value} {p:aw} (h:dh t w base pb ob sb iE ov hv sv p):(∀i∈fh ob ov,base≤i)∧(∀i∈gP sb hv sv p.hold,base≤i):=by
 obtain⟨l0,l1,l2,l3⟩:=h.low;refine⟨fun i hi=> ?_,fun i hi=> ?_⟩
 ·rcases List.mem_cons.1 hi with rfl|hi
  ·exact l2
  ·exact(h.out.lt.2.2 i hi).1
 ·have hh:=h.hold;cases hs:p.hold with
  |none=>rw[hs] at hi;cases hi
  |some s=>
   rw[hs] at hi hh;rcases List.mem_cons.1 hi with rfl|hi
   ·exact l3
   ·rcases List.mem_append.1 hi with hi|hi
    ·exact(World.ownsRow.lt hh.1.held i (aa.1 hi)).1
    ·exact(World.ownsRow.lt hh.1.bu i (aa.1 hi)).1
theorem dh.rf {t:bq} {w w':World} {base pb ob sb:Nat} {iE ov oW hv sv:Value} {p:aw} {v:Ev} (h:dh t w base pb ob sb iE ov hv sv p) (h':mg w' base ob oW (p.out.step t.pr v).2.2) (k:I (fh ob ov) w w'):dh t w' base pb ob sb iE oW hv sv {p with out:=(p.out.step t.pr v).2.2}:=by refine⟨?_,h',h.hold.keeps k (DP h.out h.hold),h.sO.keeps k (fun i hi=>Nat.lt_of_lt_of_le h.low.1 (h.far.1 i hi)),h.low⟩;have:=h.az.keeps k h.uT.1;simp only[(jE t.pr p.out v).1];exact this
theorem dh.DQ {t:bq} {w w':World} {base pb ob sb:Nat} {iE ov hv Pw sv Cy:Value} {p:aw} {s s':St} (h:dh t w base pb ob sb iE ov hv sv p) (hs:p.hold=some s) (h':dR w' base sb Pw Cy s') (hf:s'.Fit) (k:I (bM sb hv sv) w w'):dh t w' base pb ob sb iE ov Pw Cy {p with hold:=some s'}:=by
 have hk:gP sb hv sv p.hold=bM sb hv sv:=by rw[hs];rfl
 have hoh:=DP h.out h.hold;have hpt:=h.uT.2;have qg:=h.far.2;rw[hk] at hoh hpt qg;refine⟨?_,h.out.keeps k (fun hm=>hoh _ hm ms) (fun i hi hm=>hoh i hm (List.mem_cons_of_mem _ hi)),⟨h',hf⟩,h.sO.keeps k (fun i hi=>Nat.lt_of_lt_of_le h.low.1 (qg i hi)),h.low⟩;have hb:=h.az.keeps k hpt;rw[hs] at hb;exact hb
open Go.K0 in
theorem dh.uN {t:bq} {w:World} {base pb ob sb:Nat} {iE ov hv sv:Value} {p:aw} (h:dh t w base pb ob sb iE ov hv sv p) (e:Int):dh t (w.setCell ⟨pb,4,none⟩ (.int .i64 e)) base pb ob sb iE ov hv sv {p with e:=e}:=q32
theorem rh (o:Out) (a:Value) (w:World):(method 405 (o5 o) a "Step").run prog w= .ok (mJ o,a) w:=by cases o<;>kernel_rfl
theorem ri (o:Out) (args:Array Value) (w:World):(callFunc (mJ o) args).run prog w= .ok (.enter (mJ o) args) w:=by cases o<;>kernel_rfl
theorem WY (o:Out) (a:Value) (w:World):(Instr.typeAssert (.iface (o5 o) a) 20 191 true).run prog w= .ok (.tuple #[.iface (o5 o) a,.bool true]) w:=by cases o<;>kernel_rfl
/-! ### the text that is built -/
def AA (T:Option TypeId):Prop:=T=some 132∨T=some 5
open Go.K0 in
theorem oP (w:World) (B b:Nat) (l:List UInt8) (s:ByteArray) (h:gS w B b l) (hB:B≤w.heap.size) (hlen:l.length+s.size≤1000000):Calls prog 91 #[.pointer (some ⟨b,0,none⟩),.string s] w fun e w'=>e= .returned (.tuple #[.int .i64 s.size,.nilIface])∧gS w' B b (l++s.data.toList)∧∃F,I F w w'∧∀i∈F,(i=b∨B≤i)∧AA (ic w i):=q35
theorem Hq (w:World) (B b:Nat) (l:List UInt8) (h:gS w B b l):Calls prog 92 #[.pointer (some ⟨b,0,none⟩)] w fun e w'=>e= .returned (.string (bytesOf l))∧∃F,I F w w'∧∀i∈F,B≤i∧AA (ic w i):=by obtain⟨p,v,h1,h2,h3⟩:=h;refine(pX b [] [] 132 p v B l w (by simpa using h1) 0 rfl h3).mono ?_;rintro e w' ⟨rfl,g3⟩;exact⟨rfl,_,g3,fun i hi=>⟨(World.ownsRow.lt h3 i (aa.1 hi)).1,inr (ng h3 i hi)⟩⟩
theorem gS.gF {F:List Nat} {w w':World} {B b:Nat} {l:List UInt8} (h:gS w B b l) (k:I F w w') (hF: ∀i∈F,¬AA (ic w i)):gS w' B b l:=by obtain⟨p,v,h1,h2,h3⟩:=h;exact⟨p,v,h1.keeps k (fun hm=>hF b hm (inl (iU h1))),h2,ab h3 k (fun i hi hm=>hF i hm (inr (ng h3 i (aa.2 hi))))⟩
theorem mg.jw {w:World} {base b:Nat} {ov:Value} {o:Out} (h:mg w base b ov o): ∀i∈fh b ov,¬AA (ic w i):=by
 intro i hi e;rcases h.ty i hi with h|h|h|h|h|h;all_goals rw[h] at e;rcases e with e|e<;>exact absurd e (by decide)
theorem jt.jw {w:World} {base sb:Nat} {hv sv:Value} {o:Option St} (h:jt w base sb hv sv o): ∀i∈gP sb hv sv o,¬AA (ic w i):=by
 intro i hi e;rcases h.ty i hi with h|h|h;all_goals rw[h] at e;rcases e with e|e<;>exact absurd e (by decide)
theorem dh.jw {t:bq} {w:World} {base pb ob sb:Nat} {iE ov hv sv:Value} {p:aw} (h:dh t w base pb ob sb iE ov hv sv p): ∀i∈cJ pb ob sb ov hv sv p.hold,¬AA (ic w i):=by
 intro i hi;rcases List.mem_cons.1 hi with rfl|hi
 ·intro e;rw[iU h.az] at e;rcases e with e|e<;>exact absurd e (by decide)
 ·rcases List.mem_append.1 hi with hi|hi
  ·exact h.out.jw i hi
  ·exact h.hold.jw i hi
theorem dh.AB {t:bq} {F:List Nat} {w w':World} {base pb ob sb:Nat} {iE ov hv sv:Value} {p:aw} {B b:Nat} (h:dh t w base pb ob sb iE ov hv sv p) (k:I F w w') (hF: ∀i∈F,(i=b∨B≤i)∧AA (ic w i)) (hb:base≤b∧base≤B):dh t w' base pb ob sb iE ov hv sv p:=h.keeps k (fun i hi hm=>h.jw i hi (hF i hm).2) (fun i hi=>by have h0:=h.low.1;rcases(hF i hi).1 with rfl|h1<;>omega)
theorem jh.AB {F:List Nat} {w w':World} {o:Option Addr} {n c:Nat} {ps:List Ev} {B b:Nat} (h:jh w o n c ps) (k:I F w w') (hF: ∀i∈F,(i=b∨B≤i)∧AA (ic w i)):jh w' o n c ps:=
 h.p8 k (fun i hi e=>by
  have:=(hF i hi).2
  rw[e] at this
  rcases this with h|h<;>exact absurd h (by decide))
structure Vh (t:bq) (base pb ob sb:Nat) (iE JE km JF:Value) (p0:aw) (l:List Ev) (lo:Option Addr) (lc:Nat) (w0:World) (k:Nat) (wr:World):Prop where
 ex: ∃ (p:aw) (acc:List UInt8) (ov hv sv:Value),dh t wr base pb ob sb iE ov hv sv p∧p.e=0∧(o5 p.out=o5 p0.out∧mJ p.out=mJ p0.out)∧gS wr (w0.heap.size+1) w0.heap.size acc∧p.gD t.pr (l.drop k)=true∧
  p0.gZ t.pr l=(acc++(p.gZ t.pr (l.drop k)).1,(p.gZ t.pr (l.drop k)).2)∧(∀i∈cJ pb ob sb ov hv sv p.hold,i∈cJ pb ob sb JE km JF p0.hold∨w0.heap.size<i)∧
  (∀b off,lo=some ⟨b,off,none⟩→b∉gP sb hv sv p.hold)∧(p.hold.isSome=p0.hold.isSome)
 kp:I (cJ pb ob sb JE km JF p0.hold) w0 wr
 li:jh wr lo l.length lc l
 kl:k≤l.length
 sz:w0.heap.size+1≤wr.heap.size
structure mK (t:bq) (base pb ob sb:Nat) (iE JE km JF:Value) (p0:aw) (l:List Ev) (lo:Option Addr) (lc:Nat) (w0:World) (hv sv:Value) (p1:aw) (acc:List UInt8) (ps:List Ev) (so:Option Addr) (sc:Nat) (j:Nat) (wr:World):Prop where
 ex: ∃ (o:Out) (d:List UInt8) (ov:Value),dh t wr base pb ob sb iE ov hv sv {p1 with out:=o,e:=0}∧(o5 o=o5 p0.out∧mJ o=mJ p0.out)∧gS wr (w0.heap.size+1) w0.heap.size (acc++d)∧o.may t.pr (ps.drop j)=true∧
  p1.out.all t.pr ps=(d++(o.all t.pr (ps.drop j)).1,(o.all t.pr (ps.drop j)).2)∧(∀i∈cJ pb ob sb ov hv sv p1.hold,i∈cJ pb ob sb JE km JF p0.hold∨w0.heap.size<i)
 kp:I (cJ pb ob sb JE km JF p0.hold) w0 wr
 li:jh wr lo l.length lc l
 si:jh wr so ps.length sc ps
 jl:j≤ps.length
 sz:w0.heap.size+1≤wr.heap.size
theorem mK.next {t:bq} {base pb ob sb:Nat} {iE JE km JF:Value} {p0:aw} {l:List Ev} {lo:Option Addr} {lc:Nat} {w0:World} {hv sv:Value} {p1:aw} {acc:List UInt8} {ps:List Ev} {so:Option Addr} {sc j:Nat} {wr w2 w4:World} {o:Out} {d:List UInt8} {ov nL:Value} {F:List Nat} (h:mK t base pb ob sb iE JE km JF p0 l lo lc w0 hv sv p1 acc ps so sc j wr) (hj:j<ps.length) (ho:dh t wr base pb ob sb iE ov hv sv {p1 with out:=o,e:=0}) (hot:o5 o=o5 p0.out∧mJ o=mJ p0.out) (hm:o.may t.pr (ps.drop j)=true) (ha:p1.out.all t.pr ps=(d++(o.all t.pr (ps.drop j)).1,(o.all t.pr (ps.drop j)).2)) (kq: ∀i∈cJ pb ob sb ov hv sv p1.hold,i∈cJ pb ob sb JE km JF p0.hold∨w0.heap.size<i) (ak:base≤w0.heap.size) (g1:mg w2 base ob nL (o.step t.pr ps[j]).2.2) (k2:I (fh ob ov) wr w2) (hn: ∀i∈fh ob nL,i∈fh ob ov∨wr.heap.size≤i) (g4:gS w4 (w0.heap.size+1) w0.heap.size (acc++d++(bytesOf (o.step t.pr ps[j]).1).data.toList)) (k4:I F (w2.setCell ⟨pb,4,none⟩ (.int .i64 0)) w4) (hF: ∀i∈F,(i=w0.heap.size∨w0.heap.size+1≤i)∧AA (ic (w2.setCell ⟨pb,4,none⟩ (.int .i64 0)) i)):mK t base pb ob sb iE JE km JF p0 l lo lc w0 hv sv p1 acc ps so sc (j+1) w4:=by
 have hd:ps.drop j=ps[j]::ps.drop (j+1):=List.drop_eq_getElem_cons hj;rw[hd] at hm ha;obtain⟨m1,m2,m3,m4⟩:=lh hm;rw[all_cons m2] at ha;have iP:dh t w2 base pb ob sb iE nL hv sv {p1 with out:=(o.step t.pr ps[j]).2.2,e:=0}:=ho.rf g1 k2;have oH:=iP.uN 0;have Se:=oH.AB k4 hF ⟨ak,Nat.le_succ_of_le ak⟩;have hs:I [pb] w2 (w2.setCell ⟨pb,4,none⟩ (.int .i64 0)):=(I.refl [pb] _).ax _;have DS:ic wr pb≠some 20:=by rw[iU ho.az];decide
 have ZV:ic w2 pb≠some 20:=by rw[iU iP.az];decide
 have lst: ∀ {o':Option Addr} {n c:Nat} {q:List Ev},jh wr o' n c q→jh w4 o' n c q:=fun hl=>(((hl.p8 k2 ho.out.WX).p8 hs (fun i hi=>by rw[List.mem_singleton] at hi;rw[hi];exact ZV)).AB k4 hF)
 have iT: ∀i∈cJ pb ob sb nL hv sv p1.hold,i∈cJ pb ob sb JE km JF p0.hold∨w0.heap.size<i:=by
  intro i hi;rcases List.mem_cons.1 hi with rfl|hi
  ·exact kq _ ms
  ·rcases List.mem_append.1 hi with hi|hi
   ·rcases hn i hi with hi|hi
    ·exact kq i (List.mem_cons_of_mem _ (List.mem_append_left _ hi))
    ·have:=h.sz;right;omega
   ·exact kq i (List.mem_cons_of_mem _ (List.mem_append_right _ hi))
 have jV:I (cJ pb ob sb JE km JF p0.hold) w0 w4:=by
  refine((h.kp.trans' k2 (fun i hi=> ?_)).trans' hs (fun i hi=> ?_)).trans' k4 (fun i hi=> ?_)
  ·exact(kq i (List.mem_cons_of_mem _ (List.mem_append_left _ hi))).imp id (fun h=>by omega)
  ·rw[List.mem_singleton] at hi;rw[hi];exact(kq pb ms).imp id (fun h=>by omega)
  ·rcases(hF i hi).1 with h|h
   ·right;omega
   ·right;omega
 refine⟨⟨(o.step t.pr ps[j]).2.2,d++(o.step t.pr ps[j]).1,nL,Se,⟨(jE t.pr o ps[j]).1.trans hot.1,(jE t.pr o ps[j]).2.trans hot.2⟩,?_,m4,by rw[ha];simp only[List.append_assoc],iT⟩,jV,lst h.li,lst h.si,hj,?_⟩
 ·have e:(bytesOf (o.step t.pr ps[j]).1).data.toList=(o.step t.pr ps[j]).1:=by simp[bytesOf]
  rw[e,List.append_assoc] at g4;exact g4
 ·exact Nat.le_trans h.sz (Nat.le_trans k2.size (Nat.le_trans hs.size k4.size))
theorem nz {T:Pr} {o q:Out} {d:List UInt8} {ps:List Ev} {j:Nat} (hm:o.may T (ps.drop j)=true) (ha:q.all T ps=(d++(o.all T (ps.drop j)).1,(o.all T (ps.drop j)).2)) (hj:j<ps.length):d.length+(o.step T ps[j]).1.length≤(q.all T ps).1.length:=by rw[List.drop_eq_getElem_cons hj] at hm ha;rw[ha,all_cons (lh hm).2.1];simp only[List.length_append];omega
theorem mK.done {t:bq} {base pb ob sb:Nat} {iE JE km JF:Value} {p0:aw} {l:List Ev} {lo:Option Addr} {lc:Nat} {w0:World} {hv sv:Value} {p1 p2:aw} {acc:List UInt8} {ps:List Ev} {so:Option Addr} {sc j k:Nat} {wr:World} (h:mK t base pb ob sb iE JE km JF p0 l lo lc w0 hv sv p2 acc ps so sc j wr) (hj: ¬j<ps.length) (hk:k<l.length) (cS:p1.gD t.pr (l.drop k)=true) (hpu:p0.gZ t.pr l=(acc++(p1.gZ t.pr (l.drop k)).1,(p1.gZ t.pr (l.drop k)).2)) (lL:(aw.held p1.hold l[k]).1=ps) (iP:p2={p1 with hold:=(aw.held p1.hold l[k]).2.2}) (LF: ∀b off,lo=some ⟨b,off,none⟩→b∉gP sb hv sv p2.hold) (tr:p2.hold.isSome=p0.hold.isSome):Vh t base pb ob sb iE JE km JF p0 l lo lc w0 (k+1) wr:=by
 obtain⟨o,d,ov,hp,hot,Ro,hm,ha,kq⟩:=h.ex;have hd:l.drop k=l[k]::l.drop (k+1):=List.drop_eq_getElem_cons hk;rw[hd] at cS hpu;have lB:=p9 cS;have hc:=eU cS;rw[sF cS] at hpu;rw[List.drop_eq_nil_of_le (by omega)] at ha;simp only[Out.all,List.append_nil] at ha;have hpo:p2.out=p1.out:=by rw[iP]
 rw[hpo] at ha;rw[lL] at lB;rw[ha] at lB;simp only at lB;have MY:(p1.put t.pr l[k]).2={p2 with out:=o,e:=0}:=by rw[lB,iP]
 have YL:(p1.put t.pr l[k]).1=d:=by rw[lB]
 rw[MY,YL] at hpu;rw[MY] at hc;exact⟨⟨_,acc++d,ov,hv,sv,hp,rfl,hot,Ro,hc.2.2,by rw[hpu];simp only[List.append_assoc],kq,LF,tr⟩,h.kp,h.li,hk,h.sz⟩
end Go.Proofs.YthffblhdjjbkaaaGreat
