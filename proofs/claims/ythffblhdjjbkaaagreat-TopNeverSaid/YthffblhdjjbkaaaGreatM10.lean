/- escape.Reader in the middle of a block; escape.Reader in the middle of a block -/
import Derived.Test.YthffblhdjjbkaaaGreatM6
import Derived.Deep.QuietTactic
import Derived.Deep.RegionWith
set_option maxHeartbeats 100000000
set_option maxRecDepth 1000000
open Go.Lib (hid)
open Go.Proofs.Tryz
open Or (inl inr)
namespace Go.Proofs.YthffblhdjjbkaaaGreat
open Go.RowKit Go.Tru
def PQ (x:Int):Bool:=decide (0≤x∧x<55296∨57343<x∧x≤1114111)
theorem JH (x:Int) (w:World):Calls prog 162 #[.int .i64 x] w fun e w'=>e= .returned (.tuple #[.string ⟨(nE x).toArray⟩,.bool (PQ x)])∧w=w':=by
 by_cases h:0≤x∧x<55296∨57343<x∧x≤1114111
 ·have he:Utf8.encode x=⟨(nE x).toArray⟩:=by
   have h2:=Gj (r:=x) h;have:nE x=enc x:=by unfold nE;rw[if_pos h]
   rw[this,←h2]
  have HE:=hid he;have hk:PQ x=true:=decide_eq_true h;rw[hk];clear he hk;rcases h with⟨h1,h2⟩|⟨h1,h2⟩;all_goals go_enter func162,ntmps162;go_wp2;go_ret2;refine⟨?_,rfl⟩;rw[←HE.out];rfl
 ·have he:nE x= []:=by unfold nE;rw[if_neg h]
  have hk:PQ x=false:=decide_eq_false h;rw[he,hk];rcases(show x<0∨1114111<x∨55296≤x∧x≤57343 by omega) with h1|h1|⟨h1,h2⟩;all_goals clear h he hk;go_enter func162,ntmps162;go_wp2;go_ret2;exact⟨rfl,rfl⟩
theorem AK (b:Nat) (pre post:List Value) (t:TypeId) (r:cA) (x:Int) (w:World) (h:Has w b (pre++r.cells++post) t) (off:Nat) (bK:off=pre.length) (hx:0≤x) (dE:x≤255) (hf:r.Fit) (he:r.e=0):Calls prog 155 #[.pointer (some ⟨b,off,none⟩),.int .u8 x] w fun e w'=>e= .returned (gG (r.plain x).2 (r.plain x).1.e)∧jk w b pre post t {(r.plain x).1 with e:=0} w':=by
 have H:=hid h;have HO:=hid bK;clear h bK;by_cases h0:x<32∨x=34
 ·have hp:r.plain x=({r with e:=2},[]):=by unfold cA.plain;rw[if_pos h0]
  rw[hp];have h1:Has w b (pre++cA.cells {r with e:=0}++post) t:=H.out.conv (by rw[←he]);have H1:=hid h1;clear hp he h1;rcases h0 with h0|rfl;all_goals go_enter func155,ntmps155;go_wp2;go_ret2;exact⟨rfl,bY H1.out (I.refl _ _)⟩
 ·have hc:Has w b (pre++r.c.cells++([.int .i64 r.state,.int .i64 r.r,.int .i64 r.n,.int .i64 r.pair,.int .i64 0]++post)) t:=H.out.conv (by rw[mL,he]);have dP:=vw b pre _ t r.c x w hc off HO.out hx dE hf.c;have h32:32≤x:=by omega
  have h34:(x==34)=false:=by rw[beq_eq_false_iff_ne];omega
  cases oY:(r.c.step x).bad
  ·by_cases h92:x=92
   ·have hp:r.plain x=({r with c:=r.c.step x,state:=1},[]):=by unfold cA.plain;rw[if_neg h0,if_neg (by simp[oY]),if_pos h92]
    rw[hp];have HE:=hid he;subst h92;rw[oY] at dP;clear hp he hc h0 oY h34 hf;go_enter func155,ntmps155;go_wp2_with fail
    refine dP.mono ?_;rintro e w1 ⟨rfl,h1,k1⟩;have mx:Has w1 b (pre++cA.cells {r with c:=r.c.step 92,e:=0}++post) t:=h1.conv (by rw[mL]);have H1:=hid mx;have K1:=hid k1;have f4:=mx.free (off+4);have g4:=(et mx HO.out).1;clear h1 k1 mx;go_wp2_with fail
    go_ret2;refine⟨by rw[HE.out];rfl,bY ((cd H1.out HO.out 4 _ (by simp[cA.cells,cm.cells])).conv ?_) (K1.out.ax _)⟩;simp[cA.cells,cm.cells]
   ·have hp:r.plain x=({r with c:=r.c.step x},[UInt8.ofNat x.toNat]):=by unfold cA.plain;rw[if_neg h0,if_neg (by simp[oY]),if_neg h92]
    rw[hp];have HE:=hid he;have ak9:(x==92)=false:=by simp[h92]
    rw[oY] at dP;clear hp he hc h0 oY h92 hf;go_enter func155,ntmps155;go_wp2_with fail
    refine dP.mono ?_;rintro e w1 ⟨rfl,h1,k1⟩;have mx:Has w1 b (pre++cA.cells {r with c:=r.c.step x,e:=0}++post) t:=h1.conv (by rw[mL]);have tQ:=jO (P:=prog) 63 9 5 underlying63 underlying5 underlying9 [x] w1 w1.heap.size rfl;rw[TD] at tQ;simp only[List.length_singleton,List.map_cons,List.map_nil] at tQ;have H1:=hid mx;have K1:=hid k1;clear h1 k1 mx;go_wp2_with fail
    go_ret2;exact⟨by rw[HE.out];rfl,bY (H1.out.alloc _) (K1.out.alloc _)⟩
  ·have hp:r.plain x=({r with c:=r.c.step x,e:=9},[]):=by unfold cA.plain;rw[if_neg h0,if_pos oY]
   rw[hp];have HE:=hid he;rw[oY] at dP;clear hp he hc h0 oY hf;go_enter func155,ntmps155;go_wp2_with fail
   refine dP.mono ?_;rintro e w1 ⟨rfl,h1,k1⟩;have mx:Has w1 b (pre++cA.cells {r with c:=r.c.step x,e:=0}++post) t:=h1.conv (by rw[mL]);have H1:=hid mx;have K1:=hid k1;clear h1 k1 mx;go_wp2_with fail
   go_ret2;exact⟨rfl,bY H1.out K1.out⟩
theorem TE (x:Int) (h0:0≤x) (h1:x≤255):(Lib.indexByte [34,92,47,98,102,110,114,116] x.toNat.toUInt8= -1∧qK x= [])∨∃k:Nat,k<8∧Lib.indexByte [34,92,47,98,102,110,114,116] x.toNat.toUInt8=k∧qK x= [([34,92,47,8,12,10,13,9]:List UInt8).getD k 0]:=by
 obtain⟨n,rfl⟩: ∃n:Nat,x=n:=⟨x.toNat,by omega⟩
 have kA: ∀y:Fin 256,(Lib.indexByte [34,92,47,98,102,110,114,116] y.1.toUInt8= -1∧qK (y.1:Int)= [])∨∃k:Fin 8,Lib.indexByte [34,92,47,98,102,110,114,116] y.1.toUInt8=k.1∧qK (y.1:Int)= [([34,92,47,8,12,10,13,9]:List UInt8).getD k.1 0]:=by decide+kernel
 rcases kA ⟨n,by omega⟩ with h|⟨k,h2,h3⟩
 ·exact inl h
 ·exact inr ⟨k.1,k.2,h2,h3⟩
theorem TF (k:Nat) (hk:k<8):(⟨#[34,92,47,8,12,10,13,9]⟩:ByteArray).extract k (k+1)=⟨#[([34,92,47,8,12,10,13,9]:List UInt8).getD k 0]⟩:=by
 match k,hk with
 |0,_=>rfl
 |1,_=>rfl
 |2,_=>rfl
 |3,_=>rfl
 |4,_=>rfl
 |5,_=>rfl
 |6,_=>rfl
 |7,_=>rfl
theorem Ib (b:Nat) (pre post:List Value) (t:TypeId) (r:cA) (x:Int) (w:World) (h:Has w b (pre++r.cells++post) t) (off:Nat) (bK:off=pre.length) (hx:0≤x) (dE:x≤255) (he:r.e=0):Calls prog 156 #[.pointer (some ⟨b,off,none⟩),.int .u8 x] w fun e w'=>e= .returned (gG (r.behind x).2 (r.behind x).1.e)∧jk w b pre post t {(r.behind x).1 with e:=0} w':=by
 have H:=hid h;have HO:=hid bK;have HE:=hid he;have f4:=h.free (off+4);have f5:=h.free (off+5);have f6:=h.free (off+6);obtain⟨g4,g5,g6,g7,g8⟩:=et h bK;clear h bK he;by_cases h117:x=117
 ·have hp:r.behind x=({r with state:=2,r:=0,n:=0},[]):=by unfold cA.behind;rw[if_pos h117]
  rw[hp];subst h117;clear hp;go_enter func156,ntmps156;go_wp2;go_ret2;refine⟨by rw[HE.out];rfl,bY ((cd (cd (cd H.out HO.out 4 _ (by simp[cA.cells,cm.cells])) HO.out 5 _ (by simp[cA.cells,cm.cells])) HO.out 6 _ (by simp[cA.cells,cm.cells])).conv ?_) ((((I.refl _ _).ax _).ax _).ax _)⟩;simp[cA.cells,cm.cells,HE.out]
 ·have ahC:(x==117)=false:=by simp[h117]
  have TG:=fz ⟨#[34,92,47,98,102,110,114,116]⟩ x w;rcases TE x hx dE with⟨hi,ho⟩|⟨k,hk,hi,ho⟩
  ·have hp:r.behind x=({r with e:=2},[]):=by unfold cA.behind;rw[if_neg h117,if_pos ho]
   rw[hp];have DW:Lib.indexByte (⟨#[34,92,47,98,102,110,114,116]⟩:ByteArray).data.toList x.toNat.toUInt8= -1:=hi;rw[DW] at TG;clear hp hi ho h117 DW;go_enter func156,ntmps156;go_wp2_with fail
   refine TG.mono ?_;rintro e w1 ⟨rfl,rfl⟩;go_wp2_with fail
   go_ret2;exact⟨rfl,bY (H.out.conv (by rw[←HE.out])) (I.refl _ _)⟩
  ·have hp:r.behind x=({r with state:=0},qK x):=by unfold cA.behind;rw[if_neg h117,if_neg (by rw[ho];simp)]
   rw[hp];have DW:Lib.indexByte (⟨#[34,92,47,98,102,110,114,116]⟩:ByteArray).data.toList x.toNat.toUInt8=(k:Int):=hi;rw[DW] at TG;have hcut:=TF k hk;obtain⟨c,hc⟩: ∃c:UInt8,([34,92,47,8,12,10,13,9]:List UInt8).getD k 0=c:=⟨_,rfl⟩
   rw[hc] at hcut ho;have HP:=hid ho;clear hp hi ho h117 DW hc;go_enter func156,ntmps156;go_wp2_with fail
   refine TG.mono ?_;rintro e w1 ⟨rfl,rfl⟩;go_wp2_with fail
   go_ret2;refine⟨by rw[HE.out,HP.out];rfl,bY ((cd H.out HO.out 4 _ (by simp[cA.cells,cm.cells])).conv ?_) ((I.refl _ _).ax _)⟩;simp[cA.cells,cm.cells,HE.out]
/-! ### digit -/
theorem PR (r h:Int) (hr:0≤r) (oG:r≤4095) (hh:0≤h) (V6:h≤15):bits .or .i64 (r*16) h=r*16+h:=by
 obtain⟨a,rfl⟩: ∃a:Nat,r=a:=⟨r.toNat,by omega⟩
 obtain⟨c,rfl⟩: ∃c:Nat,h=c:=⟨h.toNat,by omega⟩
 have hx:a*16|||c=a*16+c:=by have:=Nat.shiftLeft_add_eq_or_of_lt (i:=4) (b:=c) (by omega) a;rw[Nat.shiftLeft_eq] at this;exact this.symm
 have e1:((a:Int)*16)=((a*16:Nat):Int):=by omega
 rw[e1];show IntKind.i64.wrap ((BitVec.ofInt 64 ((a*16:Nat):Int)|||BitVec.ofInt 64 (c:Int)).toNat:Int)=_;rw[BitVec.toNat_or,ofInt_u64 (a*16) (by omega),ofInt_u64 c (by omega),hx,IntWalk.i64_in _ (by omega)];omega
theorem Ic (b:Nat) (pre post:List Value) (t:TypeId) (r:cA) (x:Int) (w:World) (h:Has w b (pre++r.cells++post) t) (off:Nat) (hx:0≤x) (dE:x≤255) (he:r.e=0) (hn:dQ x<0):Calls prog 157 #[.pointer (some ⟨b,off,none⟩),.int .u8 x] w fun e w'=>e= .returned (gG (r.digit x).2 (r.digit x).1.e)∧jk w b pre post t {(r.digit x).1 with e:=0} w':=by
 have hp:r.digit x=({r with e:=2},[]):=by unfold cA.digit;rw[if_pos hn]
 rw[hp];have H:=hid (h.conv (by rw[←he]):Has w b (pre++cA.cells {r with e:=0}++post) t);have hex:=uz x w hx dE;clear hp he h;go_enter func157,ntmps157;go_wp2_with fail
 refine hex.mono ?_;rintro e w1 ⟨rfl,rfl⟩;go_wp2_with fail
 go_ret2;exact⟨rfl,bY H.out (I.refl _ _)⟩
theorem Ie (b:Nat) (pre post:List Value) (t:TypeId) (r:cA) (x:Int) (w:World) (h:Has w b (pre++r.cells++post) t) (off:Nat) (bK:off=pre.length) (hx:0≤x) (dE:x≤255) (he:r.e=0) (hn:0≤dQ x) (hm:0≤r.n∧r.n<3) (hr:0≤r.r∧r.r≤4095):Calls prog 157 #[.pointer (some ⟨b,off,none⟩),.int .u8 x] w fun e w'=>e= .returned (gG (r.digit x).2 (r.digit x).1.e)∧jk w b pre post t {(r.digit x).1 with e:=0} w':=by
 have hp:r.digit x=({r with r:=r.r*16+dQ x,n:=r.n+1},[]):=by unfold cA.digit;rw[if_neg (by omega),if_pos hm.2]
 rw[hp];have Xl:=(vG x).2;have Tg:=PR r.r (dQ x) hr.1 hr.2 hn Xl;have H:=hid h;have HO:=hid bK;have HE:=hid he;have f5:=h.free (off+5);have f6:=h.free (off+6);obtain⟨g4,g5,g6,g7,g8⟩:=et h bK;have hex:=uz x w hx dE;obtain⟨hm0,Pe⟩:=hm;obtain⟨Z2,lq⟩:=hr;clear hp he h bK;go_enter func157,ntmps157;go_wp2_with fail
 refine hex.mono ?_;rintro e w1 ⟨rfl,rfl⟩;go_wp2_with fail
 go_region;all_goals
  go_wp2_with fail
  go_ret2;refine⟨by rw[HE.out];rfl,bY ?_ ?_⟩
  ·apply Has.conv
   ·repeat with_reducible (first|exact H.out|apply Has.drew|apply cd (ho:=HO.out))
    all_goals simp[cA.cells,cm.cells]
   ·simp[cA.cells,cm.cells,HE.out]
  ·repeat with_reducible (first|exact I.refl _ _|refine I.ax ?_ _|apply I.drew)
theorem Ig (b:Nat) (pre post:List Value) (t:TypeId) (r:cA) (x:Int) (w:World) (h:Has w b (pre++r.cells++post) t) (off:Nat) (bK:off=pre.length) (hx:0≤x) (dE:x≤255) (he:r.e=0) (hn:0≤dQ x) (hm:r.n=3) (hr:0≤r.r∧r.r≤4095) (PT:r.pair=0∨55296≤r.pair∧r.pair≤56319):Calls prog 157 #[.pointer (some ⟨b,off,none⟩),.int .u8 x] w fun e w'=>e= .returned (gG (r.digit x).2 (r.digit x).1.e)∧jk w b pre post t {(r.digit x).1 with e:=0} w':=by
 have Xl:=(vG x).2;have Tg:=PR r.r (dQ x) hr.1 hr.2 hn Xl;have H:=hid h;have HO:=hid bK;have HE:=hid he;have f4:=h.free (off+4);have f5:=h.free (off+5);have f6:=h.free (off+6);have f7:=h.free (off+7);obtain⟨g4,g5,g6,g7,g8⟩:=et h bK;have hex:=uz x w hx dE;obtain⟨Z2,lq⟩:=hr;rw[hm] at g6;clear h bK;obtain⟨v,hv⟩: ∃v,r.r*16+dQ x=v:=⟨_,rfl⟩
 rw[hv] at Tg;have km:0≤v:=by omega
 have iR:v≤65535:=by omega
 have hd:r.digit x=(if 0<r.pair then({r with r:=v,n:=r.n+1,state:=0,pair:=0},nE (65536+(r.pair-55296)*1024+v-56320)) else if 56320≤v∧v<57344 then({r with r:=v,n:=r.n+1,state:=0,e:=9},[]) else if 55296≤v∧v<56320 then({r with r:=v,n:=r.n+1,state:=0,pair:=v},[]) else({r with r:=v,n:=r.n+1,state:=0},nE v)):=by unfold cA.digit;rw[if_neg (by omega),if_neg (by omega),hv]
 have HM:=hid hm;rcases PT with hp|⟨Ng,mo⟩
 ·rw[if_neg (by omega)] at hd;have HP:=hid hp;rw[hp] at g7;by_cases h1:56320≤v∧v<57344
  ·rw[if_pos h1] at hd;obtain⟨h10,h11⟩:=h1;rw[hd];clear hd hp hm he hv;go_enter func157,ntmps157;go_wp2_with fail
   refine hex.mono ?_;rintro e w1 ⟨rfl,rfl⟩;go_wp2_with fail
   go_region;all_goals
    go_wp2_with fail
    go_ret2;refine⟨by rfl,bY ?_ ?_⟩
    ·apply Has.conv
     ·repeat with_reducible (first|exact H.out|apply Has.drew|apply cd (ho:=HO.out))
      all_goals simp[cA.cells,cm.cells]
     ·simp[cA.cells,cm.cells,HE.out,HM.out]
    ·repeat with_reducible (first|exact I.refl _ _|refine I.ax ?_ _|apply I.drew)
  ·rw[if_neg h1] at hd;by_cases h2:55296≤v∧v<56320
   ·rw[if_pos h2] at hd;obtain⟨h20,h21⟩:=h2;rw[hd];have h56:v<56320:=h21;clear hd hp hm he hv h1;go_enter func157,ntmps157;go_wp2_with fail
    refine hex.mono ?_;rintro e w1 ⟨rfl,rfl⟩;go_wp2_with fail
    go_region;all_goals
     go_wp2_with fail
     go_ret2;refine⟨by rw[HE.out];rfl,bY ?_ ?_⟩
     ·apply Has.conv
      ·repeat with_reducible (first|exact H.out|apply Has.drew|apply cd (ho:=HO.out))
       all_goals simp[cA.cells,cm.cells]
      ·simp[cA.cells,cm.cells,HE.out,HM.out]
     ·repeat with_reducible (first|exact I.refl _ _|refine I.ax ?_ _|apply I.drew)
   ·rw[if_neg h2] at hd;rw[hd];have lB:=fun W=>JH v W;have vD:v<55296∨57344≤v:=by omega
    clear hd hp hm he hv h1 h2;rcases vD with h3|h3;all_goals
     go_enter func157,ntmps157;go_wp2_with fail
     refine hex.mono ?_;rintro e w1 ⟨rfl,rfl⟩;go_wp2_with fail
     go_region;all_goals
      go_wp2_with fail
      refine(lB _).mono ?_;rintro e w1 ⟨rfl,rfl⟩;go_wp2_with fail
      go_ret2;refine⟨by rw[HE.out];rfl,bY ?_ ?_⟩
      ·apply Has.conv
       ·repeat with_reducible (first|exact H.out|apply Has.drew|apply cd (ho:=HO.out))
        all_goals simp[cA.cells,cm.cells]
       ·simp[cA.cells,cm.cells,HE.out,HM.out,HP.out]
      ·repeat with_reducible (first|exact I.refl _ _|refine I.ax ?_ _|apply I.drew)
 ·rw[if_pos (by omega)] at hd;rw[hd];have lB:=fun W=>JH (65536+(r.pair-55296)*1024+v-56320) W;have iP:0<r.pair:=by omega
  clear hd hm he hv;go_enter func157,ntmps157;go_wp2_with fail
  refine hex.mono ?_;rintro e w1 ⟨rfl,rfl⟩;go_wp2_with fail
  go_region;all_goals
   go_wp2_with fail
   refine(lB _).mono ?_;rintro e w1 ⟨rfl,rfl⟩;go_wp2_with fail
   go_ret2;refine⟨by rw[HE.out];rfl,bY ?_ ?_⟩
   ·apply Has.conv
    ·repeat with_reducible (first|exact H.out|apply Has.drew|apply cd (ho:=HO.out))
     all_goals simp[cA.cells,cm.cells]
    ·simp[cA.cells,cm.cells,HE.out,HM.out]
   ·repeat with_reducible (first|exact I.refl _ _|refine I.ax ?_ _|apply I.drew)
theorem LO (b:Nat) (pre post:List Value) (t:TypeId) (r:cA) (x:Int) (w:World) (h:Has w b (pre++r.cells++post) t) (off:Nat) (bK:off=pre.length) (hx:0≤x) (dE:x≤255) (he:r.e=0) (hh:yJ r.n r.r) (PT:r.pair=0∨55296≤r.pair∧r.pair≤56319):Calls prog 157 #[.pointer (some ⟨b,off,none⟩),.int .u8 x] w fun e w'=>e= .returned (gG (r.digit x).2 (r.digit x).1.e)∧jk w b pre post t {(r.digit x).1 with e:=0} w':=by
 unfold yJ at hh;by_cases hn:dQ x<0
 ·exact Ic b pre post t r x w h off hx dE he hn
 ·by_cases hm:r.n<3
  ·exact Ie b pre post t r x w h off bK hx dE he (by omega) (by omega) (by omega)
  ·exact Ig b pre post t r x w h off bK hx dE he (by omega) (by omega) (by omega) PT
theorem AL (b:Nat) (pre post:List Value) (t:TypeId) (r:cA) (x:Int) (w:World) (h:Has w b (pre++r.cells++post) t) (off:Nat) (bK:off=pre.length) (he: ¬r.e=0):Calls prog 150 #[.pointer (some ⟨b,off,none⟩),.int .u8 x] w fun e w'=>e= .returned (gG (r.step x).2 (r.step x).1.e)∧jk w b pre post t (r.step x).1 w':=by
 have hs:r.step x=(r,[]):=by unfold cA.step;rw[if_pos he]
 have UO:(r.e != 0)=true:=by simp[he]
 obtain⟨g4,g5,g6,g7,g8⟩:=et h bK;rw[hs];have H:=hid h;clear h bK he hs;go_enter func150,ntmps150;go_wp2_with fail
 go_region;all_goals
  go_wp2_with fail
  go_ret2;exact⟨rfl,bY H.out.drew (I.refl _ _).drew⟩
theorem AM (b:Nat) (pre post:List Value) (t:TypeId) (r:cA) (x:Int) (w:World) (h:Has w b (pre++r.cells++post) t) (off:Nat) (bK:off=pre.length) (hx:0≤x) (dE:x≤255) (he:r.e=0) (hp:0<r.pair) (hm:r.may x=false):Calls prog 150 #[.pointer (some ⟨b,off,none⟩),.int .u8 x] w fun e w'=>e= .returned (gG (r.step x).2 (r.step x).1.e)∧jk w b pre post t (r.step x).1 w':=by
 have hs:r.step x=({r with e:=9},[]):=by unfold cA.step;rw[if_neg (by simp[he]),if_pos ⟨hp,hm⟩]
 obtain⟨g4,g5,g6,g7,g8⟩:=et h bK;rw[he] at g8;rw[hs];have dW:=JG b pre post t r x w h off bK hx dE;rw[hm] at dW;have f8:=h.free (off+8);have H:=hid h;have HO:=hid bK;have H9:=hid ((cd h bK 8 (.int .i64 9) (by simp[cA.cells,cm.cells])).conv (by simp[cA.cells,cm.cells]):Has (w.setCell ⟨b,off+8,none⟩ (.int .i64 9)) b (pre++cA.cells {r with e:=9}++post) t);have g8':=(et H9.out bK).2.2.2.2;clear h bK he hs hm;go_enter func150,ntmps150;go_wp2_with fail
 refine dW.mono ?_;rintro e w1 ⟨rfl,rfl⟩;go_wp2_with fail
 go_region;all_goals
  go_wp2_with fail
  go_ret2;exact⟨rfl,bY H9.out.drew ((I.refl _ _).ax _).drew⟩
theorem oQ {w1:World} {b:Nat} {pre post:List Value} {t:TypeId} {r':cA} {off:Nat} (h:Has w1 b (pre++cA.cells {r' with e:=0}++post) t) (bK:off=pre.length):Has (w1.setCell ⟨b,off+8,none⟩ (.int .i64 r'.e)) b (pre++r'.cells++post) t:=(cd h bK 8 (.int .i64 r'.e) (by simp[cA.cells,cm.cells])).conv (by simp[cA.cells,cm.cells])
theorem tC (b:Nat) (pre post:List Value) (t:TypeId) (r:cA) (x:Int) (w:World) (h:Has w b (pre++r.cells++post) t) (off:Nat) (bK:off=pre.length) (hx:0≤x) (dE:x≤255) (hf:r.Fit) (he:r.e=0) (hp:r.pair=0∨0<r.pair∧r.may x=true):Calls prog 150 #[.pointer (some ⟨b,off,none⟩),.int .u8 x] w fun e w'=>e= .returned (gG (r.step x).2 (r.step x).1.e)∧jk w b pre post t (r.step x).1 w':=by
 have hs:r.step x=if r.state=0 then r.plain x else if r.state=1 then r.behind x else r.digit x:=by
  unfold cA.step;rw[if_neg (by simp[he]),if_neg (by
   rintro⟨a,c⟩;rcases hp with h1|h1
   ·omega
   ·rw[h1.2] at c;cases c)]
 obtain⟨g4,g5,g6,g7,g8⟩:=et h bK;rw[he] at g8;have dW:=JG b pre post t r x w h off bK hx dE;have eI:=AK b pre post t r x w h off bK hx dE hf he;have YM:=Ib b pre post t r x w h off bK hx dE he;have hh:r.state=2→yJ r.n r.r:=fun h2=>by
  rcases hf.st with a|a|a
  ·omega
  ·omega
  ·exact a.2
 have Vi:=fun h2=>LO b pre post t r x w h off bK hx dE he (hh h2) hf.pair;have HO:=hid bK;have gp:=hf.st;clear h bK hf hh;rcases gp with h0|h1|⟨h2,_⟩
 ·rw[if_pos h0] at hs;rw[hs];rw[h0] at g4;obtain⟨r',Vj⟩: ∃r',r.plain x=r':=⟨_,rfl⟩
  rw[Vj] at eI⊢;obtain⟨r1,out⟩:=r';simp only at eI⊢;clear YM Vi Vj hs h0 he;rcases hp with hp|⟨hp,hm⟩
  ·rw[hp] at g7;clear dW hp;go_enter func150,ntmps150;go_wp2_with fail
   refine eI.mono ?_;rintro e w1 ⟨rfl,h1,k1⟩;simp only[gG];have f8:=h1.free (off+8);have g9:=(et h1 HO.out).2.2.2.2;have H1:=hid (oQ h1 HO.out);have K1:=hid k1;have hl:=h1.lt;clear h1 k1;go_wp2_with fail
   go_region;all_goals
    go_wp2_with fail
    go_ret2;exact⟨rfl,bY H1.out.drew (K1.out.ax _).drew⟩
  ·rw[hm] at dW;clear hm;go_enter func150,ntmps150;go_wp2_with fail
   refine dW.mono ?_;rintro e w1 ⟨rfl,rfl⟩;go_wp2_with fail
   refine eI.mono ?_;rintro e w1 ⟨rfl,h1,k1⟩;simp only[gG];have f8:=h1.free (off+8);have g9:=(et h1 HO.out).2.2.2.2;have H1:=hid (oQ h1 HO.out);have K1:=hid k1;have hl:=h1.lt;clear h1 k1;go_wp2_with fail
   go_region;all_goals
    go_wp2_with fail
    go_ret2;exact⟨rfl,bY H1.out.drew (K1.out.ax _).drew⟩
 ·rw[if_neg (by omega),if_pos h1] at hs;rw[hs];rw[h1] at g4;obtain⟨r',Vj⟩: ∃r',r.behind x=r':=⟨_,rfl⟩
  rw[Vj] at YM⊢;obtain⟨r1,out⟩:=r';simp only at YM⊢;clear eI Vi Vj hs h1 he;rcases hp with hp|⟨hp,hm⟩
  ·rw[hp] at g7;clear dW hp;go_enter func150,ntmps150;go_wp2_with fail
   refine YM.mono ?_;rintro e w1 ⟨rfl,h1,k1⟩;simp only[gG];have f8:=h1.free (off+8);have g9:=(et h1 HO.out).2.2.2.2;have H1:=hid (oQ h1 HO.out);have K1:=hid k1;have hl:=h1.lt;clear h1 k1;go_wp2_with fail
   go_region;all_goals
    go_wp2_with fail
    go_ret2;exact⟨rfl,bY H1.out.drew (K1.out.ax _).drew⟩
  ·rw[hm] at dW;clear hm;go_enter func150,ntmps150;go_wp2_with fail
   refine dW.mono ?_;rintro e w1 ⟨rfl,rfl⟩;go_wp2_with fail
   refine YM.mono ?_;rintro e w1 ⟨rfl,h1,k1⟩;simp only[gG];have f8:=h1.free (off+8);have g9:=(et h1 HO.out).2.2.2.2;have H1:=hid (oQ h1 HO.out);have K1:=hid k1;have hl:=h1.lt;clear h1 k1;go_wp2_with fail
   go_region;all_goals
    go_wp2_with fail
    go_ret2;exact⟨rfl,bY H1.out.drew (K1.out.ax _).drew⟩
 ·rw[if_neg (by omega),if_neg (by omega)] at hs;rw[hs];rw[h2] at g4;have Vi:=Vi h2;obtain⟨r',Vj⟩: ∃r',r.digit x=r':=⟨_,rfl⟩
  rw[Vj] at Vi⊢;obtain⟨r1,out⟩:=r';simp only at Vi⊢;clear eI YM Vj hs h2 he;rcases hp with hp|⟨hp,hm⟩
  ·rw[hp] at g7;clear dW hp;go_enter func150,ntmps150;go_wp2_with fail
   refine Vi.mono ?_;rintro e w1 ⟨rfl,h1,k1⟩;simp only[gG];have f8:=h1.free (off+8);have g9:=(et h1 HO.out).2.2.2.2;have H1:=hid (oQ h1 HO.out);have K1:=hid k1;have hl:=h1.lt;clear h1 k1;go_wp2_with fail
   go_region;all_goals
    go_wp2_with fail
    go_ret2;exact⟨rfl,bY H1.out.drew (K1.out.ax _).drew⟩
  ·rw[hm] at dW;clear hm;go_enter func150,ntmps150;go_wp2_with fail
   refine dW.mono ?_;rintro e w1 ⟨rfl,rfl⟩;go_wp2_with fail
   refine Vi.mono ?_;rintro e w1 ⟨rfl,h1,k1⟩;simp only[gG];have f8:=h1.free (off+8);have g9:=(et h1 HO.out).2.2.2.2;have H1:=hid (oQ h1 HO.out);have K1:=hid k1;have hl:=h1.lt;clear h1 k1;go_wp2_with fail
   go_region;all_goals
    go_wp2_with fail
    go_ret2;exact⟨rfl,bY H1.out.drew (K1.out.ax _).drew⟩
theorem PU (b:Nat) (pre post:List Value) (t:TypeId) (r:cA) (x:Int) (w:World) (h:Has w b (pre++r.cells++post) t) (off:Nat) (bK:off=pre.length) (hx:0≤x) (dE:x≤255) (hf:r.Fit):Calls prog 150 #[.pointer (some ⟨b,off,none⟩),.int .u8 x] w fun e w'=>e= .returned (gG (r.step x).2 (r.step x).1.e)∧jk w b pre post t (r.step x).1 w':=by
 by_cases he:r.e=0
 ·rcases hf.pair with hp|⟨hp,_⟩
  ·exact tC b pre post t r x w h off bK hx dE hf he (inl hp)
  ·cases hm:r.may x
   ·exact AM b pre post t r x w h off bK hx dE he (by omega) hm
   ·exact tC b pre post t r x w h off bK hx dE hf he (inr ⟨by omega,hm⟩)
 ·exact AL b pre post t r x w h off bK he
theorem yX (b:Nat) (pre post:List Value) (t:TypeId) (r:cA) (w:World) (h:Has w b (pre++r.cells++post) t) (off:Nat) (bK:off=pre.length):Calls prog 149 #[.pointer (some ⟨b,off,none⟩)] w fun e w'=>e= .returned (.bool r.whole)∧w=w':=by
 obtain⟨g4,g5,g6,g7,g8⟩:=et h bK;have M7:=sY b pre _ t r.c w (h.conv (mL pre post r)) off bK;clear h bK;by_cases h1:r.e=0
 ·by_cases h2:r.state=0
  ·by_cases h3:r.pair=0
   ·have hw:r.whole=r.c.whole:=by simp[cA.whole,h1,h2,h3]
    rw[h1] at g8;rw[h2] at g4;rw[h3] at g7;rw[hw];generalize r.c.whole=cw at M7⊢;clear h1 h2 h3 hw;go_enter func149,ntmps149;go_wp2_with fail
    refine M7.mono ?_;rintro e w1 ⟨rfl,rfl⟩;go_wp2_with fail
    go_ret;exact⟨rfl,rfl⟩
   ·have hw:r.whole=false:=by simp[cA.whole,h3]
    have JI:(r.pair==0)=false:=by simp[h3]
    rw[h1] at g8;rw[h2] at g4;rw[hw];clear h1 h2 h3 hw M7;go_enter func149,ntmps149;go_wp2_with fail
    go_ret;exact⟨rfl,rfl⟩
  ·have hw:r.whole=false:=by simp[cA.whole,h2]
   have uw:(r.state==0)=false:=by simp[h2]
   rw[h1] at g8;rw[hw];clear h1 h2 hw M7;go_enter func149,ntmps149;go_wp2_with fail
   go_ret;exact⟨rfl,rfl⟩
 ·have hw:r.whole=false:=by simp[cA.whole,h1]
  have mx:(r.e==0)=false:=by simp[h1]
  rw[hw];clear h1 hw M7;go_enter func149,ntmps149;go_wp2_with fail
  go_ret;exact⟨rfl,rfl⟩
end Go.Proofs.YthffblhdjjbkaaaGreat
