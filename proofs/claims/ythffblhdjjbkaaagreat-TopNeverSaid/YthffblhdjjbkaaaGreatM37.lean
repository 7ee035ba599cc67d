/- The library's tables; The inside of a JSON string; DecodeRuneInString where a rune of a document stands; strings.IndexRune of a document's two long runes within what escape.Write escapes.; wheel.Wheel -/
import Derived.Test.YthffblhdjjbkaaaGreatM7
import Derived.Test.YthffblhdjjbkaaaGreatM31
import Derived.Test.YthffblhdjjbkaaaGreatM9
import Derived.Test.YthffblhdjjbkaaaGreatM25
set_option maxHeartbeats 100000000
set_option maxRecDepth 1000000
open Go.Lib (hid)
open Go.Proofs.Tryz
open Or (inl inr)
namespace Go.Proofs.YthffblhdjjbkaaaGreat
open Go.RowKit Go.Tru Go.Lib
structure bq where
 pow:Nat→Nat
 first:Nat→Nat
 lo:Nat→Nat
 hi:Nat→Nat
def br:Nat:=3+1+2
structure dt (t:bq) (w:World):Prop where
 pow: ∀i,i<20→w.cell? ⟨3,i,none⟩=some (.int .u64 (t.pow i))
 first: ∀i,i<256→w.cell? ⟨1,i,none⟩=some (.int .u8 (t.first i))∧t.first i<256
 lo: ∀i,i<16→w.cell? ⟨2,i*2,none⟩=some (.int .u8 (t.lo i))∧w.cell? ⟨2,i*2+1,none⟩=some (.int .u8 (t.hi i))
theorem dt.keeps {t:bq} {F:List Nat} {w w':World} (h:dt t w) (k:I F w w') (hF: ∀i∈F,br<i):dt t w':=by
 have h1:3∉F:=fun hm=>by have:=hF _ hm;unfold br at this;omega
 have h2:1∉F:=fun hm=>by have:=hF _ hm;unfold br at this;omega
 have h3:2∉F:=fun hm=>by have:=hF _ hm;unfold br at this;omega
 exact⟨fun i hi=>k.cell (h.pow i hi) h1,fun i hi=>⟨k.cell (h.first i hi).1 h2,(h.first i hi).2⟩,fun i hi=>⟨k.cell (h.lo i hi).1 h3,k.cell (h.lo i hi).2 h3⟩⟩
def bq.nd (t:bq) (u:Nat):Nat:=Lib.l10 (Lib.bitLen u)+(if t.pow (Lib.l10 (Lib.bitLen u))≤u then 1 else 0)
def bq.uint (t:bq) (u:Nat):List UInt8:=if u<100 then Lib.decDigits u else(z8 (t.nd u) u (Array.replicate (t.nd u) 0)).toList
def bq.num (t:bq) (neg:Bool) (m:Int):List UInt8:=if m.toNat<4294967295 then(if neg then 45::t.uint (m.toNat+1) else t.uint m.toNat) else []
theorem yT {u:Nat} (h:u<4294967296):Lib.l10 (Lib.bitLen u)≤9:=by have:=Lib.bitLen_le u 32 (by omega) h;unfold Lib.l10;omega
theorem bq.Dx (t:bq) {u:Nat} (h:u<4294967296):t.nd u≤10:=by have:=yT h;unfold bq.nd;split<;>omega
theorem bq.wk (t:bq) {u:Nat} (h:u<4294967296):(t.uint u).length≤20:=by
 unfold bq.uint;split
 ·rename_i hs;by_cases h0:u=0
  ·subst h0;rw[Lib.decDigits_one (by omega)];simp
  ·rw[Lib.decDigits_length];have:=Lib.numDigits_eq u (by omega) (by omega);split at this<;>omega
 ·have:=t.Dx h;rw[Array.length_toList,sr,Array.size_replicate];omega
theorem bq.Tk (t:bq) (neg:Bool) (m:Int):(t.num neg m).length≤21:=by
 unfold bq.num;split
 ·rename_i h;split
  ·have:=t.wk (u:=m.toNat+1) (by omega);rw[List.length_cons];omega
  ·have:=t.wk (u:=m.toNat) (by omega);omega
 ·simp
end Go.Proofs.YthffblhdjjbkaaaGreat
namespace Go.Proofs.YthffblhdjjbkaaaGreat
open Go.RowKit Go.Tru
def bq.zv (t:bq) (n:Nat):Nat:=
 if 240≤t.first 195 then 1 else if n<t.first 195 % 8 then 1 else if 169<t.lo (t.first 195/16)∨t.hi (t.first 195/16)<169 then 1
 else if t.first 195 % 8≤2 then 2 else 1
def bq.zw (t:bq) (n:Nat):Nat:=
 if 240≤t.first 240 then 1 else if n<t.first 240 % 8 then 1 else if 157<t.lo (t.first 240/16)∨t.hi (t.first 240/16)<157 then 1
 else if t.first 240 % 8≤2 then 2 else if t.first 240 % 8≤3 then 3 else 4
def S0 (b:UInt8):List UInt8:=
 if b=34 then [92,34] else if b=92 then [92,92] else if b=10 then [92,110] else if b=1 then [92,117,48,48,48,49] else [b]
def bq.ek (t:bq):Nat→List UInt8→List UInt8
 |0,_=>[]
 |_,[]=>[]
 |n+1,b::r=>
  if b=195 then(b::r).take (t.zv (r.length+1))++bq.ek t n (r.drop 1)
  else if b=240 then(b::r).take (t.zw (r.length+1))++bq.ek t n (r.drop 3)
  else S0 b++bq.ek t n r
def bq.RC (t:bq) (l:List UInt8):List UInt8:=t.ek l.length l
def bq.pr (t:bq):Pr:=⟨t.num,t.RC⟩
theorem bq.Jz (t:bq) (n:Nat):t.zv n≤2:=by
 unfold bq.zv;repeat' split
 all_goals omega
theorem bq.JA (t:bq) (n:Nat):t.zw n≤4:=by
 unfold bq.zw;repeat' split
 all_goals omega
theorem Pn (b:UInt8):(S0 b).length≤6:=by
 unfold S0;repeat' split
 all_goals simp
theorem bq.mI (t:bq): ∀ (n:Nat) (l:List UInt8),(t.ek n l).length≤6*l.length
 |0,_=>by simp[bq.ek]
 |_+1,[]=>by simp[bq.ek]
 |n+1,b::r=>by
  have h2:=t.Jz (r.length+1);have h4:=t.JA (r.length+1);have hb:=Pn b;have i1:=bq.mI t n (r.drop 1);have i2:=bq.mI t n (r.drop 3);have i3:=bq.mI t n r;rw[List.length_drop] at i1 i2;unfold bq.ek;split
  ·simp only[List.length_append,List.length_take,List.length_cons];omega
  ·split
   ·simp only[List.length_append,List.length_take,List.length_cons];omega
   ·simp only[List.length_append,List.length_cons];omega
theorem bq.ou (t:bq):t.pr.Small:=⟨fun n m=>Nat.le_trans (t.Tk n m) (by decide),fun l=>t.mI _ l⟩
theorem tu {n:Nat} {b:UInt8} {r:List UInt8} (h:eh (n+1) (b::r)=true):(b=195∧∃r2,r=169::r2∧eh n r2=true)∨(b=240∧∃r2,r=157::132::158::r2∧eh n r2=true)∨((b=97∨b=34∨b=92∨b=10∨b=1∨b=122)∧eh n r=true):=by
 unfold eh at h;by_cases h1:b=195
 ·rw[if_pos h1,Bool.and_eq_true,decide_eq_true_eq] at h;left;refine⟨h1,?_⟩;cases r with
  |nil=>simp at h
  |cons a r2=>obtain⟨h2,h3⟩:=h;simp only[List.take_succ_cons,List.take_zero,List.cons.injEq,and_true] at h2;exact⟨r2,by rw[h2],by simpa using h3⟩
 rw[if_neg h1] at h;by_cases h2:b=240
 ·rw[if_pos h2,Bool.and_eq_true,decide_eq_true_eq] at h;right;left;refine⟨h2,?_⟩;obtain⟨h3,h4⟩:=h;match r,h3,h4 with
  | [],h3,_=>simp at h3
  | [a],h3,_=>simp at h3
  | [a,c],h3,_=>simp at h3
  |a::c::d::r2,h3,h4=>simp only[List.take_succ_cons,List.take_zero,List.cons.injEq,and_true] at h3;obtain⟨rfl,rfl,rfl⟩:=h3;exact⟨r2,rfl,by simpa using h4⟩
 rw[if_neg h2,Bool.and_eq_true,decide_eq_true_eq] at h;exact inr (inr h)
theorem wm {n:Nat} {r:List UInt8} (h:eh n r=true): ∀x,r.head?=some x→x.toNat<128∨191<x.toNat:=by
 intro x hx;cases r with
 |nil=>cases hx
 |cons b r=>
  obtain rfl:b=x:=by simpa using hx
  cases n with
  |zero=>cases h
  |succ n=>rcases tu h with⟨rfl,-⟩|⟨rfl,-⟩|⟨rfl|rfl|rfl|rfl|rfl|rfl,-⟩;all_goals decide
theorem byte_at {s:ByteArray} {l:List UInt8} (hs:s.data.toList=l) (i:Nat) (x:UInt8) (hx:l[i]? =some x) (k:IntKind) (W:World):(Instr.index 9 (.string s) (.int k (i:Int))).run prog W= .ok (.int .u8 (x.toNat:Int)) W:=by
 have hi:i<s.size:=by have h1:i<l.length:=(List.getElem?_eq_some_iff.1 hx).1;rw[←hs,Array.length_toList] at h1;exact h1
 rw[run_index_string W 9 s k _ underlying9,dif_pos ⟨by omega,by omega⟩];have e:((i:Int)).toNat=i:=by omega
 simp only[e];rw[Lib.getD_at s i hi,List.getD,hs,hx];rfl
theorem adp (x:Nat) (h:x<256):bits .and .u8 (x:Int) 7=((x % 8:Nat):Int):=by
 have kA: ∀x:Nat,x<256→bits .and .u8 (x:Int) 7=((x % 8:Nat):Int):=by decide+kernel
 exact kA x h
open Go.K0 in
theorem Kx (t:bq) (s:ByteArray) (r:List UInt8) (hs:s.data.toList=195::169::r) (hr: ∀x,r.head?=some x→x.toNat<128∨191<x.toNat) (hl:r.length≤1000) (w:World) (h:dt t w):Calls prog 215 #[.string s] w fun e w'=>(∃v:Int,e= .returned (.tuple #[.int .i32 v,.int .i64 (t.zv (r.length+2))]))∧I [] w w':=q10
open Go.K0 in
theorem Po (t:bq) (s:ByteArray) (r:List UInt8) (hs:s.data.toList=195::169::r) (hr: ∀x,r.head?=some x→x.toNat<128∨191<x.toNat) (hl:r.length≤1000) (w:World) (h:dt t w):Calls prog 211 #[.string s] w fun e w'=>(∃v:Int,e= .returned (.tuple #[.int .i32 v,.int .i64 (t.zv (r.length+2))]))∧I [] w w':=q34
open Go.K1 in
theorem Ky (t:bq) (s:ByteArray) (r:List UInt8) (hs:s.data.toList=240::157::132::158::r) (w:World) (h:dt t w):Calls prog 215 #[.string s] w fun e w'=>(∃v:Int,e= .returned (.tuple #[.int .i32 v,.int .i64 (t.zw (r.length+4))]))∧I [] w w':=q10
open Go.K1 in
theorem Pp (t:bq) (s:ByteArray) (r:List UInt8) (hs:s.data.toList=240::157::132::158::r) (w:World) (h:dt t w):Calls prog 211 #[.string s] w fun e w'=>(∃v:Int,e= .returned (.tuple #[.int .i32 v,.int .i64 (t.zw (r.length+4))]))∧I [] w w':=q34
theorem Tl (W:World):(convert 21 9 (.int .i32 233)).run prog W= .ok (.string ⟨#[195,169]⟩) W:=by simp only[convert,Sem.run_bind,run_underlying underlying21,run_underlying underlying9,Result.andThen_ok,Conv.intToString];rfl
theorem WQ (w:World):Calls prog 212 #[.string ⟨#[34,92,8,12,10,13,9]⟩,.int .i32 233] w fun e w'=>e= .returned (.int .i64 (-1))∧I [] w w':=by
 have tQ:=Tl;have WR: ∀W,Calls prog 152 #[.string ⟨#[8,12,10,13,9]⟩,.int .u8 169] W fun e w'=>e= .returned (.int .i64 (-1))∧w'=W:=fun W=>(Tryz.strings_IndexByte ⟨#[8,12,10,13,9]⟩ 169 W).mono (by rintro e w' ⟨rfl,rfl⟩;exact⟨by rfl,rfl⟩)
 have Ae: ∀W,(Instr.index 9 (.string ⟨#[34,92,8,12,10,13,9]⟩) (.int .i64 1)).run prog W= .ok (.int .u8 92) W:=fun W=>byte_at (s:=⟨#[34,92,8,12,10,13,9]⟩) rfl 1 92 rfl .i64 W;have Dy: ∀W,(Instr.index 9 (.string ⟨#[195,169]⟩) (.int .i64 1)).run prog W= .ok (.int .u8 169) W:=fun W=>byte_at (s:=⟨#[195,169]⟩) rfl 1 169 rfl .i64 W;have Af: ∀W,(Instr.slice 9 (.string ⟨#[34,92,8,12,10,13,9]⟩) (some (.int .i64 2)) none none).run prog W= .ok (.string ⟨#[8,12,10,13,9]⟩) W:=fun W=>by rw[run_slice_string_from_if W 9 ⟨#[34,92,8,12,10,13,9]⟩ .i64 2 underlying9];rfl
 have Tm:IntKind.i64.wrap 2=2:=by rfl
 have WR:=hid WR;go_enter func212,ntmps212;go_wp2_with (go_at_call 216;refine(Tryz.utf8_ValidRune _ _).mono ?_;rintro e w' ⟨rfl,hw'⟩;obtain rfl:w=w':=hw'.symm)
 go_step3;go_wp2_with fail
 go_loopw [9] (fun v9 wr=>v9= .int .i64 1∧wr=w) (fun _ _=>0);case atStart=>exact⟨rfl,rfl⟩
 case round=>
  obtain⟨rfl,rfl⟩:=hrel;go_wp2_with fail
  go_step3;go_wp2_with fail
  go_quiet (fail)
  go_wp2_with fail
  go_quiet ((refine(WR.out _).mono ?_;rintro e w' ⟨rfl,rfl⟩;exact⟨rfl,_,rfl⟩))
  go_wp2_with fail
  dsimp (config:={zetaDelta:=true}) only[Exit.noGoto_ret,Exit.inBlock,Exit.then];go_ret;exact⟨rfl,(I.refl _ _).drewN _⟩
theorem Lt (W:World):(convert 21 9 (.int .i32 119070)).run prog W= .ok (.string ⟨#[240,157,132,158]⟩) W:=by simp only[convert,Sem.run_bind,run_underlying underlying21,run_underlying underlying9,Result.andThen_ok,Conv.intToString];rfl
theorem Pq (w:World):Calls prog 212 #[.string ⟨#[34,92,8,12,10,13,9]⟩,.int .i32 119070] w fun e w'=>e= .returned (.int .i64 (-1))∧I [] w w':=by
 have tQ:=Lt;have WR: ∀W,Calls prog 152 #[.string ⟨#[10,13,9]⟩,.int .u8 158] W fun e w'=>e= .returned (.int .i64 (-1))∧w'=W:=fun W=>(Tryz.strings_IndexByte ⟨#[10,13,9]⟩ 158 W).mono (by rintro e w' ⟨rfl,rfl⟩;exact⟨by rfl,rfl⟩)
 have Ae: ∀W,(Instr.index 9 (.string ⟨#[34,92,8,12,10,13,9]⟩) (.int .i64 3)).run prog W= .ok (.int .u8 12) W:=fun W=>byte_at (s:=⟨#[34,92,8,12,10,13,9]⟩) rfl 3 12 rfl .i64 W;have Dy: ∀W,(Instr.index 9 (.string ⟨#[240,157,132,158]⟩) (.int .i64 3)).run prog W= .ok (.int .u8 158) W:=fun W=>byte_at (s:=⟨#[240,157,132,158]⟩) rfl 3 158 rfl .i64 W;have Af: ∀W,(Instr.slice 9 (.string ⟨#[34,92,8,12,10,13,9]⟩) (some (.int .i64 4)) none none).run prog W= .ok (.string ⟨#[10,13,9]⟩) W:=fun W=>by rw[run_slice_string_from_if W 9 ⟨#[34,92,8,12,10,13,9]⟩ .i64 4 underlying9];rfl
 have Tm:IntKind.i64.wrap 4=4:=by rfl
 have WR:=hid WR;go_enter func212,ntmps212;go_wp2_with (go_at_call 216;refine(Tryz.utf8_ValidRune _ _).mono ?_;rintro e w' ⟨rfl,hw'⟩;obtain rfl:w=w':=hw'.symm)
 go_step3;go_wp2_with fail
 go_loopw [9] (fun v9 wr=>v9= .int .i64 3∧wr=w) (fun _ _=>0);case atStart=>exact⟨rfl,rfl⟩
 case round=>
  obtain⟨rfl,rfl⟩:=hrel;go_wp2_with fail
  go_step3;go_wp2_with fail
  go_quiet (fail)
  go_wp2_with fail
  go_quiet ((refine(WR.out _).mono ?_;rintro e w' ⟨rfl,rfl⟩;exact⟨rfl,_,rfl⟩))
  go_wp2_with fail
  dsimp (config:={zetaDelta:=true}) only[Exit.noGoto_ret,Exit.inBlock,Exit.then];go_ret;exact⟨rfl,(I.refl _ _).drewN _⟩
end Go.Proofs.YthffblhdjjbkaaaGreat
namespace Go.Tru
open Go.RowKit
def dB (w:World) (v:Value) (l:List Int):Prop:=w.ownsRow 0 3 1 v l.length (fe l)
theorem dB.nil (w:World):dB w (.slice none 0 0) []:=World.ownsRow_nil _ _ _ _
theorem dB.shape {w:World} {v:Value} {l:List Int} (h:dB w v l): ∃a c,v= .slice a l.length c:=by
 rcases h.2 with⟨h1,h2⟩|⟨g,cap,cur,h1,_⟩
 ·exact⟨none,0,by rw[h1,h2]⟩
 ·exact⟨_,_,h1⟩
theorem dB.at_ {w:World} {v:Value} {l:List Int} (h:dB w v l) {i:Nat} {x:Int} (hx:l[i]? =some x): ∃g c,v= .slice (some ⟨g,0,none⟩) l.length c∧g<w.heap.size∧w.cell? ⟨g,i,none⟩=some (.int .i64 x)∧l.length≤c∧c≤maxLen:=by
 have hi:=(List.getElem?_eq_some_iff.1 hx).1;rcases h.2 with⟨_,h2⟩|⟨g,cap,cur,rfl,hb,hg,hn,hm,hr⟩
 ·omega
 ·refine⟨g,cap,rfl,lt_of_block hg,?_,hn,hm⟩;rw[World.ownsRow.cellAt h _ (by omega),fe,List.getElem?_map,hx];rfl
structure rC (w:World) (b n:Nat) (v:Value) (l:List Int):Prop where
 az:Has w b [.int .i64 n,v] 101
 row:dB w v l
 own:b∉ae v
 len:l.length≤100
theorem rC.keeps {F:List Nat} {w w':World} {b n:Nat} {v:Value} {l:List Int} (h:rC w b n v l) (k:I F w w') (hb:b∉F) (hF: ∀i∈ae v,i∉F):rC w' b n v l:=⟨h.az.keeps k hb,ab h.row k (fun i hi=>hF i (aa.2 hi)),h.own,h.len⟩
theorem I.setCells {F:List Nat} {a:World} {g:Nat} (hg:g∈F∨a.heap.size≤g): ∀ (vs:List Value) (o:Nat) (w:World),I F a w→I F a (w.setCells g o vs)
 | [],_,_,h=>h
 |u::r,o,_,h=>I.setCells hg r (o+1) _ (h.setCell (p:=⟨g,o,none⟩) hg u)
theorem pF {g:Nat} {e:TypeId}: ∀ (vs:List Value) (o:Nat) (w:World) (cur:Array Value),w.heap[g]? =some (.cells cur e (0,0))→o+vs.length≤cur.size→∃Qx,(w.setCells g o vs).heap[g]? =some (.cells Qx e (0,0))∧Qx.size=cur.size∧Qx.toList=cur.toList.take o++vs++cur.toList.drop (o+vs.length)
 | [],o,w,cur,h,_=>⟨cur,h,rfl,by simp⟩
 |u::r,o,w,cur,h,hl=>by
  simp only[List.length_cons] at hl;obtain⟨c',h1,h2,h3⟩:=pF r (o+1) (w.setCell ⟨g,o,none⟩ u) (cur.setIfInBounds o u) (heap_setCell_same w g o cur e u h) (by simp;omega);refine⟨c',h1,by simpa using h2,?_⟩;rw[h3,Array.toList_setIfInBounds];have ho:o<cur.toList.length:=by rw[Array.length_toList];omega
  rw[List.take_set,List.drop_set,if_pos (by omega),List.take_succ_eq_append_getElem ho,List.set_append_right _ _ (by simp;omega)];have:(cur.toList.take o).length=o:=by rw[List.length_take];omega
  rw[this,Nat.sub_self];simp only[List.set_cons_zero,List.append_assoc,List.length_cons,List.cons_append,List.nil_append];rw[show o+1+r.length=o+(r.length+1) by omega]
theorem lp (a:Option Addr) (n c n' c':Nat):ae (.slice a n c)=ae (.slice a n' c'):=by cases a<;>rfl
def My (l:List Int) (x:Int):Int:=match l.findIdx? (fun y=>decide (x=y)) with|none=> -1|some i=>i
end Go.Tru
namespace Go.Proofs.YthffblhdjjbkaaaGreat
open Go.RowKit Go.Tru
theorem Mz (n:Nat) (hn:n≤100) (w:World):Calls prog 28 #[.int .i64 n] w fun e w'=>∃b,e= .returned (.pointer (some ⟨b,0,none⟩))∧rC w' b n (.slice none 0 0) []∧I [] w w'∧w.heap.size≤b:=by
 have h1:(0:Int)≤(n:Int):=by omega
 have h2:(n:Int)≤100:=by omega
 by_cases h0:n=0
 ·subst h0;go_enter func28,ntmps28;go_wp2_with fail
  all_goals go_ret;exact⟨_,rfl,⟨Has.new w _ _,dB.nil _,by simp[aR],by simp⟩,(I.refl _ _).alloc _,Nat.le_refl _⟩
 ·have h3: ¬ (n:Int)≤0:=by omega
  have hmn:min (n:Int) 100=(n:Int):=by omega
  have h4: ¬ (0:Int)≥(n:Int):=by omega
  go_enter func28,ntmps28;go_wp2_with fail
  all_goals go_ret;exact⟨_,rfl,⟨Has.new w _ _,dB.nil _,by simp[aR],by simp⟩,(I.refl _ _).alloc _,Nat.le_refl _⟩
def XK (l:List Int) (x:Int) (w:World) (i:Value) (wr:World):Prop:=
 ∃k:Nat,k≤l.length∧i= .int .i64 k∧(∀j y,j<k→l[j]? =some y→¬x=y)∧wr=w
theorem _root_.Go.Tru.y8 {l:List Int} {x:Int} (h: ∀j y,j<l.length→l[j]? =some y→¬x=y):My l x= -1:=by
 unfold My;have:l.findIdx? (fun y=>decide (x=y))=none:=by rw[List.findIdx?_eq_none_iff];intro y hy;obtain⟨j,hj,rfl⟩:=List.mem_iff_getElem.1 hy;simpa using h j _ hj (List.getElem?_eq_getElem hj)
 rw[this]
theorem _root_.Go.Tru.y9 {l:List Int} {x:Int} {k:Nat} (hk:l[k]? =some x) (h: ∀j y,j<k→l[j]? =some y→¬x=y):My l x=k:=by
 unfold My;obtain⟨dU,iA⟩:=List.getElem?_eq_some_iff.1 hk;have:l.findIdx? (fun y=>decide (x=y))=some k:=by rw[List.findIdx?_eq_some_iff_getElem];refine⟨dU,by simp[iA],fun j hj=> ?_⟩;simpa using h j _ hj (List.getElem?_eq_getElem (by omega))
 rw[this]
theorem tH (w:World) (v:Value) (l:List Int) (h:dB w v l) (x:Int) (hl:l.length≤100):Calls prog 77 #[v,.int .i64 x] w fun e w'=>e= .returned (.int .i64 (My l x))∧w=w':=by
 obtain⟨a,c,rfl⟩:=h.shape;have H:=hid h;clear h;go_enter func77,ntmps77;go_wp2_with fail
 go_loopw [8] (fun i wr=>XK l x w i wr) (fun i _=>l.length- (intOf i).toNat);case atStart=>exact⟨0,Nat.zero_le _,rfl,fun j y hj=>absurd hj (by omega),rfl⟩
 case round=>
  obtain⟨k,hk,rfl,ui,rfl⟩:=hrel;by_cases dD:k<l.length
  ·have xw:(k:Int)<(l.length:Int):=by omega
   have BH:(0:Int)≤(k:Int):=by omega
   obtain⟨y,hy⟩: ∃y,l[k]=y:=⟨_,rfl⟩
   have Vv:l[k]? =some y:=by rw[List.getElem?_eq_getElem dD,hy]
   obtain⟨g,c',hv,hgl,cg,-,-⟩:=H.out.at_ Vv;injection hv with iR jz WS;subst iR WS;have FC:=hid ui;have XL:=hid Vv;clear ui Vv hy;by_cases RD:x=y
   ·have hb:(x==y)=true:=by simp[RD]
    subst RD;go_wp2_with fail
    go_ret;exact⟨by rw[y9 XL.out FC.out];rfl,rfl⟩
   ·have hb:(x==y)=false:=by simp[RD]
    go_wp2_with fail
    go_roundw;case rel=>
     refine⟨k+1,by omega,by go_num,fun j z hj hz=> ?_,rfl⟩;by_cases Vw:j=k
     ·subst Vw;rw[XL.out] at hz;injection hz with hz;exact hz▸RD
     ·exact FC.out j z (by omega) hz
    case measure=>simp[intOf];omega
  ·obtain rfl:k=l.length:=by omega
   have xw: ¬ ((l.length:Nat):Int)<(l.length:Int):=by omega
   have FC:=hid ui;clear ui;go_wp2_with fail
   go_ret;exact⟨by rw[y8 FC.out];rfl,rfl⟩
theorem wZ (w:World) (v:Value) (l:List Int) (h:dB w v l) (x:Int) (hl:l.length≤100):Calls prog 65 #[v,.int .i64 x] w fun e w'=>e= .returned (.bool (decide (0≤My l x)))∧w=w':=by
 have HI:=hid (tH w v l h x hl);obtain⟨a,c,rfl⟩:=h.shape;clear h;go_enter func65,ntmps65;go_wp2_with fail
 refine HI.out.mono ?_;rintro e w1 ⟨rfl,rfl⟩;go_wp2_with fail
 go_ret;exact⟨rfl,rfl⟩
theorem Bu (w:World) (v:Value) (l:List Int) (h:dB w v l) (i:Nat) (hi:i<l.length) (hl:l.length≤100):Calls prog 78 #[v,.int .i64 i,.int .i64 ((i+1:Nat):Int)] w fun e w'=>∃a c,v= .slice a l.length c∧e= .returned (.slice a (l.length-1) c)∧dB w' (.slice a (l.length-1) c) (l.eraseIdx i)∧I (ae v) w w':=by
 rcases h.2 with⟨_,h2⟩|⟨g,cap,cur,rfl,hb,hg,hn,hm,hs,ht⟩
 ·omega
 ·have nW: ∀j,j<l.length→w.cell? ⟨g,0+j,none⟩=some (.int .i64 (l.getD j 0)):=fun j hj=>by obtain⟨g',c',hv,-,cg,-,-⟩:=h.at_ (List.getElem?_eq_getElem hj);injection hv with hv;injection hv with hv;injection hv with hv;subst hv;rw[Nat.zero_add,cg];simp[List.getD,hj]
  refine(Go.Proofs.Tryz.slices_Delete_int_cells g 0 l.length cap i (i+1) l w (Nat.le_refl _) hn (by unfold maxLen at hm;omega) (by omega) hi nW (fun j _=>by simp[World.frozen?,hg])).mono ?_;rintro e w' ⟨rfl,q,rfl⟩;rw[List.take_length,show i+1-i=1 by omega];have hlen:((l.take i++l.drop (i+1)++List.replicate 1 (0:Int)).map (Value.int .i64)).length=l.length:=by simp;omega
  obtain⟨Qx,g1,g2,g3⟩:=pF ((l.take i++l.drop (i+1)++List.replicate 1 (0:Int)).map (Value.int .i64)) 0 (w.drewN q) cur hg (by rw[hlen,hs];omega);have hel:(l.eraseIdx i).length=l.length-1:=by rw[List.length_eraseIdx_of_lt hi]
  refine⟨_,_,rfl,rfl,?_,I.setCells (inl (aa.2 rfl)) _ _ _ ((I.refl _ _).drewN q)⟩;unfold dB;rw[hel];refine⟨by simp[fe,hel],inr ⟨g,cap,Qx,rfl,Nat.zero_le _,g1,by omega,hm,by rw[g2,hs],?_⟩⟩;rw[g3,List.take_zero,List.nil_append,Nat.mul_one,List.map_append,List.append_assoc,List.take_append_of_le_length (by simp;omega),List.take_of_length_le (by simp;omega),List.eraseIdx_eq_take_drop_succ];rfl
theorem rD (w:World) (b n:Nat) (v:Value) (l:List Int) (h:rC w b n v l) (i:Nat) (x:Int) (hx:l[i]? =some x) (ui: ∀j y,j<i→l[j]? =some y→¬x=y):Calls prog 51 #[.pointer (some ⟨b,0,none⟩),.int .i64 x] w fun e w'=>e= .returned (.bool true)∧∃v',rC w' b n v' (l.eraseIdx i)∧I (b::ae v) w w'∧∀i∈ae v',i∈ae v:=by
 have hi:=(List.getElem?_eq_some_iff.1 hx).1;have hlen:=h.len;have HI:=hid (tH w v l h.row x hlen);rw[y9 hx ui] at HI;have HD:=hid (Bu w v l h.row i hi hlen);obtain⟨a,c,rfl⟩:=h.row.shape;have c1:w.cell? ⟨b,1,none⟩=some (.slice a l.length c):=h.az.cell 1;have bP:=h.az.lt;have S6: ¬ (i:Int)<0:=by omega
 have eK:=da (x:=(i:Int)+1) (by omega);have H:=hid h;clear h hx ui;go_enter func51,ntmps51;go_wp2_with fail
 refine HI.out.mono ?_;rintro e w1 ⟨rfl,rfl⟩;go_wp2_with fail
 refine HD.out.mono ?_;rintro e w2 ⟨a',c',hv,rfl,au,k2⟩;injection hv with iR jz WS;subst iR WS;have fT:=H.out.az.keeps k2 H.out.own;have f1:=fT.free 1;have YT:w2.cell? ⟨b,1,none⟩=some (.slice a l.length c):=fT.cell 1;have HO:=hid au;have HB:=hid fT;have HK:=hid k2;clear c1 au fT k2;go_wp2_with fail
 go_ret;refine⟨rfl,.slice a (l.length-1) c,⟨(HB.out.set 1 _).conv rfl,ab HO.out ((I.refl [b] _).ax _) (fun i hi hm=> ?_),?_,?_⟩,(HK.out.mono mc).setCell (p:=⟨b,1,none⟩) (inl (by simp)) _,fun i hi=>by rw[lp a l.length c (l.length-1) c];exact hi⟩
 ·rw[List.mem_singleton] at hm;have h2:=aa.2 hi;rw[lp a _ _ l.length c] at h2;exact H.out.own (hm▸h2)
 ·rw[lp a _ _ l.length c];exact H.out.own
 ·rw[List.length_eraseIdx];split<;>omega
theorem MA:(Tryz.prog.info? 3).map (fun i=>(i.zero,i.size,i.bytes))=some (some (.int .i64 0),1,8):=by kernel_rfl
theorem Bv {ops:Array Oper} {rest:List Oper} {o:Oper} {a:Act} {w:World} {Q:Exit→Act→World→Prop} (sU:o.guard=none) (s x:Operand) (ho:o.op= .call {callee:= .builtin .append,args:= #[s,x],argTypes:= #[22,22]}) (v:Value) (l:List Int) (hs:a.eval s=v) (au:dB w v l) (ad:Addr) (y:Int) (hx:a.eval x= .slice (some ad) 1 1) (aJ:w.cell? (ad.add 0)=some (.int .i64 y)) (hlen:l.length≤1000000) (h: ∀v' w',dB w' v' (l++[y])→I (ae v) w w'→(v'.ownBlock=v.ownBlock∨v'.ownBlock=some w.heap.size)→wpList prog ops Q rest (a.put o.dst v') w'):wpList prog ops Q (o::rest) a w:=by
 obtain⟨i0,hi,ko,gv,gW⟩:=info_parts MA;refine wpList_append_own_at w sU s x 22 ho 0 3 i0 (.int .i64 0) 1 8 underlying22 hi ko gv gW rfl (by decide) v l.length (fe l) hs au ad 1 1 [.int .i64 y] hx rfl (fun j u hu=>by
  cases j with
  |zero=>simp only[List.getElem?_cons_zero,Option.some.injEq] at hu;rw[←hu];exact aJ
  |succ j=>simp at hu) (by simp[Value.oneCell']) (by unfold maxLen;omega) (by omega) (Nat.zero_le _) ?_
 intro v' w' h2 h3 _ h5;refine h v' w' ?_ (cD h3) h5;unfold dB fe;rw[List.length_append,List.map_append];exact h2
theorem MB (w:World) (b n:Nat) (v:Value) (l:List Int) (h:rC w b n v l) (x:Nat) (hx:x<n) (ui: ∀j y,j<l.length→l[j]? =some y→¬ (x:Int)=y) (hl:l.length≤99):Calls prog 34 #[.pointer (some ⟨b,0,none⟩),.int .i64 x] w fun e w'=>e= .returned (.bool true)∧∃v',rC w' b n v' (l++[(x:Int)])∧I (b::ae v) w w'∧∀i∈ae v',i∈ae v∨w.heap.size≤i:=by
 have HC:=hid (wZ w v l h.row x (by omega));rw[y8 ui] at HC;obtain⟨a,c,rfl⟩:=h.row.shape;have c0:w.cell? ⟨b,0,none⟩=some (.int .i64 n):=h.az.cell 0;have c1:w.cell? ⟨b,1,none⟩=some (.slice a l.length c):=h.az.cell 1;have bP:=h.az.lt;have cy: ¬ (x:Int)<0:=by omega
 have cQ: ¬ (n:Int)≤(x:Int):=by omega
 have H:=hid h;clear h ui;go_enter func34,ntmps34;go_wp2_with fail
 refine HC.out.mono ?_;rintro e w1 ⟨rfl,rfl⟩;go_wp2_with (at_builtin;go_must (refine Bv rfl _ _ rfl _ l rfl (ab H.out.row ((I.refl [] _).alloc _) (by simp)) ⟨_,0,none⟩ x rfl (aA [.int .i64 (x:Int)] (by simp) 0 _ rfl) (by omega) ?_))
 intro v4 w4 dx re nK;obtain⟨a4,c4,tx⟩:=dx.shape;obtain⟨N,hN⟩: ∃N,(l++[(x:Int)]).length=N:=⟨_,rfl⟩
 rw[hN] at tx;subst tx;have uJ:=((I.refl (ae (.slice a l.length c)) w).alloc (.cells #[.int .i64 x] 3)).trans re;have xa:=H.out.az.keeps uJ H.out.own;have pK:=xa.lt;have f1:=xa.free 1;have YT:w4.cell? ⟨b,1,none⟩=some (.slice a l.length c):=xa.cell 1;have ef: ∀i∈ae (.slice a4 N c4),i∈ae (.slice a l.length c)∨w.heap.size≤i:=fun i hi=>by
  rw[aa] at hi⊢;rcases nK with h1|h1
  ·exact inl (h1▸hi)
  ·rw[h1] at hi;injection hi with hi;right;first|omega|(simp at hi;omega)
 have Ci:b∉ae (.slice a4 N c4):=fun hm=>by
  rcases ef b hm with h1|h1
  ·exact H.out.own h1
  ·omega
 have HO:=hid dx;have HB:=hid xa;have HK:=hid uJ;have T3:=hid Ci;have nI:=hid ef;clear c0 c1 dx re nK uJ xa ef Ci hN;go_wp2_with fail
 go_ret;refine⟨rfl,.slice a4 N c4,⟨(HB.out.set 1 _).conv rfl,ab HO.out ((I.refl [b] _).ax _) (fun i hi hm=> ?_),T3.out,by simp;omega⟩,(HK.out.mono mc).setCell (p:=⟨b,1,none⟩) (inl (by simp)) _,nI.out⟩;rw[List.mem_singleton] at hm;exact T3.out (aa.2 (by subst hm;exact hi))
def _root_.Go.Tru.fA (w:World) (v:Value) (l:List Bool):Prop:=w.ownsRow 0 4 1 v l.length (fR l)
theorem _root_.Go.Tru.fA.shape {w:World} {v:Value} {l:List Bool} (h:fA w v l): ∃a c,v= .slice a l.length c:=by
 rcases h.2 with⟨h1,h2⟩|⟨g,cap,cur,h1,_⟩
 ·exact⟨none,0,by rw[h1,h2]⟩
 ·exact⟨_,_,h1⟩
theorem _root_.Go.Tru.fA.at_ {w:World} {v:Value} {l:List Bool} (h:fA w v l) {i:Nat} {x:Bool} (hx:l[i]? =some x): ∃g c,v= .slice (some ⟨g,0,none⟩) l.length c∧w.cell? ⟨g,i,none⟩=some (.bool x):=by
 have hi:=(List.getElem?_eq_some_iff.1 hx).1;rcases h.2 with⟨_,h2⟩|⟨g,cap,cur,rfl,hb,hg,hn,hm,hr⟩
 ·omega
 ·refine⟨g,cap,rfl,?_⟩;rw[World.ownsRow.cellAt h _ (by omega),fR,List.getElem?_map,hx];rfl
def _root_.Go.Tru.mi (l:List Int) (ready:List Bool):Option Nat:=l.findIdx? (fun x=>ready.getD x.toNat false)
def aaF (l:List Int) (ready:List Bool) (w:World) (i:Value) (wr:World):Prop:=
 ∃k:Nat,k≤l.length∧i= .int .i64 k∧(∀j y,j<k→l[j]? =some y→ready.getD y.toNat false=false)∧wr=w
theorem _root_.Go.Tru.MC {l:List Int} {ready:List Bool} (h: ∀j y,j<l.length→l[j]? =some y→ready.getD y.toNat false=false):mi l ready=none:=by unfold mi;rw[List.findIdx?_eq_none_iff];intro y hy;obtain⟨j,hj,rfl⟩:=List.mem_iff_getElem.1 hy;exact h j _ hj (List.getElem?_eq_getElem hj)
theorem _root_.Go.Tru.MD {l:List Int} {ready:List Bool} {k:Nat} {x:Int} (hk:l[k]? =some x) (hr:ready.getD x.toNat false=true) (h: ∀j y,j<k→l[j]? =some y→ready.getD y.toNat false=false):mi l ready=some k:=by unfold mi;obtain⟨dU,iA⟩:=List.getElem?_eq_some_iff.1 hk;rw[List.findIdx?_eq_some_iff_getElem];refine⟨dU,by rw[iA];exact hr,fun j hj=> ?_⟩;rw[h j _ hj (List.getElem?_eq_getElem (by omega))];simp
def XM (w:World) (b n:Nat) (v:Value) (l:List Int) (ready:List Bool) (e:Ending) (w':World):Prop:=
 (mi l ready=none∧e= .returned (.tuple #[.int .i64 0,.bool false])∧w=w')∨
 ∃k x,mi l ready=some k∧l[k]? =some x∧e= .returned (.tuple #[.int .i64 x,.bool true])∧∃v',rC w' b n v' (l.eraseIdx k++[x])∧I (b::ae v) w w'∧∀i∈ae v',i∈ae v∨w.heap.size≤i
theorem IL (w:World) (b n:Nat) (v:Value) (l:List Int) (h:rC w b n v l) (rv:Value) (ready:List Bool) (hr:fA w rv ready) (sK: ∀x∈l,0≤x∧x<ready.length) (_:ready.length≤8) (FB:l.length≤8) (Nk:b∉ae rv) (hnv: ∀i∈ae v,i∉ae rv):Calls prog 42 #[.pointer (some ⟨b,0,none⟩),rv] w (XM w b n v l ready):=by
 obtain⟨a,c,rfl⟩:=h.row.shape;obtain⟨ra,rc,rfl⟩:=hr.shape;have c1:w.cell? ⟨b,1,none⟩=some (.slice a l.length c):=h.az.cell 1;have bP:=h.az.lt;have H:=hid h;have HR:=hid hr;have HID:=hid sK;clear h hr sK;go_enter func42,ntmps42;go_wp2_with fail
 go_loopw [15] (fun i wr=>aaF l ready w i wr) (fun i _=>l.length- (intOf i).toNat);case atStart=>exact⟨0,Nat.zero_le _,rfl,fun j y hj=>absurd hj (by omega),rfl⟩
 case round=>
  obtain⟨k,hk,rfl,ui,rfl⟩:=hrel;by_cases dD:k<l.length
  ·have xw:(k:Int)<(l.length:Int):=by omega
   have BH:(0:Int)≤(k:Int):=by omega
   obtain⟨y,hy⟩: ∃y,l[k]=y:=⟨_,rfl⟩
   have Vv:l[k]? =some y:=by rw[List.getElem?_eq_getElem dD,hy]
   obtain⟨hy0,hy1⟩:=HID.out y (List.mem_of_getElem? Vv);obtain⟨g,c',hv,hgl,cg,-,-⟩:=H.out.row.at_ Vv;injection hv with iR jz WS;subst iR WS;obtain⟨yn,rfl⟩: ∃yn:Nat,y=yn:=⟨y.toNat,by omega⟩
   have hyn:yn<ready.length:=by omega
   obtain⟨rd,pj⟩: ∃rd,ready[yn]=rd:=⟨_,rfl⟩
   have hrk:ready[yn]? =some rd:=by rw[List.getElem?_eq_getElem hyn,pj]
   have sU:ready.getD yn false=rd:=by simp[List.getD,hrk]
   obtain⟨g2,c2,jz,cr⟩:=HR.out.at_ hrk;injection jz with tx Yr Kd;subst tx Kd;have FC:=hid ui;have XL:=hid Vv;have HGD:=hid sU;clear ui Vv hy pj hrk sU;cases rd with
   |true=>
    have HRM:=hid (fun RE: ∀j z,j<k→l[j]? =some z→¬ (yn:Int)=z=>rD _ b n _ l H.out k yn XL.out RE);have RE: ∀j z,j<k→l[j]? =some z→¬ (yn:Int)=z:=fun j z hj hz e=>by have h1:=FC.out j z hj hz;rw[←e,Int.toNat_natCast,HGD.out] at h1;exact absurd h1 (by decide)
    have aeX:=hid (HRM.out RE);clear RE;go_wp2_with fail
    refine aeX.out.mono ?_;rintro e w2 ⟨rfl,v2,h2,k2,fD⟩;obtain⟨a2,c2',rfl⟩:=h2.row.shape;have d1:w2.cell? ⟨b,1,none⟩=some (.slice a2 (l.eraseIdx k).length c2'):=h2.az.cell 1;have rN:=h2.az.lt;have gW:=k2.size;have hel:(l.eraseIdx k).length≤100:=h2.len;have H2:=hid h2;have K2:=hid k2;have BJ:=hid fD;clear h2 k2 fD cg cr c1;go_wp2_with (at_builtin;go_must (refine Bv rfl _ _ rfl _ (l.eraseIdx k) rfl (ab H2.out.row ((I.refl [] _).alloc _) (by simp)) ⟨_,0,none⟩ yn rfl (aA [.int .i64 (yn:Int)] (by simp) 0 _ rfl) (by omega) ?_))
    intro v4 w4 dx re nK;obtain⟨a4,c4,tx⟩:=dx.shape;obtain⟨N,hN⟩: ∃N,(l.eraseIdx k++[(yn:Int)]).length=N:=⟨_,rfl⟩
    rw[hN] at tx;subst tx;have uJ:=((I.refl (ae (.slice a2 (l.eraseIdx k).length c2')) w2).alloc (.cells #[.int .i64 yn] 3)).trans re;have xa:=H2.out.az.keeps uJ H2.out.own;have pK:=xa.lt;have f1:=xa.free 1;have YT:w4.cell? ⟨b,1,none⟩=some (.slice a2 (l.eraseIdx k).length c2'):=xa.cell 1;have ef: ∀i∈ae (.slice a4 N c4),i∈ae (.slice a2 (l.eraseIdx k).length c2')∨w2.heap.size≤i:=fun i hi=>by
     rw[aa] at hi⊢;rcases nK with h1|h1
     ·exact inl (h1▸hi)
     ·rw[h1] at hi;injection hi with hi;right;first|omega|(simp at hi;omega)
    have Ci:b∉ae (.slice a4 N c4):=fun hm=>by
     rcases ef b hm with h1|h1
     ·exact H2.out.own h1
     ·omega
    have HO:=hid dx;have HB:=hid xa;have HK:=hid uJ;have T3:=hid Ci;have nI:=hid ef;clear d1 dx re nK uJ xa ef Ci hN;go_wp2_with fail
    go_ret2;refine inr ⟨k,yn,MD XL.out (by rw[Int.toNat_natCast];exact HGD.out) FC.out,XL.out,rfl,.slice a4 N c4,⟨(HB.out.set 1 _).conv rfl,ab HO.out ((I.refl [b] _).ax _) (fun i hi hm=> ?_),T3.out,by rw[List.length_append,List.length_singleton];have:=List.length_eraseIdx_le l k;omega⟩,?_,fun i hi=> ?_⟩
    ·rw[List.mem_singleton] at hm;exact T3.out (aa.2 (by subst hm;exact hi))
    ·refine(K2.out.trans (HK.out.mono (fun i hi=>List.mem_cons_of_mem _ (BJ.out i hi)))).setCell (p:=⟨b,1,none⟩) (inl (by simp)) _
    ·rcases nI.out i hi with h1|h1
     ·exact inl (BJ.out i h1)
     ·exact inr (Nat.le_trans K2.out.size h1)
   |false=>
    go_wp2_with fail
    go_roundw;case rel=>
     refine⟨k+1,by omega,by go_num,fun j z hj hz=> ?_,rfl⟩;by_cases Vw:j=k
     ·subst Vw;rw[XL.out] at hz;injection hz with hz;rw[←hz,Int.toNat_natCast];exact HGD.out
     ·exact FC.out j z (by omega) hz
    case measure=>simp[intOf];omega
  ·obtain rfl:k=l.length:=by omega
   have xw: ¬ ((l.length:Nat):Int)<(l.length:Int):=by omega
   have FC:=hid ui;clear ui;go_wp2_with fail
   go_ret2;exact inl ⟨MC FC.out,rfl,rfl⟩
theorem oF {P:Program} {w:World} {g n:Nat} {t:TypeId} {k:IntKind} (h:w.ShapedOpen P) (hg:g<P.globals.size) (h0:(((begin P (fun _ _=>0) default).world.heap[g]?).bind Obj.row?).map (fun x=>(x.1.size,x.2))=some (n,t)) (hb:P.buildable t=true) {m:Nat} {e:TypeId} (hu:P.cellTypes P.depth t=some (List.replicate m e)) (he:P.underlying e=some (.int k)): ∀i,i<n→∃m,w.cell? ⟨g,i,none⟩=some (.int k m)∧k.has m:=by
 intro i hi;obtain⟨⟨zero,t'⟩,hz,hzt⟩:=Option.map_eq_some_iff.1 h0;simp only[Prod.mk.injEq] at hzt;obtain⟨gv,rfl⟩:=hzt;obtain⟨cs,hh,hs,hr⟩:=h.1 g zero t' hg hz;obtain⟨ts,JP,-,kA⟩:=hr hb;rw[JP] at hu;injection hu with hu;subst hu;have hic:i<cs.size:=by omega
 obtain⟨u,hu',cS⟩:=kA i cs[i] (by simp[hic]);have nW:w.cell? ⟨g,i,none⟩=some cs[i]:=by simp[World.cell?,hh,hic]
 rw[nW];unfold Cell.ok at cS;rw[List.eq_of_mem_replicate (List.mem_of_getElem? hu'),he] at cS;cases hv:cs[i]<;>rw[hv] at cS<;>simp at cS;case int k' m=>exact⟨m,by rw[cS.1],cS.2⟩
theorem Q5:(((begin prog (fun _ _=>0) default).world.heap[1]?).bind Obj.row?).map (fun x=>(x.1.size,x.2))=some (256,287):=by kernel_rfl
theorem MU:(((begin prog (fun _ _=>0) default).world.heap[2]?).bind Obj.row?).map (fun x=>(x.1.size,x.2))=some (32,290):=by kernel_rfl
theorem Yo:(((begin prog (fun _ _=>0) default).world.heap[3]?).bind Obj.row?).map (fun x=>(x.1.size,x.2))=some (20,292):=by kernel_rfl
theorem pick {n:Nat} {Q:Nat→Int→Prop} (h: ∀i,i<n→∃m,Q i m): ∃f:Nat→Int,∀i,i<n→Q i (f i):=⟨fun i=>if hi:i<n then Classical.choose (h i hi) else 0,fun i hi=>by simp only[dif_pos hi];exact Classical.choose_spec (h i hi)⟩
theorem BC {m:Int} (h:IntKind.has .u8 m):0≤m∧m≤255:=by simpa[IntKind.has,IntKind.min,IntKind.max,IntKind.signed,IntKind.bits] using h
theorem UE {m:Int} (h:IntKind.has .u64 m):0≤m:=by
 have:0≤m∧m≤18446744073709551615:=by simpa[IntKind.has,IntKind.min,IntKind.max,IntKind.signed,IntKind.bits] using h
 exact this.1
theorem yi {w:World} (h:w.ShapedOpen prog): ∃t,dt t w∧br<w.heap.size:=by
 have hz:br<w.heap.size:=by obtain⟨o,o0,h1,-⟩:=h.2 br (of_decide_eq_true (by kernel_rfl)) (of_decide_eq_true (by kernel_rfl));exact(Array.getElem?_eq_some_iff.1 h1).1
 obtain⟨f1,h1⟩:=pick (oF (k:= .u8) (m:=256) (e:=5) h (g:=1) (of_decide_eq_true (by kernel_rfl)) Q5 (by kernel_rfl) (by kernel_rfl) underlying5);obtain⟨f2,h2⟩:=pick (oF (k:= .u8) (m:=32) (e:=5) h (g:=2) (of_decide_eq_true (by kernel_rfl)) MU (by kernel_rfl) (by kernel_rfl) underlying5);obtain⟨f3,h3⟩:=pick (oF (k:= .u64) (m:=20) (e:=32) h (g:=3) (of_decide_eq_true (by kernel_rfl)) Yo (by kernel_rfl) (by kernel_rfl) underlying32);refine⟨⟨fun i=>(f3 i).toNat,fun i=>(f1 i).toNat,fun i=>(f2 (i*2)).toNat,fun i=>(f2 (i*2+1)).toNat⟩,⟨fun i hi=> ?_,fun i hi=>⟨?_,?_⟩,fun i hi=>⟨?_,?_⟩⟩,hz⟩
 ·obtain⟨c,d⟩:=h3 i hi;rw[c,show(((f3 i).toNat:Nat):Int)=f3 i from Int.toNat_of_nonneg (UE d)]
 ·obtain⟨c,d⟩:=h1 i hi;rw[c,show(((f1 i).toNat:Nat):Int)=f1 i from Int.toNat_of_nonneg (BC d).1]
 ·have d:=BC (h1 i hi).2;show(f1 i).toNat<256;omega
 ·obtain⟨c,d⟩:=h2 (i*2) (by omega);rw[c,show(((f2 (i*2)).toNat:Nat):Int)=f2 (i*2) from Int.toNat_of_nonneg (BC d).1]
 ·obtain⟨c,d⟩:=h2 (i*2+1) (by omega);rw[c,show(((f2 (i*2+1)).toNat:Nat):Int)=f2 (i*2+1) from Int.toNat_of_nonneg (BC d).1]
end Go.Proofs.YthffblhdjjbkaaaGreat
