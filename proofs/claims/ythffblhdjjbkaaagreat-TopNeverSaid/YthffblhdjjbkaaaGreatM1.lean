/- What a call leaves of memory; Short names for what stands in many proofs.; x & (2^i - 1); The blocks of slice values; A stack of open containers (three cells each) in a slice that the call owns; utf.C -/
import Derived.WalkSpells
import Derived.WalkLawsBesides
import Derived.Lib.Hide
set_option maxHeartbeats 100000000
set_option maxRecDepth 1000000
open Or (inl inr)
namespace Go.Tru
open Go.RowKit
structure I (F:List Nat) (w w':World):Prop where
 os:w'.os=w.os
 tape:w'.tape=w.tape
 output:w'.output=w.output
 size:w.heap.size≤w'.heap.size
 block: ∀k,k<w.heap.size→k∉F→w'.heap[k]? =w.heap[k]?
theorem I.refl (F:List Nat) (w:World):I F w w:=⟨rfl,rfl,rfl,Nat.le_refl _,fun _ _ _=>rfl⟩
theorem I.trans {F:List Nat} {a b c:World} (h:I F a b) (k:I F b c):I F a c:=⟨k.os.trans h.os,k.tape.trans h.tape,k.output.trans h.output,Nat.le_trans h.size k.size,fun i hi hF=>(k.block i (Nat.lt_of_lt_of_le hi h.size) hF).trans (h.block i hi hF)⟩
theorem I.trans' {F G:List Nat} {a b c:World} (h:I F a b) (k:I G b c) (hG: ∀i∈G,i∈F∨a.heap.size≤i):I F a c:=
 ⟨k.os.trans h.os,k.tape.trans h.tape,k.output.trans h.output,Nat.le_trans h.size k.size,
  fun i hi hF=>(k.block i (Nat.lt_of_lt_of_le hi h.size) (fun hm=>by
   rcases hG i hm with h1|h1
   · exact hF h1
   · omega)).trans (h.block i hi hF)⟩
theorem I.mono {F G:List Nat} {a b:World} (h:I F a b) (hs: ∀i∈F,i∈G):I G a b:=⟨h.os,h.tape,h.output,h.size,fun i hi hG=>h.block i hi (fun hm=>hG (hs i hm))⟩
theorem I.alloc {F:List Nat} {a w:World} (h:I F a w) (o:Obj):I F a (w.alloc o):=h.trans ⟨rfl,rfl,rfl,by simp,fun k hk _=>Below.heap_alloc _ _ _ hk⟩
theorem I.drew {F:List Nat} {a w:World} (h:I F a w):I F a w.drew:=⟨h.os,h.tape,h.output,h.size,h.block⟩
theorem I.drewN {F:List Nat} {a w:World} (h:I F a w) (n:Nat):I F a (w.drewN n):=⟨h.os,h.tape,h.output,h.size,h.block⟩
theorem I.setCell {F:List Nat} {a w:World} (h:I F a w) {p:Addr} (hp:p.block∈F∨a.heap.size≤p.block) (u:Value):I F a (w.setCell p u):=
 ⟨h.os,h.tape,h.output,by simpa[World.setCell] using h.size,fun k hk hF=>by
  rw[Below.heap_setCell _ _ _ _ (fun e=>by rcases hp with hp|hp;exact hF (e▸hp);omega)]
  exact h.block k hk hF⟩
theorem I.ax {b i:Nat} {a w:World} (h:I [b] a w) (u:Value):I [b] a (w.setCell ⟨b,i,none⟩ u):=h.setCell (inl (List.mem_singleton.2 rfl)) u
theorem I.grown {F:List Nat} {a w w':World} {row:Option Nat} (h:I F a w) (hg:w.grownBy w' row) (hr: ∀k,row=some k→k∈F∨a.heap.size≤k):I F a w':=
 ⟨hg.os.trans h.os,hg.tape.trans h.tape,hg.output.trans h.output,Nat.le_trans h.size hg.size,fun k hk hF=>by
  rw[hg.block k (Nat.lt_of_lt_of_le hk h.size) (fun e=>by rcases hr k e.symm with h1|h1;exact hF h1;omega)]
  exact h.block k hk hF⟩
theorem I.below {F:List Nat} {B:Nat} {w w':World} (h:I F w w') (hB:B≤w.heap.size) (hF: ∀i∈F,B≤i):Below B w w':=⟨h.os,h.tape,h.output,h.size,fun k hk=>h.block k (by omega) (fun hm=>by have:=hF k hm;omega)⟩
theorem I.all {w w':World} (h:I [] w w'):Below w.heap.size w w':=h.below (Nat.le_refl _) (fun i hi=>by cases hi)
theorem I.one {b:Nat} {a c d:World} (h:I [] a c) (k:I [b] c d) (hb:a.heap.size≤b):I [] a d:=h.trans' k (fun i hi=>by rw[List.mem_singleton] at hi;exact inr (hi▸hb))
theorem I.heap {F:List Nat} {w w':World} (h:I F w w') {k:Nat} {o:Obj} (hk:w.heap[k]? =some o) (hF:k∉F):w'.heap[k]? =some o:=by rw[h.block k (lt_of_block hk) hF];exact hk
theorem I.cell {F:List Nat} {w w':World} (h:I F w w') {p:Addr} {v:Value} (hv:w.cell? p=some v) (hF:p.block∉F):w'.cell? p=some v:=(World.cell?_of_block (h.block p.block (World.block_lt_of_cell? w p hv) hF)).trans hv
/-! ### one block's cells -/
def Has (w:World) (b:Nat) (cs:List Value) (t:TypeId):Prop:=w.heap[b]? =some (.cells cs.toArray t (0,0))
theorem Has.lt {w:World} {b:Nat} {cs:List Value} {t:TypeId} (h:Has w b cs t):b<w.heap.size:=lt_of_block h
theorem Has.cell {w:World} {b:Nat} {cs:List Value} {t:TypeId} (h:Has w b cs t) (i:Nat):w.cell? ⟨b,i,none⟩=cs[i]? :=by simp[World.cell?,show w.heap[b]? =_ from h]
theorem Has.free {w:World} {b:Nat} {cs:List Value} {t:TypeId} (h:Has w b cs t) (i:Nat):w.frozen? ⟨b,i,none⟩=false:=by simp[World.frozen?,show w.heap[b]? =_ from h]
theorem Has.keeps {F:List Nat} {w w':World} {b:Nat} {cs:List Value} {t:TypeId} (h:Has w b cs t) (k:I F w w') (hb:b∉F):Has w' b cs t:=k.heap h hb
theorem Has.below {B:Nat} {w w':World} {b:Nat} {cs:List Value} {t:TypeId} (h:Has w b cs t) (k:Below B w w') (hb:b<B):Has w' b cs t:=by show w'.heap[b]? =_;rw[k.block b hb];exact h
theorem Has.alloc {w:World} {b:Nat} {cs:List Value} {t:TypeId} (h:Has w b cs t) (o:Obj):Has (w.alloc o) b cs t:=by show(w.alloc o).heap[b]? =_;rw[Below.heap_alloc _ _ _ h.lt];exact h
theorem Has.drew {w:World} {b:Nat} {cs:List Value} {t:TypeId} (h:Has w b cs t):Has w.drew b cs t:=h
theorem Has.drewN {w:World} {b:Nat} {cs:List Value} {t:TypeId} (h:Has w b cs t) (n:Nat):Has (w.drewN n) b cs t:=h
theorem Has.new (w:World) (cs:List Value) (t:TypeId):Has (w.alloc (.cells cs.toArray t)) w.heap.size cs t:=heap_alloc_new w _
theorem Has.aC (w:World) (cs:Array Value) (t:TypeId) {n:Nat} (hn:n=w.heap.size):Has (w.alloc (.cells cs t)) n cs.toList t:=by subst hn;show(w.alloc (.cells cs t)).heap[w.heap.size]? =_;rw[heap_alloc_new]
theorem Has.set {w:World} {b:Nat} {cs:List Value} {t:TypeId} (h:Has w b cs t) (i:Nat) (u:Value):Has (w.setCell ⟨b,i,none⟩ u) b (cs.set i u) t:=by have:=heap_setCell_same w b i cs.toArray t u h;show(w.setCell ⟨b,i,none⟩ u).heap[b]? =_;rw[this];simp
theorem Has.other {w:World} {b:Nat} {cs:List Value} {t:TypeId} (h:Has w b cs t) {p:Addr} (hp:b≠p.block) (u:Value):Has (w.setCell p u) b cs t:=by show(w.setCell p u).heap[b]? =_;rw[Below.heap_setCell _ _ _ _ hp];exact h
theorem Has.conv {w:World} {b:Nat} {cs cs':List Value} {t:TypeId} (h:Has w b cs t) (e:cs=cs'):Has w b cs' t:=e▸h
/-! ### a piece in the middle of a block -/
theorem bR {w:World} {b:Nat} {pre NP post:List Value} {t:TypeId} {off:Nat} (h:Has w b (pre++NP++post) t) (ho:off=pre.length) (i:Nat) (hi:i<NP.length):w.cell? ⟨b,off+i,none⟩=NP[i]? :=by subst ho;rw[h.cell,List.append_assoc,List.getElem?_append_right (by omega),List.getElem?_append_left (by omega)];congr 1;omega
theorem cd {w:World} {b:Nat} {pre NP post:List Value} {t:TypeId} {off:Nat} (h:Has w b (pre++NP++post) t) (ho:off=pre.length) (i:Nat) (u:Value) (hi:i<NP.length):Has (w.setCell ⟨b,off+i,none⟩ u) b (pre++NP.set i u++post) t:=by
 subst ho;refine(h.set (pre.length+i) u).conv ?_
 rw[List.append_assoc,List.append_assoc,List.set_append_right _ _ (by omega),List.set_append_left _ _ (by omega)];congr 3;omega
theorem kU {w:World} {b:Nat} {pre NP post:List Value} {t:TypeId} {off:Nat} (h:Has w b (pre++NP++post) t) (ho:off=pre.length) (u:Value) (hi:0<NP.length):Has (w.setCell ⟨b,off,none⟩ u) b (pre++NP.set 0 u++post) t:=cd h ho 0 u hi
theorem dA {a b:Bool} (h:a=b):Ending.returned (.bool a)= .returned (.bool b):=by rw[h]
theorem nh {k:IntKind} {a b:Int} (h:a=b):Ending.returned (.int k a)= .returned (.int k b):=by rw[h]
/-! ### string([]byte{..}) -/
theorem jO {P:Program} (src dst e:TypeId) (hs:P.underlying src=some (.slice e)) (he:P.underlying e=some (.int .u8)) (hd:P.underlying dst=some .string) (xs:List Int) (W:World) (n:Nat) (hn:n=W.heap.size):(convert src dst (.slice (some ⟨n,0,none⟩) xs.length xs.length)).run P (W.alloc (.cells (xs.map (Value.int .u8)).toArray e))= .ok (.string (strOfNums xs)) (W.alloc (.cells (xs.map (Value.int .u8)).toArray e)):=by subst hn;refine run_convert_bytes_arg _ src e hs he _ 0 _ _ xs rfl (fun i hi=> ?_) dst hd;rw[World.cell?_alloc_at _ _ _ _ rfl];simp[List.getD,hi]
theorem NQ (xs:List Int):(strOfNums xs).data.toList=xs.map fun n=>UInt8.ofNat n.toNat:=rfl
/-! ### a slice of ints that came in -/
structure ni (w:World) (o:Option Addr) (n c:Nat) (xs:List Int):Prop where
 len:xs.length=n
 room:n≤c
 nV:c≤maxLen
 at_:n=0∨∃b off,o=some ⟨b,off,none⟩∧b<w.heap.size∧∀ (i:Nat) (x:Int),xs[i]? =some x→w.cell? ⟨b,off+i,none⟩=some (.int .i64 x)
 fit: ∀x∈xs,-9223372036854775808≤x∧x≤9223372036854775807
theorem ni.keeps {w w':World} {o:Option Addr} {n c:Nat} {xs:List Int} (h:ni w o n c xs) (k:I [] w w'):ni w' o n c xs:=⟨h.len,h.room,h.nV,h.at_.imp id fun⟨b,off,h1,h2,h3⟩=>⟨b,off,h1,Nat.lt_of_lt_of_le h2 k.size,fun i x hx=>k.cell (h3 i x hx) (by simp)⟩,h.fit⟩
theorem ni.get {w:World} {o:Option Addr} {n c:Nat} {xs:List Int} (h:ni w o n c xs) {k:Nat} (hk:k<n) (xj:k<xs.length): ∃b off,o=some ⟨b,off,none⟩∧w.cell? ⟨b,off+k,none⟩=some (.int .i64 xs[k]):=by
 rcases h.at_ with h0|⟨b,off,h1,_,h3⟩
 ·omega
 ·exact⟨b,off,h1,h3 k _ (List.getElem?_eq_getElem xj)⟩
theorem nn {Q:Nat→Prop}: ∀i∈([]:List Nat),Q i:=fun i hi=>by cases hi
theorem ms {α:Type} {a:α} {l:List α}:a∈a::l:=List.mem_cons_self ..
theorem mc {a:Nat} {l:List Nat}: ∀i∈l,i∈a::l:=fun _ hi=>List.mem_cons_of_mem _ hi
theorem m1 {a:Nat} {l:List Nat}: ∀i∈ [a],i∈a::l:=fun i hi=>by rw[List.mem_singleton] at hi;rw[hi];exact ms
theorem da {x:Int} (h: -9223372036854775808≤x∧x≤9223372036854775807):IntKind.i64.wrap x=x:=by rw[IntKind.wrap_i64];omega
end Go.Tru
namespace Go.Tru
theorem Cq (i:Nat) (hi:i≤63) (n:Int):bits .and .i64 n ((2^i-1:Nat):Int)=n % ((2^i:Nat):Int):=by
 have hp:2^i≤2^63:=Nat.pow_le_pow_right (by decide) hi;have Ng:0<2^i:=Nat.two_pow_pos i;have hm:(BitVec.ofInt 64 ((2^i-1:Nat):Int)).toNat=2^i-1:=by rw[BitVec.toNat_ofInt];omega
 have key:(BitVec.ofInt 64 n&&& BitVec.ofInt 64 ((2^i-1:Nat):Int)).toNat=(n % ((2^64:Nat):Int)).toNat % 2^i:=by rw[BitVec.toNat_and,BitVec.toNat_ofInt,hm,Nat.and_two_pow_sub_one_eq_mod]
 show IntKind.i64.wrap ((BitVec.ofInt 64 n&&& BitVec.ofInt 64 ((2^i-1:Nat):Int)).toNat:Nat)=n % ((2^i:Nat):Int);have h64:(2:Nat)^64=2^i*2^(64-i):=by rw[←Nat.pow_add];congr 1;omega
 have e1:(((n % ((2^64:Nat):Int)).toNat % 2^i:Nat):Int)=n % ((2^i:Nat):Int):=by rw[Int.natCast_emod,Int.toNat_of_nonneg (Int.emod_nonneg _ (by decide)),h64,Int.natCast_mul,Int.emod_emod_of_dvd _ (Int.dvd_mul_right ..)]
 rw[key,e1,IntKind.wrap_i64];have h1:=Int.emod_nonneg n (b:=((2^i:Nat):Int)) (by omega);have h2:=Int.emod_lt_of_pos n (b:=((2^i:Nat):Int)) (by omega);omega
end Go.Tru
namespace Go.Tru
open Go.RowKit
def ae (v:Value):List Nat:=v.ownBlock.toList
theorem aa {v:Value} {i:Nat}:i∈ae v↔v.ownBlock=some i:=by unfold ae;cases v.ownBlock<;>simp[eq_comm]
theorem aR:ae (.slice none 0 0)= []:=rfl
theorem ab {F:List Nat} {w w':World} {base:Nat} {e:TypeId} {size:Nat} {v:Value} {n:Nat} {xs:List Value} (h:w.ownsRow base e size v n xs) (k:I F w w') (hF: ∀i,v.ownBlock=some i→i∉F):w'.ownsRow base e size v n xs:=by
 refine⟨h.1,?_⟩;rcases h.2 with h0|⟨g,cap,cur,rfl,hb,hg,hr⟩
 ·exact inl h0
 ·exact inr ⟨g,cap,cur,rfl,hb,k.heap hg (hF g rfl),hr⟩
theorem gM {w:World} {base mD:Nat} {e:TypeId} {size:Nat} {v:Value} {n:Nat} {xs:List Value} (h:w.ownsRow base e size v n xs) (hb:mD≤base):w.ownsRow mD e size v n xs:=by
 refine⟨h.1,?_⟩;rcases h.2 with h0|⟨g,cap,cur,rfl,cY,hr⟩
 ·exact inl h0
 ·exact inr ⟨g,cap,cur,rfl,Nat.le_trans hb cY,hr⟩
theorem cD {w w':World} {v:Value} (hg:w.grownBy w' v.ownBlock):I (ae v) w w':=⟨hg.os,hg.tape,hg.output,hg.size,fun k hk hF=>hg.block k hk (fun e=>hF (aa.2 e.symm))⟩
theorem I.freeze {F:List Nat} {a w:World} (h:I F a w) {p:Addr} (hp:p.block∈F∨a.heap.size≤p.block) (n:Nat):I F a (w.freeze p n):=by
 unfold World.freeze;split
 ·exact h
 ·refine⟨h.os,h.tape,h.output,by simpa using h.size,fun k hk hF=> ?_⟩;simp only[Array.getElem?_modify];rw[if_neg (fun e=>by rcases hp with hp|hp;exact hF (e▸hp);omega)];exact h.block k hk hF
section
variable {P:Program} (w:World)
theorem qG (base:Nat) (t u ty e:TypeId) (i:TypeInfo) (ht:P.underlying t=some (.slice e)) (hu:P.underlying u=some .string) (hi:P.info? e=some i) (hz:i.zero=some (.int .u8 0)) (pt:i.size=1) (Zs:i.bytes=1) (v:Value) (n:Nat) (xs:List Value) (au:w.ownsRow base e 1 v n xs) (s:ByteArray) (h63:n+s.size≤maxLen) (zF:n+s.size≤140737488355328) (ak:base≤w.heap.size): ∃v' w',(Builtin.append_ #[t,u] ty #[v,.string s]).run P w= .ok v' w'∧w'.ownsRow base e 1 v' (n+s.size) (xs++Lib.strCells s)∧w.grownBy w' v.ownBlock∧∀k,v'.ownBlock=some k→v.ownBlock=some k∨w.heap.size≤k:=by
 obtain⟨v',w',hr,h2,h3,_⟩:=Lib.run_append_own_string (P:=P) w base t u ty e i ht hu hi hz pt Zs v n xs au s h63 zF ak;refine⟨v',w',hr,h2,h3,fun k hk=> ?_⟩;have Rg:xs.length=n:=by simpa using au.1
 have adA:n+s.size≤9223372036854775807:=by simp only[maxLen] at h63;omega
 rcases au.2 with⟨rfl,rfl⟩|⟨g,cap,cur,rfl,cY,hg,hnc,hcm,tN,Zt⟩
 ·right;have hx:xs= []:=List.eq_nil_of_length_eq_zero Rg;subst hx;obtain⟨v2,w2,oG,h22,_,_⟩:=Lib.run_append_own_string (P:=P) w w.heap.size t u ty e i ht hu hi hz pt Zs (.slice none 0 0) 0 [] (World.ownsRow_nil _ _ _ _) s h63 zF (Nat.le_refl _);rw[hr] at oG;injection oG with e1 e2;subst e1;exact(h22.lt k hk).1
 ·by_cases dH:n+s.size≤cap
  ·have aj7:cur.size=cap:=by simpa using tN
   have oG:=Lib.run_append_room_string (P:=P) w t u ty e i ht hu hi pt g n cap cur hg s dH (by omega);rw[hr] at oG;injection oG with e1 e2;subst e1;exact inl hk
  ·have holds: ∀j u,xs[j]? =some u→w.cell? ((⟨g,0,none⟩:Addr).add j)=some u:=au.cells (g:=g) rfl;have oG:=Lib.run_append_grow_string (P:=P) w t u ty e i (.int .u8 0) ht hu hi hz ⟨g,0,none⟩ n cap xs (by rw[pt];simpa using Rg) holds s (by omega) (by omega) (by rw[Zs];exact growslice_fits (by omega) (by omega));rw[hr] at oG;injection oG with e1 e2;subst e1;simp only[Value.ownBlock,Option.some.injEq] at hk;exact inr (by omega)
theorem nZ {ops:Array Oper} {rest:List Oper} {o:Oper} {a:Act} {Q:Exit→Act→World→Prop} (sU:o.guard=none) (sl x:Operand) (t u:TypeId) (ho:o.op= .call {callee:= .builtin .append,args:= #[sl,x],argTypes:= #[t,u]}) (base:Nat) (e:TypeId) (i:TypeInfo) (ht:P.underlying t=some (.slice e)) (hu:P.underlying u=some .string) (hi:P.info? e=some i) (hz:i.zero=some (.int .u8 0)) (pt:i.size=1) (Zs:i.bytes=1) (v:Value) (n:Nat) (xs:List Value) (hs:a.eval sl=v) (au:w.ownsRow base e 1 v n xs) (s:ByteArray) (hx:a.eval x= .string s) (h63:n+s.size≤maxLen) (zF:n+s.size≤140737488355328) (ak:base≤w.heap.size) (h: ∀v' w',w'.ownsRow base e 1 v' (n+s.size) (xs++Lib.strCells s)→w.grownBy w' v.ownBlock→(∀k,v'.ownBlock=some k→v.ownBlock=some k∨w.heap.size≤k)→wpList P ops Q rest (a.put o.dst v') w'):wpList P ops Q (o::rest) a w:=by refine wpList_plain sU fun K hK=> ?_;obtain⟨v',w',hr,h2,h3,h4⟩:=qG (P:=P) w base t u o.type e i ht hu hi hz pt Zs v n xs au s h63 zF ak;unfold Oper.wp execOp;simp only[ho,resolve,invoke,builtin,Sem.run_bind,Sem.run_pure,Result.andThen_ok,List.map_toArray,List.map_cons,List.map_nil,hs,hx,hr];exact hK _ _ (h v' w' h2 h3 h4)
end
end Go.Tru
namespace Go.Tru
structure af where
 bg:Bool
 count:Int
 parts:Int
def af.cells (c:af):List Value:=[.bool c.bg,.int .i64 c.count,.int .i64 c.parts]
def af.val (c:af):Value:= .agg c.cells.toArray
def bJ (s:List af):List Value:=s.reverse.flatMap af.cells
theorem fN (s:List af):(bJ s).length=s.length*3:=by
 unfold bJ;induction s with
 |nil=>rfl
 |cons c s ih=>rw[List.reverse_cons,List.flatMap_append,List.length_append,ih];simp[af.cells];omega
theorem gX (c:af) (s:List af):bJ (c::s)=bJ s++c.cells:=by unfold bJ;rw[List.reverse_cons,List.flatMap_append,List.flatMap_cons,List.flatMap_nil,List.append_nil]
def ai (w:World) (base E:Nat) (v:Value) (s:List af):Prop:=w.ownsRow base E 3 v s.length (bJ s)
theorem ai.nil (w:World) (base E:Nat):ai w base E (.slice none 0 0) []:=World.ownsRow_nil _ _ _ _
theorem ai.some_ {w:World} {base E:Nat} {v:Value} {c:af} {s:List af} (h:ai w base E v (c::s)): ∃g cap,v= .slice (some ⟨g,0,none⟩) (s.length+1) cap∧base≤g∧g<w.heap.size∧s.length+1≤cap∧cap≤maxLen∧w.cell? ⟨g,s.length*3,none⟩=some (.bool c.bg)∧w.cell? ⟨g,s.length*3+1,none⟩=some (.int .i64 c.count)∧w.cell? ⟨g,s.length*3+2,none⟩=some (.int .i64 c.parts)∧∀j,w.frozen? ⟨g,j,none⟩=false:=by
 have dD:=World.ownsRow.lt h;rcases h.2 with⟨_,h2⟩|⟨g,cap,cur,rfl,hb,hg,hn,hm,_⟩
 ·simp at h2
 ·have hl:=fN s;refine⟨g,cap,rfl,hb,(dD g rfl).2,hn,hm,?_,?_,?_,fun j=>h.frozenAt j⟩;all_goals rw[h.cellAt _ (by simp only[List.length_cons];omega),gX,List.getElem?_append_right (by omega),hl];simp[af.cells]
theorem ai.pop {w:World} {base E g cap:Nat} {c:af} {s:List af} (h:ai w base E (.slice (some ⟨g,0,none⟩) (s.length+1) cap) (c::s)):ai w base E (.slice (some ⟨g,0,none⟩) s.length cap) s:=by unfold ai at h⊢;rw[gX] at h;exact ownsRow_pop (fN s) h
theorem ai.gV {w:World} {base E g cap:Nat} {c:af} {s:List af} (h:ai w base E (.slice (some ⟨g,0,none⟩) (s.length+1) cap) (c::s)) (p:Int):ai (w.setCell ⟨g,s.length*3+2,none⟩ (.int .i64 p)) base E (.slice (some ⟨g,0,none⟩) (s.length+1) cap) ({c with parts:=p}::s):=by
 have h1:=(World.ownsRow.stored h (s.length*3+2) (.int .i64 p)).1;unfold ai;have e:(bJ (c::s)).set (s.length*3+2) (.int .i64 p)=bJ ({c with parts:=p}::s):=by
  have hl:=fN s;rw[gX,gX,List.set_append_right _ _ (by omega),hl];have:s.length*3+2-s.length*3=2:=by omega
  rw[this];simp[af.cells]
 rw[e] at h1;exact h1
theorem ai.shape {w:World} {base E:Nat} {v:Value} {s:List af} (h:ai w base E v s): ∃a cap,v= .slice a s.length cap:=by
 rcases h.2 with⟨h1,h2⟩|⟨g,cap,cur,h1,_⟩
 ·exact⟨none,0,by rw[h1,h2]⟩
 ·exact⟨_,_,h1⟩
theorem aA {w:World} {t:TypeId} (cs:List Value) {n:Nat} (hn:n=w.heap.size): ∀ (j:Nat) (u:Value),cs[j]? =some u→(w.alloc (.cells cs.toArray t)).cell? ((⟨n,0,none⟩:Addr).add j)=some u:=by
 intro j u hu;subst hn;have F9:(⟨w.heap.size,0,none⟩:Addr).add j=⟨w.heap.size,j,none⟩:=by unfold Addr.add;split<;>simp_all
 rw[F9,World.cell?_alloc_new];simpa using hu
theorem ve (c:af): ∀u∈c.cells,u.oneCell'=true:=by intro u hu;simp only[af.cells,List.mem_cons,List.not_mem_nil,or_false] at hu;rcases hu with rfl|rfl|rfl<;>rfl
theorem Sm {α:Type} (r:List α):(((r.length:Nat):Int)==0)=r.isEmpty:=by
 cases r with
 |nil=>rfl
 |cons x r=>simp;omega
theorem ai.push {w:World} {base E n:Nat} {v:Value} {c:af} {s:List af} (h:w.ownsRow base E 3 v n (bJ s++c.cells)) (hn:n=s.length+1):ai w base E v (c::s):=by subst hn;unfold ai;rw[gX];exact h
structure cm where
 aT:Int
 low:Int
 high:Int
 bad:Bool
def cm.cells (c:cm):List Value:=[.int .i64 c.aT,.int .u8 c.low,.int .u8 c.high,.bool c.bad]
def cm.zero:cm:=⟨0,0,0,false⟩
def vj (k b:Int):Int:=if b<128 then k else if b<194 then k else if b≤223 then 1 else if b≤239 then 2 else if b≤244 then 3 else k
def Gc (b:Int):Bool:=decide (b<128∨(194≤b∧b≤244))
def Jj (b:Int):Int:=if b=224 then 160 else if b=240 then 144 else 128
def Cv (b:Int):Int:=if b=237 then 159 else if b=244 then 143 else 191
def cm.begin (c:cm) (b:Int):cm:={c with aT:=vj c.aT b,low:=Jj b,high:=Cv b}
def cm.step (c:cm) (b:Int):cm:=
 if c.bad then c
 else if c.aT=0 then{c.begin b with bad:= !Gc b}
 else if b<c.low∨c.high<b then{c with bad:=true}
 else{aT:=c.aT-1,low:=128,high:=191,bad:=false}
def cm.Fit (c:cm):Prop:=0≤c.aT∧c.aT≤3
theorem cm.n7:cm.zero.Fit:=by simp[cm.Fit,cm.zero]
theorem cm.dN {c:cm} (h:c.Fit) (b:Int):(c.step b).Fit:=by
 unfold cm.Fit at*;unfold cm.step cm.begin vj;split
 ·exact h
 split
 ·simp only[];repeat (first|omega|split)
 split
 ·exact h
 ·simp only[];omega
def cm.run (c:cm) (l:List UInt8):cm:=l.foldl (fun c b=>c.step b.toNat) c
theorem cm.N5 (c:cm) (b:UInt8) (l:List UInt8):c.run (b::l)=(c.step b.toNat).run l:=rfl
theorem cm.kW (c:cm) (l m:List UInt8):c.run (l++m)=(c.run l).run m:=by simp[cm.run]
theorem cm.vk {c:cm} (h:c.bad=true) (b:Int):c.step b=c:=by simp[cm.step,h]
theorem cm.zH {c:cm} (h:c.bad=true) (l:List UInt8):c.run l=c:=by
 induction l with
 |nil=>rfl
 |cons b l ih=>rw[cm.N5,cm.vk h,ih]
def cm.whole (c:cm):Bool:= !c.bad&&decide (c.aT=0)
def im (r:Int):Prop:=0≤r∧r<55296∨57343<r∧r≤1114111
def SW (n:Nat):List Nat:=
 if n<128 then [n] else if n<2048 then [192+n/64,128+n % 64]
 else if n<65536 then [224+n/4096,128+n/64 % 64,128+n % 64]
 else [240+n/262144,128+n/4096 % 64,128+n/64 % 64,128+n % 64]
def enc (r:Int):List UInt8:=(SW r.toNat).map UInt8.ofNat
theorem Gj {r:Int} (h:im r):(Utf8.encode r).data.toList=enc r:=by
 have hv:Utf8.valid r=true:=by simp[Utf8.valid];unfold im at h;omega
 unfold Utf8.encode enc SW;simp only[hv,if_true];repeat' split
 all_goals simp_all
theorem toNat_ofNat {n:Nat} (h:n<256):(UInt8.ofNat n).toNat=n:=by simp[UInt8.toNat_ofNat'];omega
theorem Jn {r:Int}:1≤(enc r).length∧(enc r).length≤4:=by
 unfold enc SW;repeat' split
 all_goals simp
theorem KS {r:Int} (h:im r):(r<128∧∃a:UInt8,(a.toNat:Int)=r∧enc r= [a])∨(128≤r∧r<2048∧∃a b:UInt8,(a.toNat:Int)=192+r/64∧(b.toNat:Int)=128+r % 64∧enc r= [a,b])∨(2048≤r∧r<65536∧∃a b c:UInt8,(a.toNat:Int)=224+r/4096∧(b.toNat:Int)=128+r/64 % 64∧(c.toNat:Int)=128+r % 64∧enc r= [a,b,c])∨(65536≤r∧∃a b c d:UInt8,(a.toNat:Int)=240+r/262144∧(b.toNat:Int)=128+r/4096 % 64∧(c.toNat:Int)=128+r/64 % 64∧(d.toNat:Int)=128+r % 64∧enc r= [a,b,c,d]):=by
 obtain⟨n,rfl⟩: ∃n:Nat,r=n:=⟨r.toNat,by unfold im at h;omega⟩
 have hn:n≤1114111:=by unfold im at h;omega
 unfold enc SW;simp only[Int.toNat_natCast];by_cases h1:n<128
 ·exact inl ⟨by omega,UInt8.ofNat n,by rw[toNat_ofNat (by omega)],by simp[h1]⟩
 by_cases h2:n<2048
 ·exact inr (inl ⟨by omega,by omega,UInt8.ofNat (192+n/64),UInt8.ofNat (128+n % 64),by rw[toNat_ofNat (by omega)];omega,by rw[toNat_ofNat (by omega)];omega,by simp[h1,h2]⟩)
 by_cases h3:n<65536
 ·exact inr (inr (inl ⟨by omega,by omega,UInt8.ofNat (224+n/4096),UInt8.ofNat (128+n/64 % 64),UInt8.ofNat (128+n % 64),by rw[toNat_ofNat (by omega)];omega,by rw[toNat_ofNat (by omega)];omega,by rw[toNat_ofNat (by omega)];omega,by simp[h1,h2,h3]⟩))
 ·exact inr (inr (inr ⟨by omega,UInt8.ofNat (240+n/262144),UInt8.ofNat (128+n/4096 % 64),UInt8.ofNat (128+n/64 % 64),UInt8.ofNat (128+n % 64),by rw[toNat_ofNat (by omega)];omega,by rw[toNat_ofNat (by omega)];omega,by rw[toNat_ofNat (by omega)];omega,by rw[toNat_ofNat (by omega)];omega,by simp[h1,h2,h3]⟩))
/-! ### a text that is UTF-8 is runes -/
/-! ### a cut -/
structure cA where
 c:cm
 state:Int
 r:Int
 n:Int
 pair:Int
 e:Int
def cA.new:cA:=⟨cm.zero,0,0,0,0,0⟩
def cA.cells (r:cA):List Value:=r.c.cells++[.int .i64 r.state,.int .i64 r.r,.int .i64 r.n,.int .i64 r.pair,.int .i64 r.e]
def dQ (b:Int):Int:=if 48≤b∧b≤57 then b-48 else if 97≤b∧b≤102 then b-87 else if 65≤b∧b≤70 then b-55 else-1
theorem vG (b:Int): -1≤dQ b∧dQ b≤15:=by unfold dQ;repeat (first|omega|split)
def cA.may (r:cA) (b:Int):Bool:=
 if r.state=0 then decide (b=92) else if r.state=1 then decide (b=117) else if r.n=0 then decide (dQ b=13) else if r.n=1 then decide (12≤dQ b) else decide (0≤dQ b)
def qK (b:Int):List UInt8:=
 if b=34 then [34] else if b=92 then [92] else if b=47 then [47] else if b=98 then [8] else if b=102 then [12] else if b=110 then [10] else if b=114 then [13] else if b=116 then [9] else []
def nE (x:Int):List UInt8:=if 0≤x∧x<55296∨57343<x∧x≤1114111 then enc x else []
def cA.digit (r:cA) (b:Int):cA×List UInt8:=
 if dQ b<0 then({r with e:=2},[])
 else if r.n<3 then({r with r:=r.r*16+dQ b,n:=r.n+1},[])
 else if 0<r.pair then({r with r:=r.r*16+dQ b,n:=r.n+1,state:=0,pair:=0},nE (65536+(r.pair-55296)*1024+(r.r*16+dQ b)-56320))
 else if 56320≤r.r*16+dQ b∧r.r*16+dQ b<57344 then({r with r:=r.r*16+dQ b,n:=r.n+1,state:=0,e:=9},[])
 else if 55296≤r.r*16+dQ b∧r.r*16+dQ b<56320 then({r with r:=r.r*16+dQ b,n:=r.n+1,state:=0,pair:=r.r*16+dQ b},[])
 else({r with r:=r.r*16+dQ b,n:=r.n+1,state:=0},nE (r.r*16+dQ b))
def cA.behind (r:cA) (b:Int):cA×List UInt8:=
 if b=117 then({r with state:=2,r:=0,n:=0},[])
 else if qK b= [] then({r with e:=2},[])
 else({r with state:=0},qK b)
def cA.plain (r:cA) (b:Int):cA×List UInt8:=
 if b<32∨b=34 then({r with e:=2},[])
 else if(r.c.step b).bad=true then({r with c:=r.c.step b,e:=9},[])
 else if b=92 then({r with c:=r.c.step b,state:=1},[])
 else({r with c:=r.c.step b},[UInt8.ofNat b.toNat])
def cA.step (r:cA) (b:Int):cA×List UInt8:=
 if r.e≠0 then(r,[])
 else if 0<r.pair∧r.may b=false then({r with e:=9},[])
 else if r.state=0 then r.plain b
 else if r.state=1 then r.behind b
 else r.digit b
def cA.whole (r:cA):Bool:=decide (r.e=0)&&decide (r.state=0)&&decide (r.pair=0)&&r.c.whole
def yJ (n r:Int):Prop:=n=0∧r=0∨n=1∧0≤r∧r≤15∨n=2∧0≤r∧r≤255∨n=3∧0≤r∧r≤4095
structure cA.Fit (r:cA):Prop where
 c:r.c.Fit
 st:r.state=0∨r.state=1∨r.state=2∧yJ r.n r.r
 pair:r.pair=0∨55296≤r.pair∧r.pair≤56319
theorem cA.eS:cA.new.Fit:=⟨cm.n7,inl rfl,inl rfl⟩
theorem cA.KU {r:cA} (h:r.Fit) (b:Int):(r.plain b).1.Fit:=by
 obtain⟨h1,h2,h3⟩:=h;unfold cA.plain;split
 ·exact⟨h1,h2,h3⟩
 split
 ·exact⟨cm.dN h1 b,h2,h3⟩
 split
 ·exact⟨cm.dN h1 b,inr (inl rfl),h3⟩
 ·exact⟨cm.dN h1 b,h2,h3⟩
theorem cA.jB {r:cA} (h:r.Fit) (b:Int):(r.behind b).1.Fit:=by
 obtain⟨h1,h2,h3⟩:=h;unfold cA.behind;split
 ·exact⟨h1,inr (inr ⟨rfl,inl ⟨rfl,rfl⟩⟩),h3⟩
 split
 ·exact⟨h1,h2,h3⟩
 ·exact⟨h1,inl rfl,h3⟩
theorem cA.KV {r:cA} (h:r.Fit) (h2:r.state=2) (b:Int):(r.digit b).1.Fit:=by
 obtain⟨h1,hs,h3⟩:=h;have hx:=vG b;have hh:yJ r.n r.r:=by
  rcases hs with a|a|a
  ·omega
  ·omega
  ·exact a.2
 unfold cA.digit;split
 ·exact⟨h1,hs,h3⟩
 split
 ·refine⟨h1,inr (inr ⟨h2,?_⟩),h3⟩;unfold yJ at hh⊢;simp only[];omega
 split
 ·exact⟨h1,inl rfl,inl rfl⟩
 split
 ·exact⟨h1,inl rfl,h3⟩
 split
 ·rename_i hp;exact⟨h1,inl rfl,inr ⟨hp.1,by simp only[];omega⟩⟩
 ·exact⟨h1,inl rfl,h3⟩
theorem cA.dN {r:cA} (h:r.Fit) (b:Int):(r.step b).1.Fit:=by
 unfold cA.step;split
 ·exact h
 split
 ·exact⟨h.c,h.st,h.pair⟩
 split
 ·exact cA.KU h b
 split
 ·exact cA.jB h b
 ·rename_i h0 h1;refine cA.KV h ?_ b;rcases h.st with a|a|a
  ·exact absurd a h0
  ·exact absurd a h1
  ·exact a.1
theorem KY (x:Int):(nE x).length≤4:=by
 unfold nE;split
 ·exact Jn.2
 ·simp
theorem KZ (b:Int):(qK b).length≤1:=by
 unfold qK;repeat' split
 all_goals simp
theorem cA.qL (r:cA) (b:Int):(r.step b).2.length≤4:=by
 unfold cA.step cA.plain cA.behind cA.digit;have:=KZ b;have p:=KY;repeat' split
 all_goals first|exact p _|(simp;done)|(simp only[];omega)
/-! ### a text that is written -/
def O1 (n:Nat):UInt8:=if n<10 then UInt8.ofNat (48+n) else UInt8.ofNat (87+n)
def S0 (b:UInt8):List UInt8:=
 if b=34∨b=92 then [92,b]
 else if b=8 then [92,98] else if b=12 then [92,102] else if b=10 then [92,110] else if b=13 then [92,114] else if b=9 then [92,116]
 else if b<32 then [92,117,48,48,O1 (b.toNat/16),O1 (b.toNat % 16)]
 else [b]
structure cA.At (r:cA) (c:cm):Prop where
 c:r.c=c
 st:r.state=0
 pair:r.pair=0
 e:r.e=0
def cA.run (r:cA):List UInt8→cA×List UInt8
 | []=>(r,[])
 |b::l=>(((r.step b.toNat).1.run l).1,(r.step b.toNat).2++((r.step b.toNat).1.run l).2)
theorem cA.kW (r:cA) (l m:List UInt8):r.run (l++m)=(((r.run l).1.run m).1,(r.run l).2++((r.run l).1.run m).2):=by
 induction l generalizing r with
 |nil=>simp[cA.run]
 |cons b l ih=>simp[cA.run,ih]
end Go.Tru
namespace Go.Tru
open Go.RowKit
theorem Px (s:ByteArray) (i:Nat):s.get! i=s.data.toList.getD i 0:=by show s.data[i]! =_;simp[getElem!_def,List.getD,Array.getElem?_toList];rfl
theorem gE {s:ByteArray} {pos:Nat} {r:Int} {t:List UInt8} (hr:im r) (h:s.data.toList.drop pos=enc r++t):Utf8.decode s pos=(r.toNat,(enc r).length):=by
 have hg: ∀k,k<(enc r).length→s.get! (pos+k)=(enc r).getD k 0:=by
  intro k hk;have e:(s.data.toList.drop pos)[k]? =(enc r)[k]? :=by rw[h,List.getElem?_append_left hk]
  rw[List.getElem?_drop] at e;rw[Px,List.getD,List.getD,e]
 have lx:pos+(enc r).length≤s.size:=by have e:=congrArg List.length h;rw[List.length_drop,List.length_append,Array.length_toList] at e;have hl:=(Jn (r:=r)).1;show _≤s.data.size;omega
 rcases KS hr with⟨h1,a,ha,he⟩|⟨h1,h2,a,b,ha,hb,he⟩|⟨h1,h2,a,b,d,ha,hb,hd,he⟩|⟨h1,a,b,d,f,ha,hb,hd,hf,he⟩;all_goals rw[he] at hg lx⊢;simp only[List.length_cons,List.length_nil] at hg lx⊢;unfold im at hr;have g0:=hg 0 (by omega);simp only[List.getD_cons_zero] at g0;unfold Utf8.decode
 ·simp only[g0];rw[if_pos (by omega)];exact Prod.ext (by simp only[];omega) rfl
 ·have g1:=hg 1 (by omega);simp only[List.getD_cons_succ,List.getD_cons_zero] at g1;simp only[g0,g1];rw[if_neg (by omega),if_pos (by simp;omega),if_pos (by omega)];exact Prod.ext (by simp only[];omega) rfl
 ·have g1:=hg 1 (by omega);have g2:=hg 2 (by omega);simp only[List.getD_cons_succ,List.getD_cons_zero] at g1 g2;simp only[g0,g1,g2];rw[if_neg (by omega),if_neg (by simp;omega),if_pos (by simp;omega),if_pos (by simp[Utf8.valid];omega)];exact Prod.ext (by simp only[];omega) rfl
 ·have g1:=hg 1 (by omega);have g2:=hg 2 (by omega);have g3:=hg 3 (by omega);simp only[List.getD_cons_succ,List.getD_cons_zero] at g1 g2 g3;simp only[g0,g1,g2,g3];rw[if_neg (by omega),if_neg (by simp;omega),if_neg (by simp;omega),if_pos (by simp;omega),if_pos (by simp[Utf8.valid];omega)];exact Prod.ext (by simp only[];omega) rfl
theorem I.iterAt {F:List Nat} {a w:World} (h:I F a w) {k:Nat} (hk:a.heap.size≤k) (s:ByteArray) (pos:Nat):I F a (w.iterAt k s pos):=
 ⟨h.os,h.tape,h.output,by rw[Lib.iterAt_size];exact h.size,fun i hi hF=>by
  show(w.heap.setIfInBounds k _)[i]? =_
  rw[Array.getElem?_setIfInBounds,if_neg (by omega)]
  exact h.block i hi hF⟩
end Go.Tru
