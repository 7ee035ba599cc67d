/- The gateway in memory.; The gateway; The gateway; The gateway; The gateway -/
import Derived.Test.YthffblhdjjbkaaaGreatM26
import Derived.Test.YthffblhdjjbkaaaGreatM42
set_option maxHeartbeats 100000000
set_option maxRecDepth 1000000
open Go.Lib (hid)
open Go.Proofs.Tryz
open Or (inl inr)
namespace Go.Tru
structure Gt where
 n:Nat
 ss:List (Option ag)
 ids:List Int
 many:Nat
 pu:Pu
 wh:List Int
def Gt.xn (g:Gt) (k:Nat) (n:Int):Gt:={g with pu:={g.pu with has:=g.pu.has.set k n}}
def Gt.xz (g:Gt) (k:Nat) (s:ag):Gt:={g with ss:=g.ss.set k (some s)}
structure ie where
 sb:Nat
 rb:Nat
 rg:Nat
 qv:Value
 pV:Value
 FP:List Nat
structure dG where
 gb:Nat
 gs:Nat
 gi:Nat
 pb:Nat
 ph:Nat
 po:Nat
 wb:Nat
 wv:Value
 now:Int
 mv:Value
 tn:Nat
 M:List Nat
 G:List Nat
 ls:List ie
structure xb (P:Nat→List Nat) (base sz:Nat):Prop where
 ne: ∀a b i,a≠b→i∈P a→i∉P b
 lt: ∀a i,i∈P a→base≤i∧i<sz
theorem xb.set {P P':Nat→List Nat} {base sz YW:Nat} (h:xb P base sz) (a:Nat) (ho: ∀b,b≠a→P' b=P b) (ha: ∀i∈P' a,i∈P a∨(sz≤i∧i<YW)) (hz:sz≤YW) (hb:base≤sz):xb P' base YW:=by
 refine⟨fun x y i RD hx hy=> ?_,fun x i hx=> ?_⟩
 ·by_cases hxa:x=a
  ·subst hxa;have hya:y≠x:=fun e=>RD e.symm;rw[ho y hya] at hy;rcases ha i hx with h1|h1
   ·exact h.ne x y i RD h1 hy
   ·have:=(h.lt y i hy).2;omega
  ·rw[ho x hxa] at hx;by_cases hya:y=a
   ·subst hya;rcases ha i hy with h1|h1
    ·exact h.ne x y i RD hx h1
    ·have:=(h.lt x i hx).2;omega
   ·rw[ho y hya] at hy;exact h.ne x y i RD hx hy
 ·by_cases hxa:x=a
  ·subst hxa;rcases ha i hx with h1|h1
   ·have:=h.lt x i h1;omega
   ·omega
  ·rw[ho x hxa] at hx;have:=h.lt x i hx;omega
theorem xb.same {P:Nat→List Nat} {base sz YW:Nat} (h:xb P base sz) (hz:sz≤YW):xb P base YW:=⟨h.ne,fun a i hi=>⟨(h.lt a i hi).1,Nat.lt_of_lt_of_le (h.lt a i hi).2 hz⟩⟩
end Go.Tru
namespace Go.Proofs.YthffblhdjjbkaaaGreat
open Go.RowKit Go.Tru
def sB (l:ie):List Nat:=fH l.sb l.rb l.rg l.qv l.FP
def JY:Option ag→ie→Value
 |none,_=> .pointer none
 |some _,l=>dF l.sb
def aaI:Option ag→ie→List Nat
 |none,_=>[]
 |some _,l=>sB l
def jH (ss:List (Option ag)) (ls:List ie) (k:Nat):List Nat:=
 match ss[k]?,ls[k]? with
 |some x,some l=>aaI x l
 |_,_=>[]
theorem fI {ss:List (Option ag)} {ls:List ie} {k:Nat} {s:ag} {l:ie} (h1:ss[k]? =some (some s)) (h2:ls[k]? =some l):jH ss ls k=sB l:=by unfold jH;rw[h1,h2];rfl
def cu (L:dG) (ss:List (Option ag)):Nat→List Nat
 |0=>L.gb::(L.M++L.G)
 |1=>[L.gs]
 |2=>[L.gi]
 |3=>[L.pb,L.ph,L.po]
 |4=>L.wb::ae L.wv
 |k+5=>jH ss L.ls k
def XO (t:bq) (N:Int) (w:World) (base:Nat) (l:ie) (s:ag):Prop:=bk t N w base l.sb l.rb l.rg l.qv l.pV l.FP s
def IQ (L:dG) (g:Gt):List Value:=[.slice (some ⟨L.gs,0,none⟩) g.n g.n,.slice (some ⟨L.gi,0,none⟩) g.n g.n,.int .i64 g.many,dF L.pb,dF L.wb]
def gI (ss:List (Option ag)) (ls:List ie):List Value:=List.zipWith JY ss ls
structure dz (t:bq) (N:Int) (w:World) (base:Nat) (L:dG) (g:Gt):Prop where
 tm:mP w L.gb (IQ L g) [] 76 L.now L.mv L.tn L.M L.G
 gs:Has w L.gs (gI g.ss L.ls) 79
 gi:Has w L.gi (fe g.ids) 3
 pu:fS w L.pb L.ph L.po g.pu
 wh:rC w L.wb g.n L.wv g.wh
 se: ∀ (k:Nat) (s:ag) (l:ie),g.ss[k]? =some (some s)→L.ls[k]? =some l→XO t N w base l s
 ap:xb (cu L g.ss) base w.heap.size
 sO:dt t w
 low:br<base∧base≤w.heap.size
 lens:g.ss.length=g.n∧L.ls.length=g.n∧g.ids.length=g.n∧g.pu.has.length=g.n∧(g.n=1∨g.n=2)
 jA:L.tn≤g.many∧g.many≤1000
theorem dz.others {t:bq} {N:Int} {w w':World} {base:Nat} {L:dG} {g:Gt} (h:dz t N w base L g) {F:List Nat} (k:I F w w') (a:Nat) (hF: ∀i∈F,i∈cu L g.ss a):(a≠0→mP w' L.gb (IQ L g) [] 76 L.now L.mv L.tn L.M L.G)∧(a≠1→Has w' L.gs (gI g.ss L.ls) 79)∧(a≠2→Has w' L.gi (fe g.ids) 3)∧(a≠3→fS w' L.pb L.ph L.po g.pu)∧(a≠4→rC w' L.wb g.n L.wv g.wh)∧(∀ (k:Nat) (s:ag) (l:ie),k+5≠a→g.ss[k]? =some (some s)→L.ls[k]? =some l→XO t N w' base l s)∧dt t w'∧(br<base∧base≤w'.heap.size):=by have fX: ∀b,a≠b→∀i∈cu L g.ss b,i∉F:=fun b hb i hi hm=>h.ap.ne a b i hb (hF i hm) hi;have hT: ∀i∈F,br<i:=fun i hi=>Nat.lt_of_lt_of_le h.low.1 (h.ap.lt a i (hF i hi)).1;refine⟨fun ha=>h.tm.keeps k (fX 0 ha _ (by simp[cu])) (fun i hi=>fX 0 ha i (by simp only[cu];exact List.mem_cons_of_mem _ hi)),fun ha=>h.gs.keeps k (fX 1 ha _ (by simp[cu])),fun ha=>h.gi.keeps k (fX 2 ha _ (by simp[cu])),fun ha=>h.pu.keeps k (fX 3 ha _ (by simp[cu])) (fX 3 ha _ (by simp[cu])) (fX 3 ha _ (by simp[cu])),fun ha=>h.wh.keeps k (fX 4 ha _ (by simp[cu])) (fun i hi=>fX 4 ha i (by simp only[cu];exact List.mem_cons_of_mem _ hi)),fun j s l hj h1 h2=>(h.se j s l h1 h2).keeps k (fun i hi=>fX (j+5) (fun e=>hj e.symm) i (by simp only[cu];rw[fI h1 h2];exact hi)) hT,h.sO.keeps k hT,h.low.1,Nat.le_trans h.low.2 k.size⟩
theorem dz.aI {t:bq} {N:Int} {w w':World} {base:Nat} {L:dG} {g:Gt} (h:dz t N w base L g) (k:I [] w w'):dz t N w' base L g:=by
 have hF: ∀a,∀i∈([]:List Nat),i∈cu L g.ss a:=fun a i hi=>by cases hi
 obtain⟨a0,-,-,-,-,-,a6,a7⟩:=h.others k 1 (hF 1);obtain⟨-,b1,b2,b3,b4,b5,-,-⟩:=h.others k 0 (hF 0);exact⟨a0 (by decide),b1 (by decide),b2 (by decide),b3 (by decide),b4 (by decide),fun j s l h1 h2=>b5 j s l (by omega) h1 h2,h.ap.same k.size,a6,a7,h.lens,h.jA⟩
theorem dz.more {t:bq} {N M:Int} {w:World} {base:Nat} {L:dG} {g:Gt} (h:dz t N w base L g) (hM:0≤N∧N≤M∧M≤100000000):dz t M w base L g:=⟨h.tm,h.gs,h.gi,h.pu,h.wh,fun k s l h1 h2=>(h.se k s l h1 h2).more hM,h.ap,h.sO,h.low,h.lens,h.jA⟩
theorem dz.pu_ {t:bq} {N:Int} {w w':World} {base:Nat} {L:dG} {g:Gt} (h:dz t N w base L g) {p':Pu} {F:List Nat} (hp:fS w' L.pb L.ph L.po p') (hl:p'.has.length=g.pu.has.length) (k:I F w w') (hF: ∀i∈F,i∈ [L.pb,L.ph,L.po]):dz t N w' base L {g with pu:=p'}:=by obtain⟨a0,a1,a2,-,a4,a5,a6,a7⟩:=h.others k 3 hF;exact⟨a0 (by decide),a1 (by decide),a2 (by decide),hp,a4 (by decide),fun j s l h1 h2=>a5 j s l (by omega) h1 h2,h.ap.same k.size,a6,a7,⟨h.lens.1,h.lens.2.1,h.lens.2.2.1,hl.trans h.lens.2.2.2.1,h.lens.2.2.2.2⟩,h.jA⟩
theorem dz.wh_ {t:bq} {N:Int} {w w':World} {base:Nat} {L:dG} {g:Gt} (h:dz t N w base L g) {v':Value} {l':List Int} (hp:rC w' L.wb g.n v' l') (k:I (L.wb::ae L.wv) w w') (hn: ∀i∈ae v',i∈ae L.wv∨w.heap.size≤i):dz t N w' base {L with wv:=v'} {g with wh:=l'}:=by
 obtain⟨a0,a1,a2,a3,-,a5,a6,a7⟩:=h.others k 4 (fun i hi=>hi);refine⟨a0 (by decide),a1 (by decide),a2 (by decide),a3 (by decide),hp,fun j s l h1 h2=>a5 j s l (by omega) h1 h2,h.ap.set 4 (fun b hb=> ?_) (fun i hi=> ?_) k.size h.low.2,a6,a7,h.lens,h.jA⟩
 ·rcases b with _|_|_|_|_|b<;>first|rfl|exact absurd rfl hb
 ·have hi:i∈L.wb::ae v':=hi;rcases List.mem_cons.1 hi with rfl|hi
  ·exact inl ms
  ·rcases hn i hi with h1|h1
   ·exact inl (List.mem_cons_of_mem _ h1)
   ·exact inr ⟨h1,(World.ownsRow.lt hp.row i (aa.1 hi)).2⟩
theorem dz.tm_ {t:bq} {N:Int} {w w':World} {base:Nat} {L:dG} {g:Gt} (h:dz t N w base L g) {aaJ:Int} {yv:Value} {tn':Nat} {M' G' F:List Nat} (hp:mP w' L.gb (IQ L g) [] 76 aaJ yv tn' M' G') (k:I F w w') (hF: ∀i∈F,i∈L.gb::(L.M++L.G)) (hn: ∀i∈M'++G',i∈L.M++L.G∨w.heap.size≤i) (ht:tn'≤g.many):dz t N w' base {L with now:=aaJ,mv:=yv,tn:=tn',M:=M',G:=G'} g:=by
 obtain⟨-,a1,a2,a3,a4,a5,a6,a7⟩:=h.others k 0 hF;refine⟨hp,a1 (by decide),a2 (by decide),a3 (by decide),a4 (by decide),fun j s l h1 h2=>a5 j s l (by omega) h1 h2,h.ap.set 0 (fun b hb=> ?_) (fun i hi=> ?_) k.size h.low.2,a6,a7,h.lens,⟨ht,h.jA.2⟩⟩
 ·rcases b with _|_|_|_|_|b<;>first|rfl|exact absurd rfl hb
 ·have hi:i∈L.gb::(M'++G'):=hi;rcases List.mem_cons.1 hi with rfl|hi
  ·exact inl ms
  ·rcases hn i hi with h1|h1
   ·exact inl (List.mem_cons_of_mem _ h1)
   ·exact inr ⟨h1,hp.map.lt i hi⟩
theorem oC {ss:List (Option ag)} {ls:List ie} {k:Nat} {x:Option ag} {l:ie} (h1:ss[k]? =some x) (h2:ls[k]? =some l):(gI ss ls)[k]? =some (JY x l):=by unfold gI;rw[List.getElem?_zipWith,h1,h2]
theorem nD {ss:List (Option ag)} {ls:List ie} {k:Nat} (x:Option ag) (l:ie) (h1:k<ss.length) (h2:k<ls.length):gI (ss.set k x) (ls.set k l)=(gI ss ls).set k (JY x l):=by
 unfold gI;apply List.ext_getElem?;intro i;by_cases hi:k=i
 ·subst hi;rw[List.getElem?_zipWith,List.getElem?_set_self h1,List.getElem?_set_self h2,List.getElem?_set_self (by rw[List.length_zipWith];omega)]
 ·rw[List.getElem?_zipWith,List.getElem?_set_ne hi,List.getElem?_set_ne hi,List.getElem?_set_ne hi,List.getElem?_zipWith]
theorem fv {α:Type} {l:List α} {k:Nat} {x:α} (h:l[k]? =some x):k<l.length:=(List.getElem?_eq_some_iff.1 h).1
theorem Bx {α:Type} {l:List α} {k:Nat} {x:α} (h:l[k]? =some x):l.set k x=l:=by
 apply List.ext_getElem?;intro i;by_cases hi:k=i
 ·subst hi;rw[List.getElem?_set_self (fv h),h]
 ·rw[List.getElem?_set_ne hi]
theorem ME {ss:List (Option ag)} {ls:List ie} {k j:Nat} (x:Option ag) (l:ie) (h:k≠j):jH (ss.set k x) (ls.set k l) j=jH ss ls j:=by unfold jH;rw[List.getElem?_set_ne h,List.getElem?_set_ne h]
theorem xc {L:dG} {ss:List (Option ag)} {k:Nat} (x:Option ag) (l:ie) (b:Nat) (hb:b≠k+5):cu {L with ls:=L.ls.set k l} (ss.set k x) b=cu L ss b:=by
 rcases b with _|_|_|_|_|b
 ·rfl
 ·rfl
 ·rfl
 ·rfl
 ·rfl
 ·exact ME x l (fun e=>hb (by rw[e]))
theorem dz.Zo {t:bq} {N M:Int} {w w':World} {base:Nat} {L:dG} {g:Gt} (h:dz t N w base L g) {k:Nat} {s s':ag} {l l':ie} (hk:g.ss[k]? =some (some s)) (hl:L.ls[k]? =some l) (hs:l'.sb=l.sb) (hp:XO t M w' base l' s') {F:List Nat} (kp:I F w w') (hF: ∀i∈F,i∈sB l) (hn: ∀i∈sB l',i∈sB l∨w.heap.size≤i) (hM:0≤N∧N≤M∧M≤100000000):dz t M w' base {L with ls:=L.ls.set k l'} {g with ss:=g.ss.set k (some s')}:=by
 have Vy:cu L g.ss (k+5)=sB l:=fI hk hl;have dU:=fv hk;have pg:=fv hl;obtain⟨a0,a1,a2,a3,a4,a5,a6,a7⟩:=h.others kp (k+5) (fun i hi=>by rw[Vy];exact hF i hi);have hv:gI (g.ss.set k (some s')) (L.ls.set k l')=gI g.ss L.ls:=by rw[nD _ _ dU pg];refine Bx ?_;rw[oC hk hl];simp only[JY,hs]
 refine⟨a0 (by omega),(a1 (by omega)).conv hv.symm,a2 (by omega),a3 (by omega),a4 (by omega),fun j s2 l2 h1 h2=> ?_,h.ap.set (k+5) (fun b hb=>xc _ _ b hb) (fun i hi=> ?_) kp.size h.low.2,a6,a7,⟨by simp[h.lens.1],by simp[h.lens.2.1],h.lens.2.2⟩,h.jA⟩
 ·by_cases hj:k=j
  ·subst hj;simp only at h1 h2;rw[List.getElem?_set_self dU] at h1;rw[List.getElem?_set_self pg] at h2;cases h1;cases h2;exact hp
  ·simp only at h1 h2;rw[List.getElem?_set_ne hj] at h1;rw[List.getElem?_set_ne hj] at h2;exact(a5 j s2 l2 (by omega) h1 h2).more hM
 ·have h0:cu {L with ls:=L.ls.set k l'} (g.ss.set k (some s')) (k+5)=sB l':=fI (List.getElem?_set_self dU) (List.getElem?_set_self pg);have RH:i∈sB l':=h0▸hi;rw[Vy];exact(hn i RH).imp id (fun h=>⟨h,(bk.lt hp i RH).2⟩)
theorem dz.ae1 {t:bq} {N:Int} {w w':World} {base:Nat} {L:dG} {g:Gt} (h:dz t N w base L g) {k:Nat} {s:ag} {l:ie} (hk:k<g.n) (hw:I [] w w') (hp:XO t N w' base l s) (hn: ∀i∈sB l,w.heap.size≤i):dz t N (w'.setCell ⟨L.gs,k,none⟩ (dF l.sb)) base {L with ls:=L.ls.set k l} {g with ss:=g.ss.set k (some s)}:=by
 have h':=h.aI hw;have dU:k<g.ss.length:=by rw[h.lens.1];exact hk
 have pg:k<L.ls.length:=by rw[h.lens.2.1];exact hk
 have kp:I [L.gs] w' (w'.setCell ⟨L.gs,k,none⟩ (dF l.sb)):=(I.refl [L.gs] _).ax _;obtain⟨a0,-,a2,a3,a4,a5,a6,a7⟩:=h'.others kp 1 (fun i hi=>hi);have hgs:L.gs<w.heap.size:=h.gs.lt;refine⟨a0 (by decide),(h'.gs.set k (dF l.sb)).conv (nD (some s) l dU pg).symm,a2 (by decide),a3 (by decide),a4 (by decide),fun j s2 l2 h1 h2=> ?_,h.ap.set (k+5) (fun b hb=>xc _ _ b hb) (fun i hi=> ?_) (Nat.le_trans hw.size kp.size) h.low.2,a6,a7,⟨by simp[h.lens.1],by simp[h.lens.2.1],h.lens.2.2⟩,h.jA⟩
 ·by_cases hj:k=j
  ·subst hj;simp only at h1 h2;rw[List.getElem?_set_self dU] at h1;rw[List.getElem?_set_self pg] at h2;cases h1;cases h2;exact bk.keeps hp kp (fun i hi hm=>by rw[List.mem_singleton] at hm;have:=hn i hi;omega) (fun i hi=>by rw[List.mem_singleton] at hi;rw[hi];exact Nat.lt_of_lt_of_le h.low.1 (h.ap.lt 1 L.gs (by simp[cu])).1)
  ·simp only at h1 h2;rw[List.getElem?_set_ne hj] at h1;rw[List.getElem?_set_ne hj] at h2;exact a5 j s2 l2 (by omega) h1 h2
 ·have h0:cu {L with ls:=L.ls.set k l} (g.ss.set k (some s)) (k+5)=sB l:=fI (List.getElem?_set_self dU) (List.getElem?_set_self pg);have RH:i∈sB l:=h0▸hi;exact inr ⟨hn i RH,Nat.lt_of_lt_of_le (bk.lt hp i RH).2 kp.size⟩
theorem dz.Vz {t:bq} {N:Int} {w:World} {base:Nat} {L:dG} {g:Gt} (h:dz t N w base L g) {k:Nat} (hk:k<g.n):dz t N (w.setCell ⟨L.gs,k,none⟩ (.pointer none)) base L {g with ss:=g.ss.set k none}:=by
 have dU:k<g.ss.length:=by rw[h.lens.1];exact hk
 have pg:k<L.ls.length:=by rw[h.lens.2.1];exact hk
 have kp:I [L.gs] w (w.setCell ⟨L.gs,k,none⟩ (.pointer none)):=(I.refl [L.gs] _).ax _;obtain⟨a0,-,a2,a3,a4,a5,a6,a7⟩:=h.others kp 1 (fun i hi=>hi);have Xm:L.ls.set k L.ls[k]=L.ls:=Bx (List.getElem?_eq_getElem pg);have hv:gI (g.ss.set k none) L.ls=(gI g.ss L.ls).set k (.pointer none):=by have:=nD none L.ls[k] dU pg;rw[Xm] at this;exact this
 refine⟨a0 (by decide),(h.gs.set k (.pointer none)).conv hv.symm,a2 (by decide),a3 (by decide),a4 (by decide),fun j s2 l2 h1 h2=> ?_,h.ap.set (k+5) (fun b hb=> ?_) (fun i hi=> ?_) kp.size h.low.2,a6,a7,⟨by simp[h.lens.1],h.lens.2⟩,h.jA⟩
 ·by_cases hj:k=j
  ·subst hj;simp only at h1;rw[List.getElem?_set_self dU] at h1;cases h1
  ·simp only at h1;rw[List.getElem?_set_ne hj] at h1;exact a5 j s2 l2 (by omega) h1 h2
 ·have:=xc (L:=L) (ss:=g.ss) none L.ls[k] b hb;rw[Xm] at this;exact this
 ·have h0:cu L (g.ss.set k none) (k+5)= []:=by show jH (g.ss.set k none) L.ls k= [];unfold jH;rw[List.getElem?_set_self dU,List.getElem?_eq_getElem pg];rfl
  have RH:i∈([]:List Nat):=h0▸hi;cases RH
theorem dz.ae2 {t:bq} {N:Int} {w:World} {base:Nat} {L:dG} {g:Gt} (h:dz t N w base L g) (k:Nat) (x:Int):dz t N (w.setCell ⟨L.gi,k,none⟩ (.int .i64 x)) base L {g with ids:=g.ids.set k x}:=by have kp:I [L.gi] w (w.setCell ⟨L.gi,k,none⟩ (.int .i64 x)):=(I.refl [L.gi] _).ax _;obtain⟨a0,a1,-,a3,a4,a5,a6,a7⟩:=h.others kp 2 (fun i hi=>hi);exact⟨a0 (by decide),a1 (by decide),(h.gi.set k _).conv (by simp[fe,List.map_set]),a3 (by decide),a4 (by decide),fun j s l h1 h2=>a5 j s l (by omega) h1 h2,h.ap.same kp.size,a6,a7,⟨h.lens.1,h.lens.2.1,by simp[h.lens.2.2.1],h.lens.2.2.2⟩,h.jA⟩
theorem dz.aaK {t:bq} {N:Int} {w:World} {base:Nat} {L:dG} {g:Gt} (h:dz t N w base L g) (m:Nat) (hm:g.many≤m∧m≤1000):dz t N (w.setCell ⟨L.gb,2,none⟩ (.int .i64 m)) base L {g with many:=m}:=by have kp:I [L.gb] w (w.setCell ⟨L.gb,2,none⟩ (.int .i64 m)):=(I.refl [L.gb] _).ax _;obtain⟨-,a1,a2,a3,a4,a5,a6,a7⟩:=h.others kp 0 m1;exact⟨⟨(h.tm.az.set 2 _).conv rfl,h.tm.map.keeps kp (fun i hi hm=>h.tm.own (by rw[List.mem_singleton] at hm;exact hm▸hi)),h.tm.own⟩,a1 (by decide),a2 (by decide),a3 (by decide),a4 (by decide),fun j s l h1 h2=>a5 j s l (by omega) h1 h2,h.ap.same kp.size,a6,a7,h.lens,⟨Nat.le_trans h.jA.1 hm.1,hm.2⟩⟩
theorem dz.cells {t:bq} {N:Int} {w:World} {base:Nat} {L:dG} {g:Gt} (h:dz t N w base L g):w.cell? ⟨L.gb,0,none⟩=some (.slice (some ⟨L.gs,0,none⟩) g.n g.n)∧w.cell? ⟨L.gb,1,none⟩=some (.slice (some ⟨L.gi,0,none⟩) g.n g.n)∧w.cell? ⟨L.gb,2,none⟩=some (.int .i64 g.many)∧w.cell? ⟨L.gb,3,none⟩=some (dF L.pb)∧w.cell? ⟨L.gb,4,none⟩=some (dF L.wb)∧L.gb<w.heap.size∧(∀j,w.frozen? ⟨L.gb,j,none⟩=false):=⟨h.tm.az.cell 0,h.tm.az.cell 1,h.tm.az.cell 2,h.tm.az.cell 3,h.tm.az.cell 4,h.tm.az.lt,fun j=>h.tm.az.free j⟩
theorem dz.slot {t:bq} {N:Int} {w:World} {base:Nat} {L:dG} {g:Gt} (h:dz t N w base L g) {k:Nat} {s:ag} (hk:g.ss[k]? =some (some s)): ∃l,L.ls[k]? =some l∧w.cell? ⟨L.gs,k,none⟩=some (dF l.sb)∧XO t N w base l s:=by
 have dU:=fv hk;have pg:k<L.ls.length:=by rw[h.lens.2.1,←h.lens.1];exact dU
 refine⟨L.ls[k],List.getElem?_eq_getElem pg,?_,h.se k s _ hk (List.getElem?_eq_getElem pg)⟩;rw[h.gs.cell,oC hk (List.getElem?_eq_getElem pg)];rfl
theorem dz.free {t:bq} {N:Int} {w:World} {base:Nat} {L:dG} {g:Gt} (h:dz t N w base L g) {k:Nat} (hk:g.ss[k]? =some none):w.cell? ⟨L.gs,k,none⟩=some (.pointer none):=by
 have dU:=fv hk;have pg:k<L.ls.length:=by rw[h.lens.2.1,←h.lens.1];exact dU
 rw[h.gs.cell,oC hk (List.getElem?_eq_getElem pg)];rfl
theorem dz.id {t:bq} {N:Int} {w:World} {base:Nat} {L:dG} {g:Gt} (h:dz t N w base L g) {k:Nat} {x:Int} (hk:g.ids[k]? =some x):w.cell? ⟨L.gi,k,none⟩=some (.int .i64 x):=by rw[h.gi.cell,fe,List.getElem?_map,hk];rfl
def fJ (t:bq) (N:Int) (w:World) (base gb:Nat) (g:Gt) (v:Value) (r:Ending) (w':World):Prop:=
 r= .returned v∧∃L',dz t N w' base L' g∧L'.gb=gb∧Below base w w'
theorem dz.below {t:bq} {N:Int} {w w':World} {base:Nat} {L:dG} {g:Gt} (h:dz t N w base L g) {F:List Nat} (k:I F w w') (a:Nat) (hF: ∀i∈F,i∈cu L g.ss a):Below base w w':=k.below h.low.2 (fun i hi=>(h.ap.lt a i (hF i hi)).1)
theorem dz.fw {t:bq} {N:Int} {w w':World} {base:Nat} {L:dG} {g:Gt} (h:dz t N w base L g) (k:I [] w w'):Below base w w':=k.below h.low.2 nn
theorem QB {t:bq} {N:Int} {w:World} {base:Nat} {L:dG} {g:Gt} (h:dz t N w base L g) {k:Nat} (hk:k<g.n) (jW:g.pu.bu.getD k false=true) {cg cs:Nat} (Uc:w.cell? ⟨cg,0,none⟩=some (dF L.gb)) (tN:w.cell? ⟨cs,0,none⟩=some (.int .i64 k)) (n:Int) (hn:0≤n∧n≤40000) (hm:n≤g.pu.may k):Calls prog 45 #[.int .i64 n,.pointer (some ⟨cg,0,none⟩),.pointer (some ⟨cs,0,none⟩)] w fun e w'=>e= .returned (.bool true)∧dz t N w' base L (g.xn k n)∧I [L.ph] w w':=by
 obtain⟨-,-,-,c3,-,bP,-⟩:=h.cells;simp only[dF] at Uc c3;have M9:k<g.pu.has.length:=by rw[h.lens.2.2.2.1];exact hk
 have HS:=hid (fun W (kk:I [] w W)=>y5 W L.pb L.ph L.po g.pu (h.aI kk).pu k M9 jW n hn hm);have H:=hid h;clear h jW hn hm M9;go_enter func45,ntmps45;go_wp2_with fail
 go_still_tail 6,(by kernel_rfl);change wpList _ _ _ _ _ w.drew;go_wp2_with fail
 refine(HS.out _ (I.refl [] w).drew).mono ?_;rintro e w1 ⟨rfl,g1,k1⟩;have G1:=hid ((H.out.aI (I.refl [] w).drew).pu_ g1 (by simp) k1 (by simp));have K1:=hid ((I.refl [L.ph] w).drew.trans k1);clear g1 k1;go_wp2_with fail
 go_ret;exact⟨rfl,G1.out,K1.out⟩
theorem Sr {t:bq} {N:Int} {w:World} {base:Nat} {L:dG} {g:Gt} (h:dz t N w base L g) {k:Nat} {s:ag} {l:ie} (hk:g.ss[k]? =some (some s)) (hl:L.ls[k]? =some l) (id:Nat) (aaL:g.ids[k]? =some (id:Int)) (hm:((id:Int).tmod g.n)=k) (hb:id≤1000):Calls prog 37 #[.pointer (some ⟨L.gb,0,none⟩),.int .i64 id] w fun e w'=>e= .returned (.tuple #[.pointer (some ⟨l.sb,0,none⟩),.int .i64 k])∧I [] w w':=by
 obtain⟨c0,c1,-,-,-,bP,-⟩:=h.cells;obtain⟨l',Wi,cs,-⟩:=h.slot hk;rw[hl] at Wi;injection Wi with Wi;subst Wi;simp only[dF] at cs;have ci:=h.id aaL;have dU:=fv hk;rw[h.lens.1] at dU;have ju:=h.lens.2.2.2.2;have By:(k:Int)<(g.n:Int):=by omega
 have BH:(0:Int)≤(k:Int):=by omega
 have Fw: ¬ (g.n:Int)=0:=by omega
 have ama: ¬ (id:Int)<0:=by omega
 have hw:IntKind.i64.wrap ((id:Int).tmod g.n)=k:=by rw[hm,IntKind.wrap_i64];omega
 have heq:((id:Int)==(id:Int))=true:=by simp
 clear h hk hl aaL;go_enter func37,ntmps37;go_wp2_with fail
 go_ret2;exact⟨rfl,I.refl [] _⟩
theorem xd {t:bq} {N:Int} {w:World} {base:Nat} {l:ie} {s:ag} (h:XO t N w base l s):(cT s.q:Int)≤s.bj:=by
 unfold ag.bj;cases hp:s.p with
 |none=>simp only[];split<;>omega
 |some p=>have Fz:=bk.pipe h;rw[hp] at Fz;obtain⟨pb,bs,-,-,E5⟩:=Fz;obtain⟨h1,h2⟩:=tG E5;simp only[];split<;>omega
theorem kS {t:bq} {N:Int} (hN:0≤N) {w:World} {base:Nat} {L:dG} {g:Gt} (h:dz t N w base L g) {k:Nat} {s:ag} (hk:g.ss[k]? =some (some s)) (jW:g.pu.bu.getD k false=true) (kn:s.bj≤40000) (hm:s.bj≤g.pu.may k):Calls prog 33 #[.pointer (some ⟨L.gb,0,none⟩),.int .i64 k] w fun e w'=>e= .returned (.tuple #[])∧dz t N w' base L (g.xn k s.bj)∧I [L.ph] w w':=by
 obtain⟨c0,-,-,c3,-,bP,-⟩:=h.cells;obtain⟨l,hl,cs,yr⟩:=h.slot hk;simp only[dF] at cs c3;have dU:=fv hk;rw[h.lens.1] at dU;have ju:=h.lens.2.2.2.2;have By:(k:Int)<(g.n:Int):=by omega
 have BH:(0:Int)≤(k:Int):=by omega
 have M9:k<g.pu.has.length:=by rw[h.lens.2.2.2.1];exact dU
 have hcq:=xd yr;have hc:0≤s.bj∧s.bj≤40000:=⟨by omega,kn⟩
 have HC:=hid (fun W (kk:I [] w W)=>E6 hN (bk.aI yr kk) (by omega));have HS:=hid (fun W (kk:I [] w W)=>y5 W L.pb L.ph L.po g.pu (h.aI kk).pu k M9 jW s.bj hc hm);have H:=hid h;have mo:L.gb∉[L.ph]:=fun hm=>h.ap.ne 0 3 L.gb (by decide) (by simp[cu]) (by rw[List.mem_singleton] at hm;rw[hm];simp[cu]);have iP:L.gs∉[L.ph]:=fun hm=>h.ap.ne 1 3 L.gs (by decide) (by simp[cu]) (by rw[List.mem_singleton] at hm;rw[hm];simp[cu]);have L3: ∀w',I [L.ph] w w'→w'.cell? ⟨L.gb,3,none⟩=some (.pointer (some ⟨L.pb,0,none⟩)):=fun w' kk=>kk.cell c3 mo;have L8: ∀w',I [L.ph] w w'→w'.cell? ⟨L.gb,0,none⟩=some (.slice (some ⟨L.gs,0,none⟩) g.n g.n):=fun w' kk=>kk.cell c0 mo;have L11: ∀w',I [L.ph] w w'→w'.cell? ⟨L.gs,k,none⟩=some (.pointer (some ⟨l.sb,0,none⟩)):=fun w' kk=>kk.cell cs iP;clear h jW hm hc kn hcq M9 hk hl yr c0 c3 cs;go_enter func33,ntmps33;go_wp2_with fail
 refine rg (fun w'=>I [L.ph] w w') ((I.refl [L.ph] w).drew) fun HH=> ?_;refine tk 0 HH.out ?_;try simp only[gz]
 refine tk 1 HH.out ?_;try simp only[gz]
 refine tk 2 HH.out ?_;try simp only[gz]
 refine tf 3 L3 HH.out ?_;try simp only[gz]
 refine tk 4 HH.out ?_;try simp only[gz]
 refine tk 5 HH.out ?_;try simp only[gz]
 refine tk 6 HH.out ?_;try simp only[gz]
 refine tk 7 HH.out ?_;try simp only[gz]
 refine tf 8 L8 HH.out ?_;try simp only[gz]
 refine tk 9 HH.out ?_;try simp only[gz]
 refine tk 10 HH.out ?_;try simp only[gz]
 refine tf 11 L11 HH.out ?_;try simp only[gz]
 refine rd 12 fun K hK=> ?_;go_simp;refine(HC.out _ ((I.refl [] w).drew)).mono ?_;rintro e1 w1 ⟨rfl,m,rfl⟩;try simp only[]
 refine hK.out _ _ ((HH.out.drewN m)) fun HH=> ?_;clear hK K;refine rd 13 fun K hK=> ?_;go_simp;refine(HS.out _ ((I.refl [] w).drewN _)).mono ?_;rintro e2 w2 ⟨rfl,g2,k2⟩;try simp only[]
 clear HH;refine hK.out _ _ (((I.refl [L.ph] w).drewN _).trans k2) fun HH=> ?_;clear hK K;refine wpAnyH_done (by kernel_rfl) ?_ _;have G2:=hid ((H.out.aI ((I.refl [] w).drewN (1+m))).pu_ g2 (by simp) k2 (by simp));have K2:=hid (((I.refl [L.ph] w).drewN (1+m)).trans k2);clear g2 k2;go_wp2_with fail
 refine bodyPost_end (results_none rfl _ _ _) rfl ?_;exact⟨rfl,G2.out,K2.out⟩
end Go.Proofs.YthffblhdjjbkaaaGreat
namespace Go.Tru
structure At (g:Gt) (k id:Nat) (s:ag):Prop where
 s_:g.ss[k]? =some (some s)
 i_:g.ids[k]? =some (id:Int)
 m_:(id:Int).tmod g.n=k
 b_:id≤1000
 o_:g.pu.bu.getD k false=true
def Gt.put (g:Gt) (k:Nat) (s:ag):Gt:=(g.xz k s).xn k s.bj
def Gt.fits (g:Gt) (k:Nat) (s:ag):Prop:=s.bj≤40000∧s.bj≤g.pu.may k
theorem At.xz {g:Gt} {k id:Nat} {s s':ag} (h:At g k id s):At (g.xz k s') k id s':=⟨List.getElem?_set_self ((List.getElem?_eq_some_iff.1 h.s_).1),h.i_,h.m_,h.b_,h.o_⟩
end Go.Tru
namespace Go.Proofs.YthffblhdjjbkaaaGreat
open Go.RowKit Go.Tru
theorem JZ {l:ie}: ∀i∈ [l.rb,l.rg],i∈sB l:=fun i hi=>by
 simp only[List.mem_cons,List.not_mem_nil,or_false] at hi
 rcases hi with rfl|rfl
 · exact nP ..
 · exact FJ ..
theorem Fe {t:bq} {N:Int} {w:World} {base:Nat} {L:dG} {g:Gt} (h:dz t N w base L g) {k:Nat} (hk:k≤1000):Calls prog 40 #[.pointer (some ⟨L.gb,5,none⟩),.int .i64 k] w fun e w'=>(∃y,e= .returned (.bool y))∧dz t N w' base L g∧Below base w w':=by refine(Fa w L.gb (IQ L g) [] _ L.now L.mv L.tn L.M L.G h.tm 5 rfl k hk).mono ?_;rintro e w' ⟨h1,h2,h3⟩;have hF: ∀i∈L.G,i∈L.gb::(L.M++L.G):=fun i hi=>List.mem_cons_of_mem _ (List.mem_append_right _ hi);exact⟨h1,h.tm_ h2 h3 hF (fun i hi=>inl hi) h.jA.1,h.below h3 0 hF⟩
theorem kT {t:bq} {N:Int} {w w':World} {base:Nat} {L:dG} {g:Gt} (h:dz t N w base L g) (k:I [L.ph] w w'):Below base w w':=h.below k 3 (by simp[cu])
theorem qE {t:bq} {N:Int} {w w':World} {base:Nat} {L:dG} {g:Gt} (h:dz t N w base L g) {F:List Nat} (k:I F w w') {j:Nat} {s:ag} {l:ie} (h1:g.ss[j]? =some (some s)) (h2:L.ls[j]? =some l) (hF: ∀i∈F,i∈sB l):Below base w w':=
 h.below k (j+5) (fun i hi=>by
  have:cu L g.ss (j+5)=sB l:=fI h1 h2
  rw[this];exact hF i hi)
theorem uB {t:bq} {N:Int} (hN:0≤N∧N≤100000000) {w:World} {base:Nat} {L:dG} {g:Gt} (h:dz t N w base L g) {k id:Nat} {s:ag} (a:At g k id s) (b:ByteArray) (hb:b.size≤1000000) (hf:g.fits k (s.feed b.data.toList (g.pu.left k)).2):Calls prog 11 #[.pointer (some ⟨L.gb,0,none⟩),.int .i64 id,.string b] w (fJ t N w base L.gb (g.put k (s.feed b.data.toList (g.pu.left k)).2) (.int .i64 (s.feed b.data.toList (g.pu.left k)).1)):=by
 obtain⟨l,hl,-,-⟩:=h.slot a.s_;have dU:=fv a.s_;rw[h.lens.1] at dU;have ju:=h.lens.2.2.2.2;obtain⟨-,-,-,c3,-,bP,-⟩:=h.cells;simp only[dF] at c3;obtain⟨room,dH⟩: ∃r,g.pu.left k=r:=⟨_,rfl⟩
 have HL:=hid (fun W (kk:I [] w W)=>II W L.pb L.ph L.po g.pu (h.aI kk).pu k (by rw[h.lens.2.2.2.1];exact dU) a.o_);rw[dH] at HL hf⊢;have HF:=hid (fun W (kk:I [] w W)=>XI ((h.aI kk).se k s l a.s_ hl) b hb room);obtain⟨⟨n,s2⟩,hfd⟩: ∃f,s.feed b.data.toList room=f:=⟨_,rfl⟩
 rw[hfd] at HF hf⊢;simp only at HF hf⊢;have HO:=hid (Sr h a.s_ hl id a.i_ a.m_ a.b_);have HH:=hid h;have HA:=hid a;have UT:=hid hf;have zB:=hid hl;clear h a hf hfd dH hl;go_enter func11,ntmps11;go_wp2_with fail
 refine HO.out.mono ?_;rintro e1 w1 ⟨rfl,k1⟩;have d3:=k1.cell c3 (by simp);have Ca:=Nat.lt_of_lt_of_le bP k1.size;have K1:=hid k1;clear k1 c3;go_wp2_with fail
 refine(HL.out w1 K1.out).mono ?_;rintro e2 w2 ⟨rfl,k2⟩;have K2:=hid (K1.out.trans k2);clear k2;go_wp2_with fail
 refine(HF.out w2 K2.out).mono ?_;rintro e3 w3 ⟨rfl,g3,k3⟩;have h2:=HH.out.aI K2.out;have h3:=h2.Zo HA.out.s_ zB.out (l':=l) rfl g3 k3 JZ (fun i hi=>inl hi) ⟨hN.1,Int.le_refl _,hN.2⟩;have Kt:=HA.out.xz (s':=s2);have HC:=hid (kS hN.1 h3 (k:=k) (s:=s2) Kt.s_ Kt.o_ UT.out.1 UT.out.2);have B3:=hid ((HH.out.fw K2.out).trans (qE h2 k3 HA.out.s_ zB.out JZ));have H3:=hid h3;clear h2 h3 Kt g3 k3;go_wp2_with fail
 refine HC.out.mono ?_;rintro e4 w4 ⟨rfl,g4,k4⟩;have B4:=hid (B3.out.trans (kT H3.out k4));have HT:=hid (Fe g4 (k:=k) (by omega));have e4l:=g4.cells.2.2.2.2.2.1;have G4:=hid g4;clear g4 k4;by_cases Fw:n=0
 ·subst Fw;go_wp2_with fail
  go_ret;exact⟨rfl,_,G4.out,rfl,B4.out⟩
 ·have hnp:(0:Int)<(n:Int):=by omega
  go_wp2_with fail
  refine HT.out.mono ?_;rintro e5 w5 ⟨⟨y,rfl⟩,g5,b5⟩;have G5:=hid g5;clear g5;go_wp2_with fail
  go_ret;exact⟨rfl,_,G5.out,rfl,B4.out.trans b5⟩
open Go.K0 in
theorem QC {t:bq} {N:Int} (hN:0≤N∧N≤100000000) {w:World} {base:Nat} {L:dG} {g:Gt} (h:dz t N w base L g) {k id:Nat} {s:ag} (a:At g k id s) (hf:g.fits k (if(s.half||s.ended)=true then s else{s with half:=true})):Calls prog 15 #[.pointer (some ⟨L.gb,0,none⟩),.int .i64 id] w (fJ t N w base L.gb (g.put k (if(s.half||s.ended)=true then s else{s with half:=true})) (.bool (!(s.half||s.ended)))):=q17
open Go.K1 in
theorem QD {t:bq} {N:Int} (hN:0≤N∧N≤100000000) {w:World} {base:Nat} {L:dG} {g:Gt} (h:dz t N w base L g) {k id:Nat} {s:ag} (a:At g k id s) (he:s.ended=false) (hq:cT s.q≤1000000) (hf:g.fits k (s.end_ 13 s.told)):Calls prog 14 #[.pointer (some ⟨L.gb,0,none⟩),.int .i64 id] w (fJ t N w base L.gb (g.put k (s.end_ 13 s.told)) (.bool true)):=q17
theorem Ud {t:bq} {N:Int} {w:World} {base:Nat} {L:dG} {g:Gt} (h:dz t N w base L g) {k id:Nat} {s:ag} (a:At g k id s):Calls prog 16 #[.pointer (some ⟨L.gb,0,none⟩),.int .i64 id] w (fJ t N w base L.gb g (.tuple #[.int .i64 s.e,.bool s.ended])):=by
 obtain⟨l,hl,-,-⟩:=h.slot a.s_;have HF:=hid (fun W (kk:I [] w W)=>T7 ((h.aI kk).se k s l a.s_ hl));have HO:=hid (Sr h a.s_ hl id a.i_ a.m_ a.b_);have HH:=hid h;clear h a hl;generalize s.e=E at*;generalize s.ended=D at*;go_enter func16,ntmps16;go_wp2_with fail
 refine HO.out.mono ?_;rintro e1 w1 ⟨rfl,k1⟩;have K1:=hid k1;clear k1;go_wp2_with fail
 refine(HF.out w1 K1.out).mono ?_;rintro e2 w2 ⟨rfl,k2⟩;have K2:=hid (K1.out.trans k2);clear k2;go_wp2_with fail
 go_ret2;exact⟨rfl,_,HH.out.aI K2.out,rfl,HH.out.fw K2.out⟩
theorem Ue {t:bq} {N:Int} {w:World} {base:Nat} {L:dG} {g:Gt} (h:dz t N w base L g):Calls prog 18 #[.pointer (some ⟨L.gb,0,none⟩)] w (fJ t N w base L.gb g (.int .i64 g.pu.has.sum)):=by
 obtain⟨-,-,-,c3,-,bP,-⟩:=h.cells;simp only[dF] at c3;have HF:=hid (fun W (kk:I [] w W)=>E9 W L.pb L.ph L.po g.pu (h.aI kk).pu);have HH:=hid h;clear h;generalize g.pu.has.sum=D at*;go_enter func18,ntmps18;go_wp2_with fail
 refine(HF.out w (I.refl [] w)).mono ?_;rintro e1 w1 ⟨rfl,rfl⟩;go_wp2_with fail
 go_ret;exact⟨rfl,_,HH.out,rfl,Below.refl _ _⟩
def _root_.Go.Tru.oD (l:List (Option ag)):Nat:=(l.filter Option.isSome).length
theorem QE (l:List (Option ag)):oD l≤l.length:=List.length_filter_le _ _
theorem xe {l:List (Option ag)} {k:Nat} {x:Option ag} (h:l[k]? =some x):oD (l.take (k+1))=oD (l.take k)+(if x.isSome then 1 else 0):=by obtain⟨hk,hx⟩:=List.getElem?_eq_some_iff.1 h;unfold oD;rw[List.take_succ_eq_append_getElem hk,List.filter_append,List.length_append,hx];cases x<;>simp
def Uf (g:Gt) (w:World) (f i:Value) (wr:World):Prop:=
 ∃k:Nat,k≤g.n∧i= .int .i64 k∧I [] w wr∧∃l:List Int,dB wr f l∧l.length=oD (g.ss.take k)∧∀i∈ae f,w.heap.size≤i
theorem IS {t:bq} {N:Int} {w:World} {base:Nat} {L:dG} {g:Gt} (h:dz t N w base L g):Calls prog 17 #[.pointer (some ⟨L.gb,0,none⟩)] w fun e w'=>∃a c,e= .returned (.slice a (oD g.ss) c)∧dz t N w' base L g∧Below base w w':=by
 obtain⟨c0,c1,-,-,-,bP,-⟩:=h.cells;have hlen:=h.lens.1;have ju:=h.lens.2.2.2.2;have H:=hid h;clear h;go_enter func17,ntmps17;go_wp2_with fail
 go_loopw [3,13] (fun f i wr=>Uf g w f i wr) (fun _ i _=>g.n- (intOf i).toNat);case atStart=>exact⟨0,Nat.zero_le _,rfl,I.refl _ _,[],dB.nil _,by simp[oD],fun i hi=>by cases hi⟩
 case round=>
  obtain⟨k,hk,rfl,kw,nl,au,FM,qg⟩:=hrel;have HK:=hid kw;have hG:=H.out.aI kw;obtain⟨c0,c1,-,-,-,bP,-⟩:=hG.cells;by_cases dD:k<g.n
  ·have xw:(k:Int)<(g.n:Int):=by omega
   have BH:(0:Int)≤(k:Int):=by omega
   have eK:=da (x:=(k:Int)+1) (by omega);obtain⟨x,hx⟩: ∃x,g.ss[k]? =some x:=⟨_,List.getElem?_eq_getElem (by omega)⟩
   cases x with
   |none=>
    have cs:=hG.free hx;have hsu:=xe hx;have HG:=hid hG;clear hG kw;go_wp2_with fail
    go_roundw;case rel=>exact⟨k+1,by omega,by go_num,HK.out,nl,au,by rw[hsu];simpa using FM,qg⟩
    case measure=>simp[intOf];omega
   |some s=>
    obtain⟨l,hl,cs,-⟩:=hG.slot hx;simp only[dF] at cs;have hsu:=xe hx;have By:k<g.ids.length:=by rw[H.out.lens.2.2.1];exact dD
    have ci:=hG.id (List.getElem?_eq_getElem By);obtain⟨y,hy⟩: ∃y,g.ids[k]=y:=⟨_,rfl⟩
    rw[hy] at ci;have HG:=hid hG;have FB:=QE (g.ss.take k);have hle:nl.length≤8:=by rw[FM];rw[List.length_take] at FB;omega
    have Vx:=hid au;have CA:=hid qg;obtain⟨a,c,rfl⟩:=au.shape;clear hG kw au qg;go_wp2_with (at_builtin;go_must (refine Bv rfl _ _ rfl _ nl rfl (ab Vx.out ((I.refl [] _).alloc _) (by simp)) ⟨_,0,none⟩ y rfl (aA [.int .i64 y] (by simp) 0 _ rfl) (by omega) ?_))
    intro v4 w4 dx re nK;have k4:=(HK.out.alloc (.cells #[.int .i64 y] 3)).trans' re (fun i hi=>inr (CA.out i (by rw[lp a _ _ nl.length c] at hi;exact hi)));have QF: ∀i∈ae v4,w.heap.size≤i:=fun i hi=>by
     have hz:=HK.out.size;rcases nK with h1|h1
     ·rw[aa,h1,←aa,lp a _ _ nl.length c] at hi;exact CA.out i hi
     ·rw[aa,h1] at hi;injection hi with hi;first|omega|(simp at hi;omega)
    have YX:=hid dx;have uh:=hid k4;have XP:=hid QF;clear dx re nK k4 QF;go_wp2_with fail
    go_roundw;case rel=>exact⟨k+1,by omega,by go_num,uh.out,_,YX.out,by rw[List.length_append,FM,hsu];rfl,XP.out⟩
    case measure=>simp[intOf];omega
  ·obtain rfl:k=g.n:=by omega
   have xw: ¬ ((g.n:Nat):Int)<(g.n:Int):=by omega
   rw[List.take_of_length_le (by omega)] at FM;obtain⟨a,c,rfl⟩:=au.shape;rw[FM];have HG:=hid hG;clear hG kw;go_wp2_with fail
   go_ret;exact⟨⟨a,c,rfl⟩,HG.out,H.out.fw HK.out⟩
end Go.Proofs.YthffblhdjjbkaaaGreat
