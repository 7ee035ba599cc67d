/- lexer.Lexer in memory; lexer.Lexer.between -/
import Derived.Test.YthffblhdjjbkaaaGreatM8
import Derived.Test.YthffblhdjjbkaaaGreatM10
set_option maxHeartbeats 100000000
set_option maxRecDepth 1000000
open Go.Lib (hid)
open Go.Proofs.Tryz
open Or (inl inr)
namespace Go.Tru
def Lex.cells (L:Lex) (p v:Value):List Value:=
 [.int .i64 L.state]++L.r.cells++[p,v]++L.n.cells++[.string ⟨L.rest.toArray⟩,.int .u8 L.kind,.int .i64 L.e]
theorem Lex.gK (L:Lex) (p v:Value):(L.cells p v).length=23:=by simp[Lex.cells,cA.cells,cm.cells,cM.cells]
theorem Lex.uA (L:Lex) (p v:Value) (post:List Value):L.cells p v++post= [.int .i64 L.state]++L.r.cells++([p,v]++L.n.cells++[.string ⟨L.rest.toArray⟩,.int .u8 L.kind,.int .i64 L.e]++post):=by simp[Lex.cells]
theorem Lex.nB (L:Lex) (p v:Value) (post:List Value):L.cells p v++post=([.int .i64 L.state]++L.r.cells)++[p,v]++(L.n.cells++[.string ⟨L.rest.toArray⟩,.int .u8 L.kind,.int .i64 L.e]++post):=by simp[Lex.cells]
theorem Lex.rm (L:Lex) (p v:Value) (post:List Value):L.cells p v++post=([.int .i64 L.state]++L.r.cells++[p,v])++L.n.cells++([.string ⟨L.rest.toArray⟩,.int .u8 L.kind,.int .i64 L.e]++post):=by simp[Lex.cells]
theorem du {w:World} {b:Nat} {post:List Value} {T:TypeId} {L:Lex} {p v:Value} (h:Has w b (L.cells p v++post) T):w.cell? ⟨b,0,none⟩=some (.int .i64 L.state)∧w.cell? ⟨b,20,none⟩=some (.string ⟨L.rest.toArray⟩)∧w.cell? ⟨b,21,none⟩=some (.int .u8 L.kind)∧w.cell? ⟨b,22,none⟩=some (.int .i64 L.e)∧b<w.heap.size:=⟨h.cell 0,h.cell 20,h.cell 21,h.cell 22,h.lt⟩
theorem eV {w:World} {b:Nat} {cs:List Value} {T:TypeId} (h:Has w b cs T):w.frozen? ⟨b,0,none⟩=false∧w.frozen? ⟨b,20,none⟩=false∧w.frozen? ⟨b,21,none⟩=false∧w.frozen? ⟨b,22,none⟩=false:=⟨h.free 0,h.free 20,h.free 21,h.free 22⟩
theorem TH (l:List ej): ∀u∈l.flatMap ej.cells,u.oneCell'=true:=by intro u hu;obtain⟨e,_,h⟩:=List.mem_flatMap.1 hu;simp only[ej.cells,List.mem_cons,List.not_mem_nil,or_false] at h;rcases h with rfl|rfl|rfl|rfl<;>rfl
theorem AN (l:List ej):(l.flatMap ej.cells).length=l.length*4:=by
 induction l with
 |nil=>rfl
 |cons t l ih=>simp only[List.flatMap_cons,List.length_append,ih,List.length_cons];simp[ej.cells];omega
def cZ (w:World) (B:Nat) (v:Value) (l:List ej):Prop:=w.ownsRow B 209 4 v l.length (l.flatMap ej.cells)∧(l= []→v= .slice none 0 0)
theorem cZ.nil (w:World) (B:Nat):cZ w B (.slice none 0 0) []:=⟨World.ownsRow_nil _ _ _ _,fun _=>rfl⟩
def DX (w:World) (base:Nat) (v:Value) (l:List ej):Prop:=w.ownsRow base 209 4 v l.length (l.flatMap ej.cells)
theorem cZ.one (w:World) (B:Nat) (hB:B≤w.heap.size) (t:ej) {n:Nat} (hn:n=w.heap.size):cZ (w.alloc (.cells t.cells.toArray 209)) B (.slice (some ⟨n,0,none⟩) 1 1) [t]:=by subst hn;refine⟨⟨by simp[ej.cells],inr ⟨w.heap.size,1,t.cells.toArray,rfl,hB,heap_alloc_new w _,Nat.le_refl _,by unfold maxLen;omega,by simp[ej.cells],by simp[ej.cells]⟩⟩,fun h=>by cases h⟩
theorem cZ.keeps {F:List Nat} {w w':World} {B:Nat} {v:Value} {l:List ej} (h:cZ w B v l) (k:I F w w') (hF: ∀i∈ae v,i∉F):cZ w' B v l:=⟨ab h.1 k (fun i hi=>hF i (aa.2 hi)),h.2⟩
end Go.Tru
namespace Go.Proofs.YthffblhdjjbkaaaGreat
open Go.RowKit Go.Tru
def dK (w:World) (base b:Nat) (post:List Value) (T:TypeId) (L:Lex) (F:List Nat):Prop:=
 (b∈F∧∀i∈F,i<w.heap.size)∧∃p v,Has w b (L.cells p v++post) T∧(L.state=1→L.e=0→(p= .pointer none∨p= .pointer (some ⟨b,10,none⟩))∧je w base v L.s∧∀i∈ae v,i∈F)
def gj (w:World) (base b:Nat) (post:List Value) (T:TypeId) (F:List Nat) (L':Lex) (w':World):Prop:=
 ∃F',dK w' base b post T L' F'∧I F w w'∧∀i∈F',i∈F∨w.heap.size≤i
def Ih (T:TypeId) (k:Nat):Prop:=Ps T (23+k) 10
theorem Ih.at_ {T:TypeId} {post:List Value} (h:Ih T post.length) (L:Lex):Ps T (([Value.int .i64 L.state]++L.r.cells).length+2+(L.n.cells++[Value.string ⟨L.rest.toArray⟩,.int .u8 L.kind,.int .i64 L.e]++post).length) 10:=by
 have e:([Value.int .i64 L.state]++L.r.cells).length+2+(L.n.cells++[Value.string ⟨L.rest.toArray⟩,.int .u8 L.kind,.int .i64 L.e]++post).length=23+post.length:=by simp[cA.cells,cm.cells,cM.cells];omega
 rw[e];exact h
theorem JJ (L:Lex):10=([Value.int .i64 L.state]++L.r.cells).length:=by simp[cA.cells,cm.cells]
theorem Vk (L:Lex) (p v:Value):12=([Value.int .i64 L.state]++L.r.cells++[p,v]).length:=by simp[cA.cells,cm.cells]
theorem je.keeps {F:List Nat} {w w':World} {base:Nat} {v:Value} {l:List UInt8} (h:je w base v l) (k:I F w w') (hF: ∀i∈ae v,i∉F):je w' base v l:=ab h k (fun i hi=>hF i (aa.2 hi))
theorem dK.keeps {G:List Nat} {w w':World} {base b:Nat} {post:List Value} {T:TypeId} {L:Lex} {F:List Nat} (h:dK w base b post T L F) (k:I G w w') (hF: ∀i∈F,i∉G):dK w' base b post T L F:=by obtain⟨⟨hb,dD⟩,p,v,h1,h2⟩:=h;refine⟨⟨hb,fun i hi=>Nat.lt_of_lt_of_le (dD i hi) k.size⟩,p,v,h1.keeps k (hF b hb),fun hs he=> ?_⟩;obtain⟨a,c,d⟩:=h2 hs he;exact⟨a,ab c k (fun i hi=>hF i (d i (aa.2 hi))),d⟩
theorem gj.trans {w w1 w2:World} {base b:Nat} {post:List Value} {T:TypeId} {F F1:List Nat} {L:Lex} (k:I F w w1) (hs: ∀i∈F1,i∈F∨w.heap.size≤i) (h:gj w1 base b post T F1 L w2):gj w base b post T F L w2:=by
 obtain⟨F2,h1,h2,h3⟩:=h;refine⟨F2,h1,k.trans' h2 hs,fun i hi=> ?_⟩;rcases h3 i hi with h|h
 ·exact hs i h
 ·exact inr (Nat.le_trans k.size h)
def ig (w:World) (base b:Nat) (post:List Value) (T:TypeId) (F:List Nat) (L':Lex) (w':World):Prop:=
 dK w' base b post T L' F∧I F w w'∧∀i∈F,i<w.heap.size
theorem ig.post {w w':World} {base b:Nat} {post:List Value} {T:TypeId} {F:List Nat} {L':Lex} (h:ig w base b post T F L' w'):gj w base b post T F L' w':=⟨F,h.1,h.2.1,fun _ hi=>inl hi⟩
theorem eZ {w w':World} {base b:Nat} {post:List Value} {T:TypeId} {F:List Nat} {L':Lex} {p v:Value} (hb:b∈F∧∀i∈F,i<w.heap.size) (h:Has w' b (L'.cells p v++post) T) (hs:L'.state≠1∨L'.e≠0) (k:I F w w'):ig w base b post T F L' w':=⟨⟨⟨hb.1,fun i hi=>Nat.lt_of_lt_of_le (hb.2 i hi) k.size⟩,p,v,h,fun a c=>by rcases hs with d|d;exact absurd a d;exact absurd c d⟩,k,hb.2⟩
theorem dK.Z3 {w:World} {base b:Nat} {post:List Value} {T:TypeId} {L:Lex} {F:List Nat} (h:dK w base b post T L F):b<w.heap.size:=h.1.2 b h.1.1
theorem iw {w:World} {base b:Nat} {post:List Value} {T:TypeId} {L:Lex} {F:List Nat} (h:dK w base b post T L F):w.cell? ⟨b,0,none⟩=some (.int .i64 L.state)∧w.cell? ⟨b,22,none⟩=some (.int .i64 L.e):=by obtain⟨_,p,v,h1,_⟩:=h;obtain⟨g0,_,_,g22,_⟩:=du h1;exact⟨g0,g22⟩
theorem sH (x:Int) (h0:0≤x) (h1:x≤255):(gg x=false∧Lib.indexByte [32,9,10,13] x.toNat.toUInt8= -1)∨(gg x=true∧0≤Lib.indexByte [32,9,10,13] x.toNat.toUInt8):=by
 obtain⟨n,rfl⟩: ∃n:Nat,x=n:=⟨x.toNat,by omega⟩
 have kA: ∀y:Fin 256,(gg (y.1:Int)=false∧Lib.indexByte [32,9,10,13] y.1.toUInt8= -1)∨(gg (y.1:Int)=true∧0≤Lib.indexByte [32,9,10,13] y.1.toUInt8):=by decide+kernel
 exact kA ⟨n,by omega⟩
theorem wF (x:Int) (h0:0≤x) (h1:x≤255):(iY x=false∧Lib.indexByte [123,125,91,93,58,44] x.toNat.toUInt8= -1)∨(iY x=true∧0≤Lib.indexByte [123,125,91,93,58,44] x.toNat.toUInt8):=by
 obtain⟨n,rfl⟩: ∃n:Nat,x=n:=⟨x.toNat,by omega⟩
 have kA: ∀y:Fin 256,(iY (y.1:Int)=false∧Lib.indexByte [123,125,91,93,58,44] y.1.toUInt8= -1)∨(iY (y.1:Int)=true∧0≤Lib.indexByte [123,125,91,93,58,44] y.1.toUInt8):=by decide+kernel
 exact kA ⟨n,by omega⟩
def dX (w:World) (base b:Nat) (post:List Value) (T:TypeId) (F:List Nat) (r:Lex×List ej) (e:Ending) (w':World):Prop:=
 ∃v F',e= .returned v∧cZ w' w.heap.size v r.2∧dK w' base b post T r.1 F'∧I F w w'∧(∀i∈F',i∈F∨w.heap.size≤i)∧∀i∈F',i∉ae v
theorem iF {w w':World} {base b:Nat} {post:List Value} {T:TypeId} {F:List Nat} {L':Lex} {e:Ending} (he:e= .returned (.slice none 0 0)) (h:gj w base b post T F L' w'):dX w base b post T F (L',[]) e w':=by obtain⟨F',h1,h2,h3⟩:=h;exact⟨_,F',he,cZ.nil _ _,h1,h2,h3,by simp[aR]⟩
theorem oz {w w':World} {base b:Nat} {post:List Value} {T:TypeId} {F:List Nat} {L':Lex} {e:Ending} (he:e= .returned (.slice none 0 0)) (h:ig w base b post T F L' w'):dX w base b post T F (L',[]) e w':=iF he h.post
theorem AO {w w':World} {base b:Nat} {post:List Value} {T:TypeId} {F:List Nat} {L':Lex} {t:List ej} {e:Ending} {v:Value} (he:e= .returned v) (ho:cZ w' w.heap.size v t) (h:ig w base b post T F L' w'):dX w base b post T F (L',t) e w':=
 ⟨v,F,he,ho,h.1,h.2.1,fun _ hi=>inl hi,fun i hi hm=>by
  have h1:=ho.1.lt i (aa.1 hm)
  have h2:=h.2.2 i hi
  omega⟩
theorem xS (base b:Nat) (post:List Value) (T:TypeId) (L:Lex) (x:Int) (F:List Nat) (w:World) (h:dK w base b post T L F) (hx:0≤x) (dE:x≤255) (hc:gg x=true∨iY x=true):Calls prog 148 #[.pointer (some ⟨b,0,none⟩),.int .u8 x] w fun e w'=>dX w base b post T F (L.aj x) e w':=by
 have aM: ∀w',I [] w w'→ig w base b post T F L w':=fun w' k=>⟨h.keeps k (by simp),k.mono (by simp),h.1.2⟩
 have Ae:=fz ⟨#[32,9,10,13]⟩ x w;have Dy:=fz ⟨#[123,125,91,93,58,44]⟩ x w;have hb:=sH x hx dE;have hm:=wF x hx dE;clear h;cases h1:gg x
 ·have h2:iY x=true:=by rcases hc with h|h;rw[h1] at h;cases h;exact h
  have hL:L.aj x=(L,[ej.of x]):=by unfold Lex.aj;rw[if_neg (by simp[h1]),if_pos h2]
  rw[hL];rw[h1] at hb;rw[h2] at hm;have hb':Lib.indexByte (⟨#[32,9,10,13]⟩:ByteArray).data.toList x.toNat.toUInt8= -1:=by
   rcases hb with⟨_,h⟩|⟨h,_⟩
   ·exact h
   ·cases h
  have hm':0≤Lib.indexByte (⟨#[123,125,91,93,58,44]⟩:ByteArray).data.toList x.toNat.toUInt8:=by
   rcases hm with⟨h,_⟩|⟨_,h⟩
   ·cases h
   ·exact h
  rw[hb'] at Ae;obtain⟨k,hk⟩: ∃k,Lib.indexByte (⟨#[123,125,91,93,58,44]⟩:ByteArray).data.toList x.toNat.toUInt8=k:=⟨_,rfl⟩
  rw[hk] at Dy hm';have HP:=hid aM;clear hb hm hb' hk hL h1 h2 hc aM;go_enter func148,ntmps148;go_wp2_with fail
  refine Ae.mono ?_;rintro e w1 ⟨rfl,rfl⟩;go_wp2_with fail
  refine Dy.mono ?_;rintro e w1 ⟨rfl,rfl⟩;go_wp2_with fail
  go_ret;exact AO rfl (cZ.one _ _ (Nat.le_refl _) (ej.of x) rfl) (HP.out _ ((I.refl _ _).alloc _))
 ·have hL:L.aj x=(L,[]):=by unfold Lex.aj;rw[if_pos h1]
  rw[hL];rw[h1] at hb;have hb':0≤Lib.indexByte (⟨#[32,9,10,13]⟩:ByteArray).data.toList x.toNat.toUInt8:=by
   rcases hb with⟨h,_⟩|⟨_,h⟩
   ·cases h
   ·exact h
  obtain⟨k,hk⟩: ∃k,Lib.indexByte (⟨#[32,9,10,13]⟩:ByteArray).data.toList x.toNat.toUInt8=k:=⟨_,rfl⟩
  rw[hk] at Ae hb';have HP:=hid aM;clear hb hm hk hL h1 hc aM Dy;go_enter func148,ntmps148;go_wp2_with fail
  refine Ae.mono ?_;rintro e w1 ⟨rfl,rfl⟩;go_wp2_with fail
  go_ret;exact oz rfl (HP.out _ (I.refl _ _))
theorem xT (base b:Nat) (post:List Value) (T:TypeId) (L:Lex) (F:List Nat) (w:World) (h:dK w base b post T L F):Calls prog 148 #[.pointer (some ⟨b,0,none⟩),.int .u8 34] w fun e w'=>dX w base b post T F (L.aj 34) e w':=by
 have hL:L.aj 34=({L with state:=1,r:=cA.new,s:=[]},[]):=by simp[Lex.aj,gg,iY]
 rw[hL];obtain⟨iM,p,v,hh,_⟩:=h;have Ae:=fz ⟨#[32,9,10,13]⟩ 34 w;have Dy:=fz ⟨#[123,125,91,93,58,44]⟩ 34 w;have e1:Lib.indexByte (⟨#[32,9,10,13]⟩:ByteArray).data.toList (34:Int).toNat.toUInt8= -1:=by decide
 have e2:Lib.indexByte (⟨#[123,125,91,93,58,44]⟩:ByteArray).data.toList (34:Int).toNat.toUInt8= -1:=by decide
 rw[e1] at Ae;rw[e2] at Dy;obtain⟨g0,g20,g21,g22,dD⟩:=du hh;have g1:=hh.cell 1;have g2:=hh.cell 2;have g3:=hh.cell 3;have g4:=hh.cell 4;have g5:=hh.cell 5;have g6:=hh.cell 6;have g7:=hh.cell 7;have g8:=hh.cell 8;have g9:=hh.cell 9;have f0:=hh.free 0;have f1:=hh.free 1;have f2:=hh.free 2;have f3:=hh.free 3;have f4:=hh.free 4;have f5:=hh.free 5;have f6:=hh.free 6;have f7:=hh.free 7;have f8:=hh.free 8;have f9:=hh.free 9;simp only[Lex.cells,cA.cells,cm.cells,List.cons_append,List.nil_append,List.getElem?_cons_zero,List.getElem?_cons_succ] at g1 g2 g3 g4 g5 g6 g7 g8 g9;have HH:=hid hh;clear e1 e2 hL hh;go_enter func148,ntmps148;go_wp2_with fail
 refine Ae.mono ?_;rintro e w1 ⟨rfl,rfl⟩;go_wp2_with fail
 refine Dy.mono ?_;rintro e w1 ⟨rfl,rfl⟩;go_wp2_with fail
 have h10:=HH.out.set 0 (.int .i64 1);have h10:=((((((((((HH.out.set 0 (.int .i64 1)).set 1 (.int .i64 0)).set 2 (.int .u8 0)).set 3 (.int .u8 0)).set 4 (.bool false)).set 5 (.int .i64 0)).set 6 (.int .i64 0)).set 7 (.int .i64 0)).set 8 (.int .i64 0)).set 9 (.int .i64 0))
 have qm:I [b] w ((((((((((w.setCell ⟨b,0,none⟩ (.int .i64 1)).setCell ⟨b,1,none⟩ (.int .i64 0)).setCell ⟨b,2,none⟩ (.int .u8 0)).setCell ⟨b,3,none⟩ (.int .u8 0)).setCell ⟨b,4,none⟩ (.bool false)).setCell ⟨b,5,none⟩ (.int .i64 0)).setCell ⟨b,6,none⟩ (.int .i64 0)).setCell ⟨b,7,none⟩ (.int .i64 0)).setCell ⟨b,8,none⟩ (.int .i64 0)).setCell ⟨b,9,none⟩ (.int .i64 0)):=((((((((((I.refl _ _).ax _).ax _).ax _).ax _).ax _).ax _).ax _).ax _).ax _).ax _;have h11:=h10.conv (cs':=Lex.cells {L with state:=1,r:=cA.new,s:=[]} p v++post) (by simp[Lex.cells,cA.cells,cm.cells,cA.new,cm.zero]);obtain⟨w2,gU⟩: ∃w2,w2=((((((((((w.setCell ⟨b,0,none⟩ (.int .i64 1)).setCell ⟨b,1,none⟩ (.int .i64 0)).setCell ⟨b,2,none⟩ (.int .u8 0)).setCell ⟨b,3,none⟩ (.int .u8 0)).setCell ⟨b,4,none⟩ (.bool false)).setCell ⟨b,5,none⟩ (.int .i64 0)).setCell ⟨b,6,none⟩ (.int .i64 0)).setCell ⟨b,7,none⟩ (.int .i64 0)).setCell ⟨b,8,none⟩ (.int .i64 0)).setCell ⟨b,9,none⟩ (.int .i64 0)):=⟨_,rfl⟩
 rw[←gU] at h11 qm⊢;rw[Lex.nB] at h11;refine(Lv b _ _ T p v w2 h11 10 (by simp[cA.cells,cm.cells])).mono ?_;rintro e w3 ⟨rfl,h3,k3⟩;rw[←Lex.nB] at h3;have H3:=hid h3;have K3:=hid (qm.trans k3);clear h10 qm h11 gU h3 k3 g0 g1 g2 g3 g4 g5 g6 g7 g8 g9 f0 f1 f2 f3 f4 f5 f6 f7 f8 f9 g20 g21 g22;go_wp2_with fail
 go_ret;refine iF rfl ⟨F,⟨⟨iM.1,fun i hi=>Nat.lt_of_lt_of_le (iM.2 i hi) K3.out.size⟩,_,_,H3.out,fun _ _=>⟨inl rfl,je.nil _ _,by simp[aR]⟩⟩,K3.out.mono (by simpa using iM.1),fun _ hi=>inl hi⟩
theorem xU (base b:Nat) (post:List Value) (T:TypeId) (L:Lex) (x:Int) (F:List Nat) (w:World) (h:dK w base b post T L F) (hx:0≤x) (dE:x≤255) (hc:x=45∨48≤x∧x≤57):Calls prog 148 #[.pointer (some ⟨b,0,none⟩),.int .u8 x] w fun e w'=>dX w base b post T F (L.aj x) e w':=by
 have hb:gg x=false:=by simp only[gg,decide_eq_false_iff_not];omega
 have hm:iY x=false:=by simp only[iY,decide_eq_false_iff_not];omega
 have hL:L.aj x=({L with state:=2,n:=cM.new.after x,e:=(cM.new.after x).e},[]):=by unfold Lex.aj;rw[if_neg (by simp[hb]),if_neg (by simp[hm]),if_neg (by omega),if_pos (by rcases hc with h|h;exact inl h;exact inr (by simp[gB,h]))]
 rw[hL];obtain⟨iM,p,v,hh,_⟩:=h;have Ae:=fz ⟨#[32,9,10,13]⟩ x w;have Dy:=fz ⟨#[123,125,91,93,58,44]⟩ x w;have e1:Lib.indexByte (⟨#[32,9,10,13]⟩:ByteArray).data.toList x.toNat.toUInt8= -1:=by
  rcases sH x hx dE with⟨_,h⟩|⟨h,_⟩
  ·exact h
  ·rw[hb] at h;cases h
 have e2:Lib.indexByte (⟨#[123,125,91,93,58,44]⟩:ByteArray).data.toList x.toNat.toUInt8= -1:=by
  rcases wF x hx dE with⟨_,h⟩|⟨h,_⟩
  ·exact h
  ·rw[hm] at h;cases h
 rw[e1] at Ae;rw[e2] at Dy;obtain⟨g0,g20,g21,g22,dD⟩:=du hh;have g12:=hh.cell 12;have g13:=hh.cell 13;have g14:=hh.cell 14;have g15:=hh.cell 15;have g16:=hh.cell 16;have g17:=hh.cell 17;have g18:=hh.cell 18;have g19:=hh.cell 19;have f0:=hh.free 0;have f12:=hh.free 12;have f13:=hh.free 13;have f14:=hh.free 14;have f15:=hh.free 15;have f16:=hh.free 16;have f17:=hh.free 17;have f18:=hh.free 18;have f19:=hh.free 19;simp only[Lex.cells,cA.cells,cm.cells,cM.cells,List.cons_append,List.nil_append,List.getElem?_cons_zero,List.getElem?_cons_succ] at g12 g13 g14 g15 g16 g17 g18 g19;have n34:(x==34)=false:=by rw[beq_eq_false_iff_ne];omega
 have HH:=hid hh;clear e1 e2 hL hh hb hm;have Nz:(x==45)=true∨(x==45)=false∧48≤x∧x≤57:=by
  rcases hc with h|h
  ·exact inl (by simp[h])
  ·exact inr ⟨by rw[beq_eq_false_iff_ne];omega,h⟩
 clear hc;rcases Nz with h45|⟨h45,h48,h57⟩;all_goals
  go_enter func148,ntmps148;go_wp2_with fail
  refine Ae.mono ?_;rintro e w1 ⟨rfl,rfl⟩;go_wp2_with fail
  refine Dy.mono ?_;rintro e w1 ⟨rfl,rfl⟩;go_wp2_with fail
  have h10:=(((((((((HH.out.set 0 (.int .i64 2)).set 12 (.bool false)).set 13 (.bool false)).set 14 (.bool false)).set 15 (.bool false)).set 16 (.int .u64 0)).set 17 (.bool false)).set 18 (.bool false)).set 19 (.int .i64 0))
  obtain⟨w2,gU,qm⟩: ∃w2,w2=((((((((w.setCell ⟨b,0,none⟩ (.int .i64 2)).setCell ⟨b,12,none⟩ (.bool false)).setCell ⟨b,13,none⟩ (.bool false)).setCell ⟨b,14,none⟩ (.bool false)).setCell ⟨b,15,none⟩ (.bool false)).setCell ⟨b,16,none⟩ (.int .u64 0)).setCell ⟨b,17,none⟩ (.bool false)).setCell ⟨b,18,none⟩ (.bool false)).setCell ⟨b,19,none⟩ (.int .i64 0)∧I [b] w w2:=⟨_,rfl,(((((((((I.refl _ _).ax _).ax _).ax _).ax _).ax _).ax _).ax _).ax _).ax _⟩
  have h11:=h10.conv (cs':=Lex.cells {L with state:=2,n:=cM.new} p v++post) (by simp[Lex.cells,cA.cells,cm.cells,cM.cells,cM.new]);rw[←gU] at h11⊢;rw[Lex.rm] at h11;refine(DV b _ _ T cM.new x w2 h11 12 (by simp[cA.cells,cm.cells]) ⟨hx,dE⟩ (by decide)).mono ?_;rintro e w3 ⟨rfl,h3,k3⟩;have JI:Has w3 b (Lex.cells {L with state:=2,n:=cM.new.after x} p v++post) T:=h3.conv (by rw[Lex.rm]);obtain⟨_,_,_,g22,TI⟩:=du JI;obtain⟨_,_,_,f22⟩:=eV JI;have H3:=hid JI;have K3:=hid (qm.trans k3);clear h10 qm h11 gU h3 k3 g0 g20 g21 JI f0 f12 f13 f14 f15 f16 f17 f18 f19 g12 g13 g14 g15 g16 g17 g18 g19;go_wp2_with fail
  go_ret;refine oz rfl (eZ (p:=p) (v:=v) iM ((H3.out.set 22 _).conv (by simp[Lex.cells,cA.cells,cm.cells,cM.cells])) (inl (by simp)) ((K3.out.ax _).mono (by simpa using iM.1)))
theorem xV (base b:Nat) (post:List Value) (T:TypeId) (L:Lex) (x:Int) (F:List Nat) (w:World) (h:dK w base b post T L F) (hc:x=116∨x=102∨x=110):Calls prog 148 #[.pointer (some ⟨b,0,none⟩),.int .u8 x] w fun e w'=>dX w base b post T F (L.aj x) e w':=by
 obtain⟨iM,p,v,hh,_⟩:=h;obtain⟨g0,g20,g21,g22,dD⟩:=du hh;obtain⟨f0,f20,f21,f22⟩:=eV hh;have HH:=hid hh;clear hh;have Ae:=fz ⟨#[32,9,10,13]⟩ x w;have Dy:=fz ⟨#[123,125,91,93,58,44]⟩ x w;have e1:Lib.indexByte (⟨#[32,9,10,13]⟩:ByteArray).data.toList x.toNat.toUInt8= -1:=by rcases hc with rfl|rfl|rfl<;>decide
 have e2:Lib.indexByte (⟨#[123,125,91,93,58,44]⟩:ByteArray).data.toList x.toNat.toUInt8= -1:=by rcases hc with rfl|rfl|rfl<;>decide
 rw[e1] at Ae;rw[e2] at Dy;clear e1 e2;rcases hc with rfl|rfl|rfl;all_goals
  go_enter func148,ntmps148;go_wp2_with fail
  refine Ae.mono ?_;rintro e w1 ⟨rfl,rfl⟩;go_wp2_with fail
  refine Dy.mono ?_;rintro e w1 ⟨rfl,rfl⟩;go_wp2_with fail
  go_ret;refine oz rfl (eZ (p:=p) (v:=v) iM ((((HH.out.set 0 _).set 20 _).set 21 _).conv ?_) (inl ?_) (((((I.refl _ _).ax _).ax _).ax _).mono (by simpa using iM.1)))
  ·simp[Lex.cells,cA.cells,cm.cells,cM.cells]
  ·simp
theorem xW (base b:Nat) (post:List Value) (T:TypeId) (L:Lex) (x:Int) (F:List Nat) (w:World) (h:dK w base b post T L F) (hx:0≤x) (dE:x≤255) (hs:L.state≠1) (hb:gg x=false) (hm:iY x=false) (h34:x≠34) (h45:x≠45) (hd:gB x=false) (h1:x≠116) (h2:x≠102) (h3:x≠110):Calls prog 148 #[.pointer (some ⟨b,0,none⟩),.int .u8 x] w fun e w'=>dX w base b post T F (L.aj x) e w':=by
 have hL:L.aj x=({L with e:=2},[]):=by unfold Lex.aj;rw[if_neg (by simp[hb]),if_neg (by simp[hm]),if_neg h34,if_neg (by simp[h45,hd]),if_neg h1,if_neg h2,if_neg h3]
 rw[hL];obtain⟨iM,p,v,hh,_⟩:=h;have Ae:=fz ⟨#[32,9,10,13]⟩ x w;have Dy:=fz ⟨#[123,125,91,93,58,44]⟩ x w;have e1:Lib.indexByte (⟨#[32,9,10,13]⟩:ByteArray).data.toList x.toNat.toUInt8= -1:=by
  rcases sH x hx dE with⟨_,h⟩|⟨h,_⟩
  ·exact h
  ·rw[hb] at h;cases h
 have e2:Lib.indexByte (⟨#[123,125,91,93,58,44]⟩:ByteArray).data.toList x.toNat.toUInt8= -1:=by
  rcases wF x hx dE with⟨_,h⟩|⟨h,_⟩
  ·exact h
  ·rw[hm] at h;cases h
 rw[e1] at Ae;rw[e2] at Dy;obtain⟨g0,g20,g21,g22,dD⟩:=du hh;obtain⟨f0,f20,f21,f22⟩:=eV hh;have HH:=hid hh;have HS:=hid hs;have n1:(x==34)=false:=by simp[h34]
 have n2:(x==45)=false:=by simp[h45]
 have n3:(x==116)=false:=by simp[h1]
 have n4:(x==102)=false:=by simp[h2]
 have n5:(x==110)=false:=by simp[h3]
 have hd':x<48∨57<x:=by simp[gB] at hd;omega
 clear e1 e2 hL hh hs hb hm hd h34 h45 h1 h2 h3;rcases hd' with hd|hd;all_goals
  go_enter func148,ntmps148;go_wp2_with fail
  refine Ae.mono ?_;rintro e w1 ⟨rfl,rfl⟩;go_wp2_with fail
  refine Dy.mono ?_;rintro e w1 ⟨rfl,rfl⟩;go_wp2_with fail
  go_ret;refine oz rfl (eZ (p:=p) (v:=v) iM ((HH.out.set 22 _).conv ?_) (inl ?_) (((I.refl _ _).ax _).mono (by simpa using iM.1)))
  ·simp[Lex.cells,cA.cells,cm.cells,cM.cells]
  ·exact HS.out
theorem tD (base b:Nat) (post:List Value) (T:TypeId) (L:Lex) (x:Int) (F:List Nat) (w:World) (h:dK w base b post T L F) (hx:0≤x) (dE:x≤255) (hs:L.state≠1):Calls prog 148 #[.pointer (some ⟨b,0,none⟩),.int .u8 x] w fun e w'=>dX w base b post T F (L.aj x) e w':=by
 by_cases hc:gg x=true∨iY x=true
 ·exact xS base b post T L x F w h hx dE hc
 have hb:gg x=false:=by cases hh:gg x<;>simp_all
 have hm:iY x=false:=by cases hh:iY x<;>simp_all
 by_cases h34:x=34
 ·subst h34;exact xT base b post T L F w h
 by_cases hn:x=45∨48≤x∧x≤57
 ·exact xU base b post T L x F w h hx dE hn
 by_cases hw:x=116∨x=102∨x=110
 ·exact xV base b post T L x F w h hw
 exact xW base b post T L x F w h hx dE hs hb hm h34 (by omega) (by simp[gB];omega) (by omega) (by omega) (by omega)
end Go.Proofs.YthffblhdjjbkaaaGreat
