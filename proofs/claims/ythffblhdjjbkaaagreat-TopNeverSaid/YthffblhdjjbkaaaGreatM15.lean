/- jsonin.Parser in memory.; lexer.Lexer.Held -/
import Derived.Test.YthffblhdjjbkaaaGreatM14
set_option maxHeartbeats 100000000
set_option maxRecDepth 1000000
open Go.Proofs.Tryz
open Or (inl inr)
namespace Go.Tru
def dY (w:World) (base:Nat) (v:Value) (l:List Bool):Prop:=w.ownsRow base 4 1 v l.length (l.reverse.map Value.bool)
theorem dY.nil (w:World) (base:Nat):dY w base (.slice none 0 0) []:=World.ownsRow_nil _ _ _ _
theorem dY.shape {w:World} {base:Nat} {v:Value} {l:List Bool} (h:dY w base v l): ∃a cap,v= .slice a l.length cap:=by
 rcases h.2 with⟨h1,h2⟩|⟨g,cap,cur,h1,_⟩
 ·exact⟨none,0,by rw[h1,h2]⟩
 ·exact⟨_,_,h1⟩
theorem ll (m:Bool) (l:List Bool):((m::l).reverse.map Value.bool)=(l.reverse.map Value.bool)++[.bool m]:=by simp
theorem dY.some_ {w:World} {base:Nat} {v:Value} {m:Bool} {l:List Bool} (h:dY w base v (m::l)): ∃g cap,v= .slice (some ⟨g,0,none⟩) (l.length+1) cap∧base≤g∧g<w.heap.size∧l.length+1≤cap∧cap≤maxLen∧w.cell? ⟨g,l.length,none⟩=some (.bool m):=by
 have dD:=World.ownsRow.lt h;rcases h.2 with⟨_,h2⟩|⟨g,cap,cur,rfl,hb,hg,hn,hm,_⟩
 ·simp at h2
 ·refine⟨g,cap,rfl,hb,(dD g rfl).2,hn,hm,?_⟩;rw[World.ownsRow.cellAt h _ (by simp),ll,List.getElem?_append_right (by simp)];simp
theorem dY.pop {w:World} {base g cap:Nat} {m:Bool} {l:List Bool} (h:dY w base (.slice (some ⟨g,0,none⟩) (l.length+1) cap) (m::l)):dY w base (.slice (some ⟨g,0,none⟩) l.length cap) l:=by
 unfold dY at h⊢;refine⟨by simp,?_⟩;rcases h.2 with⟨h1,_⟩|⟨g',fB,cur,h1,hb,hg,hn,hm,hs,ht⟩
 ·cases h1
 ·injection h1 with e1 e2 e3;injection e1 with e1;injection e1 with e1;subst e1 e3;refine inr ⟨g,cap,cur,rfl,hb,hg,by simp only[List.length_cons] at hn;omega,hm,hs,?_⟩;rw[ll,List.length_cons] at ht;have:=congrArg (List.take l.length) ht;rw[List.take_take,List.take_append_of_le_length (by simp)] at this;simp only[Nat.mul_one] at this⊢;rw[Nat.min_eq_left (by omega)] at this;rw[this,List.take_of_length_le (by simp)]
end Go.Tru
namespace Go.Proofs.YthffblhdjjbkaaaGreat
open Go.RowKit Go.Tru
def rP (p:Js) (mv:Value):List Value:=[.int .i64 p.depth,mv,.int .i64 p.next,.int .i64 p.e]
structure dr (w:World) (base b:Nat) (mv:Value) (p:Js) (F:List Nat):Prop where
 lex:dK w base b (rP p mv) 185 p.l F
 maps:dY w base mv p.maps
 apart: ∀i∈F,i∉ae mv
theorem jsT:Ih 185 4:=⟨by kernel_rfl,by decide,by decide⟩
theorem dK.AV {w:World} {base b:Nat} {post Vo:List Value} {T:TypeId} {L:Lex} {F:List Nat} (h:dK w base b post T L F) (hT:T≠5) {i:Nat} {u:Value} (hp: ∀p v,(L.cells p v++post).set i u=L.cells p v++Vo):dK (w.setCell ⟨b,i,none⟩ u) base b Vo T L F:=by obtain⟨⟨hb,dD⟩,p,v,h1,h2⟩:=h;refine⟨⟨hb,fun i hi=>by simpa using dD i hi⟩,p,v,(h1.set i u).conv (hp p v),fun hs he=> ?_⟩;obtain⟨a,c,d⟩:=h2 hs he;refine⟨a,c.keeps ((I.refl [b] _).ax u) (fun j hj hm=> ?_),d⟩;rw[List.mem_singleton] at hm;exact c.ne h1 hT (hm▸hj)
theorem wH (L:Lex) (p v:Value) (post:List Value) (k:Nat) (u:Value):(L.cells p v++post).set (23+k) u=L.cells p v++post.set k u:=by rw[List.set_append_right _ _ (by rw[Lex.gK];omega),Lex.gK];congr 2;omega
theorem D3 {w:World} {base b:Nat} {mv:Value} {p:Js} {F:List Nat} (h:dK w base b (rP p mv) 185 p.l F):w.cell? ⟨b,23,none⟩=some (.int .i64 p.depth)∧w.cell? ⟨b,24,none⟩=some mv∧w.cell? ⟨b,25,none⟩=some (.int .i64 p.next)∧w.cell? ⟨b,26,none⟩=some (.int .i64 p.e)∧b<w.heap.size∧w.frozen? ⟨b,24,none⟩=false∧w.frozen? ⟨b,25,none⟩=false∧w.frozen? ⟨b,26,none⟩=false:=by obtain⟨_,p',v,h1,_⟩:=h;exact⟨h1.cell 23,h1.cell 24,h1.cell 25,h1.cell 26,h1.lt,h1.free 24,h1.free 25,h1.free 26⟩
theorem fl {w:World} {base b:Nat} {mv:Value} {p:Js} {F:List Nat} (h:dr w base b mv p F):w.cell? ⟨b,23,none⟩=some (.int .i64 p.depth)∧w.cell? ⟨b,24,none⟩=some mv∧w.cell? ⟨b,25,none⟩=some (.int .i64 p.next)∧w.cell? ⟨b,26,none⟩=some (.int .i64 p.e)∧b<w.heap.size∧b∉ae mv:=by obtain⟨⟨hb,dD⟩,p',v,h1,_⟩:=h.lex;exact⟨h1.cell 23,h1.cell 24,h1.cell 25,h1.cell 26,h1.lt,h.apart b hb⟩
theorem kt {w:World} {base b:Nat} {mv:Value} {p:Js} {F:List Nat} (h:dr w base b mv p F):w.frozen? ⟨b,24,none⟩=false∧w.frozen? ⟨b,25,none⟩=false∧w.frozen? ⟨b,26,none⟩=false:=by obtain⟨_,p',v,h1,_⟩:=h.lex;exact⟨h1.free 24,h1.free 25,h1.free 26⟩
theorem dr.keeps {G:List Nat} {w w':World} {base b:Nat} {mv:Value} {p:Js} {F:List Nat} (h:dr w base b mv p F) (k:I G w w') (h1: ∀i∈F,i∉G) (h2: ∀i∈ae mv,i∉G):dr w' base b mv p F:=⟨h.lex.keeps k h1,ab h.maps k (fun i hi=>h2 i (aa.2 hi)),h.apart⟩
theorem dr.aI {w w':World} {base b:Nat} {mv:Value} {p:Js} {F:List Nat} (h:dr w base b mv p F) (k:I [] w w'):dr w' base b mv p F:=h.keeps k (by simp) (by simp)
theorem dr.iS {w:World} {base b:Nat} {mv:Value} {p:Js} {F:List Nat} (h:dr w base b mv p F) (n:Int):dr (w.setCell ⟨b,25,none⟩ (.int .i64 n)) base b mv {p with next:=n} F:=⟨h.lex.AV (by decide) (fun q v=>wH p.l q v _ 2 _),ab h.maps ((I.refl [b] _).ax _) (fun i hi hm=>by rw[List.mem_singleton] at hm;exact h.apart b h.lex.1.1 (hm▸aa.2 hi)),h.apart⟩
theorem dr.uN {w:World} {base b:Nat} {mv:Value} {p:Js} {F:List Nat} (h:dr w base b mv p F) (n:Int):dr (w.setCell ⟨b,26,none⟩ (.int .i64 n)) base b mv {p with e:=n} F:=⟨h.lex.AV (by decide) (fun q v=>wH p.l q v _ 3 _),ab h.maps ((I.refl [b] _).ax _) (fun i hi hm=>by rw[List.mem_singleton] at hm;exact h.apart b h.lex.1.1 (hm▸aa.2 hi)),h.apart⟩
theorem dr.Jg {w w2:World} {base b:Nat} {mv zu:Value} {p:Js} {F:List Nat} {l:List Bool} (h:dr w base b mv p F) (k:I (ae mv) w w2) (au:dY w2 base zu l) (hb: ∀i∈ae zu,i∈ae mv∨w.heap.size≤i):dr (w2.setCell ⟨b,24,none⟩ zu) base b zu {p with maps:=l} F:=by
 have dD:=h.lex.1.2;have Ci: ∀i∈F,i∉ae zu:=fun i hi hm=>by
  rcases hb i hm with h1|h1
  ·exact h.apart i hi h1
  ·have:=dD i hi;omega
 refine⟨(h.lex.keeps k h.apart).AV (by decide) (fun q v=>wH p.l q v _ 1 _),ab au ((I.refl [b] _).ax _) (fun i hi hm=>by rw[List.mem_singleton] at hm;exact Ci b h.lex.1.1 (hm▸aa.2 hi)),Ci⟩
def pL (w:World) (base b:Nat) (mv:Value) (F:List Nat) (p':Js) (w':World):Prop:=
 ∃yv F',dr w' base b yv p' F'∧I (F++ae mv) w w'∧∀i∈F'++ae yv,i∈F++ae mv∨w.heap.size≤i
theorem pL.trans {w w1 w2:World} {base b:Nat} {mv mv1:Value} {F F1:List Nat} {p:Js} (k:I (F++ae mv) w w1) (hs: ∀i∈F1++ae mv1,i∈F++ae mv∨w.heap.size≤i) (h:pL w1 base b mv1 F1 p w2):pL w base b mv F p w2:=by
 obtain⟨zu,F2,h1,h2,h3⟩:=h;refine⟨zu,F2,h1,k.trans' h2 hs,fun i hi=> ?_⟩;rcases h3 i hi with h|h
 ·exact hs i h
 ·exact inr (Nat.le_trans k.size h)
theorem eT {w w':World} {base b:Nat} {mv:Value} {F:List Nat} {p':Js} (h:dr w' base b mv p' F) (k:I (F++ae mv) w w'):pL w base b mv F p' w':=⟨mv,F,h,k,fun _ hi=>inl hi⟩
theorem ku {w:World} {base b:Nat} {mv:Value} {p:Js} {F:List Nat} (h:dr w base b mv p F):b∈F++ae mv:=List.mem_append_left _ h.lex.1.1
def ew (t:ej):Value:= .agg t.cells.toArray
def rR:Option Ev→Value
 |some q=> .tuple #[q.part,.bool true]
 |none=> .tuple #[.nilIface,.bool false]
theorem Qb (base b:Nat) (post:List Value) (T:TypeId) (L:Lex) (F:List Nat) (w:World) (h:dK w base b post T L F):Calls prog 142 #[.pointer (some ⟨b,0,none⟩)] w fun e w'=>e= .returned (.int .i64 (L.held:Int))∧w=w':=by
 obtain⟨g0,g22⟩:=iw h;by_cases h1:L.e=0
 ·by_cases h2:L.state=1
  ·have hL:L.held=L.s.length:=by unfold Lex.held;rw[if_neg (by simp[h1,h2])]
   rw[hL];obtain⟨iM,p,v,hh,DY⟩:=h;obtain⟨_,hb,_⟩:=DY h2 h1;obtain⟨o,c,rfl⟩:=hb.shape;have hlen:=JB b _ _ T p o L.s.length c w (hh.conv (Lex.nB _ _ _ post)) 10 (JJ _);rw[h1] at g22;rw[h2] at g0;clear hL DY hb hh h1 h2;go_enter func142,ntmps142;go_wp2_with fail
   refine hlen.mono ?_;rintro e wz ⟨rfl,rfl⟩;go_wp2_with fail
   go_ret;exact⟨rfl,rfl⟩
  ·have hL:L.held=0:=by unfold Lex.held;rw[if_pos (inr h2)]
   rw[hL];have b1:(L.state != 1)=true:=by simp[h2]
   rw[h1] at g22;clear h hL h1 h2;go_enter func142,ntmps142;go_wp2_with fail
   go_ret;exact⟨rfl,rfl⟩
 ·have hL:L.held=0:=by unfold Lex.held;rw[if_pos (inl h1)]
  rw[hL];have b1:(L.e != 0)=true:=by simp[h1]
  clear h hL h1;go_enter func142,ntmps142;go_wp2_with fail
  go_ret;exact⟨rfl,rfl⟩
end Go.Proofs.YthffblhdjjbkaaaGreat
