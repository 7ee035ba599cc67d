/- Scripts that several proofs share. -/
import Derived.WalkSpells
import Derived.Deep.RegionHeld
import Derived.Deep.RegionLaw
import Derived.Deep.QuietTactic
import Derived.Deep.Cut
set_option maxHeartbeats 100000000
set_option maxRecDepth 1000000
namespace Go.K0
def bl:=()
def mS:=()
def R0:=()
def FE:=()
def R1:=()
def ze:=()
def BV:=()
end Go.K0
namespace Go.K1
def lD:=()
def mS:=()
def R0:=()
def R1:=()
def ze:=()
def BV:=()
end Go.K1
namespace Go.K2
def eW:=()
def R0:=()
def FE:=()
def FF:=()
def R1:=()
def ze:=()
def BV:=()
end Go.K2
namespace Go.K3
def iH:=()
def R0:=()
def FF:=()
def R1:=()
def ze:=()
def BV:=()
def J8:=()
end Go.K3
namespace Go.K4
def jn:=()
def MV:=()
def yj:=()
def R0:=()
def ze:=()
def BV:=()
def Nb:=()
def R2:=()
end Go.K4
namespace Go.K5
def l5:=()
def MV:=()
def yj:=()
def ze:=()
def BV:=()
def R3:=()
end Go.K5
namespace Go.K6
def zf:=()
def MV:=()
def ze:=()
def BV:=()
def J9:=()
def Nb:=()
def Nc:=()
end Go.K6
namespace Go.K7
def MW:=()
def MV:=()
def ze:=()
def J9:=()
def Nc:=()
end Go.K7
namespace Go.K8
def BD:=()
def zg:=()
def Ka:=()
def J9:=()
def Nd:=()
def R2:=()
end Go.K8
namespace Go.K9
def zh:=()
def zg:=()
def Kb:=()
def J8:=()
def Nf:=()
def Nd:=()
end Go.K9
namespace Go.K10
def l6:=()
def zg:=()
def Q6:=()
def Ka:=()
def J8:=()
def Nf:=()
end Go.K10
namespace Go.K11
def mu:=()
def zg:=()
def Q6:=()
def Kb:=()
def J8:=()
def Nf:=()
def R2:=()
end Go.K11
namespace Go.K12
def lv:=()
def zg:=()
def Q6:=()
def Ka:=()
def J9:=()
def R3:=()
end Go.K12
namespace Go.K13
def qn:=()
def zg:=()
def Q6:=()
def Kb:=()
def J8:=()
def Nf:=()
def R3:=()
end Go.K13
namespace Go.K14
def uF:=()
def Q7:=()
end Go.K14
namespace Go.K15
def FG:=()
def Q7:=()
end Go.K15
namespace Go.K16
def zi:=()
def Q7:=()
end Go.K16
namespace Go.K17
def zj:=()
def Q7:=()
end Go.K17
namespace Go.K18
def zk:=()
end Go.K18
namespace Go.K19
def zm:=()
end Go.K19
namespace Go.K20
def ai7:=()
end Go.K20
namespace Go.K21
def acP:=()
end Go.K21
namespace Go.K22
def VM:=()
end Go.K22
namespace Go.K23
def VN:=()
end Go.K23
namespace Go.K24
def VO:=()
end Go.K24
namespace Go.K25
def acQ:=()
end Go.K25
namespace Go.K26
def acR:=()
end Go.K26
namespace Go.K27
def acS:=()
end Go.K27
namespace Go.K28
def ai8:=()
def R4:=()
end Go.K28
namespace Go.K29
def ai9:=()
def R4:=()
end Go.K29
namespace Go.K30
def aja:=()
def R4:=()
end Go.K30
namespace Go.K31
def R5:=()
end Go.K31
namespace Go.K32
def R6:=()
end Go.K32
namespace Go.K33
def Y3:=()
end Go.K33
namespace Go.K34
def VP:=()
end Go.K34
namespace Go.K35
def VQ:=()
end Go.K35
namespace Go.K36
def Y4:=()
end Go.K36
namespace Go.K37
def Y5:=()
end Go.K37
namespace Go.K38
def Y6:=()
end Go.K38
namespace Go.K39
def Y7:=()
end Go.K39
namespace Go.K40
def VR:=()
end Go.K40
namespace Go.K41
def VS:=()
end Go.K41
namespace Go.K42
def VT:=()
end Go.K42
namespace Go.K43
def VU:=()
end Go.K43
namespace Go.Tru
theorem q0 {p:Prop} (h:p:=by
 first
 |(
  cases mS;first
  |(cases bl;have HH:=hid (fun W=>jS 4 n (by omega) (by omega) W))
  |have HH:=hid (fun W=>jS 5 n (by omega) (by omega) W)
  first
  |(cases bl;have lx:(bytesOf (aU 4 n)).size≤9:=by rw[an];exact(dd 4 n).2)
  |have lx:(bytesOf (aU 5 n)).size≤9:=by rw[an];exact(dd 5 n).2)
 |(
  (first|cases eW|cases jn)
  have HH:=hid (fun W=>jS 4 n (by omega) (by omega) W);have lx:(bytesOf (aU 4 n)).size≤9:=by rw[an];exact(dd 4 n).2)
 |(have HH:=hid (fun W=>jS 5 n (by omega) (by omega) W);have lx:(bytesOf (aU 5 n)).size≤9:=by rw[an];exact(dd 5 n).2)
 obtain⟨x,hx⟩: ∃x:Int,(n:Int)=x:=⟨_,rfl⟩
 have x0:0≤x:=by omega
 have x16:x<16:=by omega
 have yk:IntKind.u64.wrap x=x:=by rw[IntKind.wrap_u64];omega
 first
 |(cases jn;have dq:(⟨#[]⟩:ByteArray)++bytesOf (aU 4 n)=bytesOf (aU 4 n):=ByteArray.empty_append;obtain⟨s0,dT⟩: ∃s0,bytesOf (aU 4 n)=s0:=⟨_,rfl⟩)
 |(cases l5;have dq:(⟨#[]⟩:ByteArray)++bytesOf (aU 5 n)=bytesOf (aU 5 n):=ByteArray.empty_append;obtain⟨s0,dT⟩: ∃s0,bytesOf (aU 5 n)=s0:=⟨_,rfl⟩)
 |(
  first
  |(cases eW;have dq:(⟨#[]⟩:ByteArray)++bytesOf (aU 4 n)=bytesOf (aU 4 n):=ByteArray.empty_append;have HM:=hid (fun W=>kr ⟨5,false,0,aY,x⟩ (inr ⟨inl rfl,by simp only[];omega⟩) W))
  |(cases iH;have dq:(⟨#[]⟩:ByteArray)++bytesOf (aU 5 n)=bytesOf (aU 5 n):=ByteArray.empty_append;have HM:=hid (fun W=>kr ⟨6,false,0,aY,x⟩ (inr ⟨inr rfl,by simp only[];omega⟩) W))
  |(
   first
   |(cases bl;have dq:(⟨#[]⟩:ByteArray)++bytesOf (aU 4 n)=bytesOf (aU 4 n):=ByteArray.empty_append)
   |have dq:(⟨#[]⟩:ByteArray)++bytesOf (aU 5 n)=bytesOf (aU 5 n):=ByteArray.empty_append
   first
   |(cases bl;have HM:=hid (fun W=>kr ⟨5,false,0,aY,x⟩ (inr ⟨inl rfl,by simp only[];omega⟩) W))
   |have HM:=hid (fun W=>kr ⟨6,false,0,aY,x⟩ (inr ⟨inr rfl,by simp only[];omega⟩) W))
  obtain⟨g,cap,rfl,gb,gl,gr,gm,-,-,-,-⟩:=h.bu.some_;first
  |(cases FE;obtain⟨s0,dT⟩: ∃s0,bytesOf (aU 4 n)=s0:=⟨_,rfl⟩)
  |obtain⟨s0,dT⟩: ∃s0,bytesOf (aU 5 n)=s0:=⟨_,rfl⟩)
 rw[dT] at HH dq lx⊢;first
 |(cases jn;have HM:=hid (fun W=>kr ⟨5,false,0,aY,x⟩ (inr ⟨inl rfl,by simp only[];omega⟩) W);simp only[Ev.val,Ev.cells,aN,aY,hx] at*)
 |(cases l5;have HM:=hid (fun W=>kr ⟨6,false,0,aY,x⟩ (inr ⟨inr rfl,by simp only[];omega⟩) W);simp only[Ev.val,Ev.cells,aO,aY,hx] at*)
 |(
  first
  |(cases FE;simp only[Ev.val,Ev.cells,aN,aY,hx] at*)
  |simp only[Ev.val,Ev.cells,aO,aY,hx] at*
  obtain⟨lq,oG⟩:=hr;first
  |(
   cases mS;have xp:cpt.tmod 2=1:=by rw[Int.tmod_eq_emod_of_nonneg Ng];exact l7
   clear l7)
  |skip
  have R7:((s.length:Int)+1==0)=false:=by simp;omega)
 have H:=hid h;have HB:=hid ak;have bP:=h.az.lt;first
 |(cases yj)
 |unfold maxLen at gm
 clear h ak hx dT hn;go_enter func6,ntmps6;first
 |(
  cases jn;have aJ:=Has.aC w #[.int .i64 5,.bool false,.int .u64 0,.string ⟨#[]⟩,.int .i64 x] 34 rfl;have k0:=(I.refl [] w).alloc (.cells #[.int .i64 5,.bool false,.int .u64 0,.string ⟨#[]⟩,.int .i64 x] 34);obtain⟨w1,xq⟩: ∃w1,w.alloc (.cells #[.int .i64 5,.bool false,.int .u64 0,.string ⟨#[]⟩,.int .i64 x] 34)=w1:=⟨_,rfl⟩
  have H1:=hid (H.out.keeps (k0) (by simp) (by simp[aR])))
 |(
  cases l5;have aJ:=Has.aC w #[.int .i64 6,.bool false,.int .u64 0,.string ⟨#[]⟩,.int .i64 x] 34 rfl;have k0:=(I.refl [] w).alloc (.cells #[.int .i64 6,.bool false,.int .u64 0,.string ⟨#[]⟩,.int .i64 x] 34);obtain⟨w1,xq⟩: ∃w1,w.alloc (.cells #[.int .i64 6,.bool false,.int .u64 0,.string ⟨#[]⟩,.int .i64 x] 34)=w1:=⟨_,rfl⟩
  have H1:=hid (H.out.keeps (k0) (by simp) (by simp[aR])))
 |(
  first
  |(cases eW;have aJ:=Has.aC w #[.int .i64 5,.bool false,.int .u64 0,.string ⟨#[]⟩,.int .i64 x] 34 rfl;have k0:=(I.refl [] w).alloc (.cells #[.int .i64 5,.bool false,.int .u64 0,.string ⟨#[]⟩,.int .i64 x] 34);obtain⟨w1,xq⟩: ∃w1,w.alloc (.cells #[.int .i64 5,.bool false,.int .u64 0,.string ⟨#[]⟩,.int .i64 x] 34)=w1:=⟨_,rfl⟩)
  |(cases iH;have aJ:=Has.aC w #[.int .i64 6,.bool false,.int .u64 0,.string ⟨#[]⟩,.int .i64 x] 34 rfl;have k0:=(I.refl [] w).alloc (.cells #[.int .i64 6,.bool false,.int .u64 0,.string ⟨#[]⟩,.int .i64 x] 34);obtain⟨w1,xq⟩: ∃w1,w.alloc (.cells #[.int .i64 6,.bool false,.int .u64 0,.string ⟨#[]⟩,.int .i64 x] 34)=w1:=⟨_,rfl⟩)
  |(
   first
   |(cases bl;have aJ:=Has.aC w #[.int .i64 5,.bool false,.int .u64 0,.string ⟨#[]⟩,.int .i64 x] 34 rfl)
   |have aJ:=Has.aC w #[.int .i64 6,.bool false,.int .u64 0,.string ⟨#[]⟩,.int .i64 x] 34 rfl
   first
   |(cases bl;have k0:=(I.refl [] w).alloc (.cells #[.int .i64 5,.bool false,.int .u64 0,.string ⟨#[]⟩,.int .i64 x] 34))
   |have k0:=(I.refl [] w).alloc (.cells #[.int .i64 6,.bool false,.int .u64 0,.string ⟨#[]⟩,.int .i64 x] 34)
   first
   |(cases bl;obtain⟨w1,xq⟩: ∃w1,w.alloc (.cells #[.int .i64 5,.bool false,.int .u64 0,.string ⟨#[]⟩,.int .i64 x] 34)=w1:=⟨_,rfl⟩)
   |obtain⟨w1,xq⟩: ∃w1,w.alloc (.cells #[.int .i64 6,.bool false,.int .u64 0,.string ⟨#[]⟩,.int .i64 x] 34)=w1:=⟨_,rfl⟩)
  have H1:=hid (H.out.keeps (k0) (by simp) (by simp)))
 rw[xq] at aJ k0 H1;obtain⟨g0,g1,g2⟩:=H1.out.cells;first
 |((first|cases bl|cases eW|cases jn);have e0:w1.cell? ⟨w.heap.size,0,none⟩=some (.int .i64 5):=aJ.cell 0)
 |have e0:w1.cell? ⟨w.heap.size,0,none⟩=some (.int .i64 6):=aJ.cell 0
 have e1:w1.cell? ⟨w.heap.size,1,none⟩=some (.bool false):=aJ.cell 1;have e2:w1.cell? ⟨w.heap.size,2,none⟩=some (.int .u64 0):=aJ.cell 2;have e3:w1.cell? ⟨w.heap.size,3,none⟩=some (.string ⟨#[]⟩):=aJ.cell 3;have e4:w1.cell? ⟨w.heap.size,4,none⟩=some (.int .i64 x):=aJ.cell 4;have K0:=hid k0;have HN:=hid aJ;clear aJ k0;go_wp2_with fail
 refine(HM.out _).mono ?_;rintro e w2 ⟨rfl,k2⟩;first
 |(cases yj;have H2:=hid (H1.out.keeps k2 (by simp) (by simp[aR])))
 |have H2:=hid (H1.out.keeps k2 (by simp) (by simp))
 have aJ:=HN.out.keeps k2 (by simp);have K2:=hid (K0.out.trans k2);clear g0 g1 g2 e0 e1 e2 e3 e4 xq;obtain⟨g0,g1,g2⟩:=H2.out.cells;first
 |(cases jn;have e0:w2.cell? ⟨w.heap.size,0,none⟩=some (.int .i64 5):=aJ.cell 0)
 |(cases l5;have e0:w2.cell? ⟨w.heap.size,0,none⟩=some (.int .i64 6):=aJ.cell 0)
 |(
  obtain⟨g',fB,he,-,l8,-,-,q0,q1,q2,-⟩:=ai.some_ H2.out.bu;simp only[Value.slice.injEq,Option.some.injEq,Addr.mk.injEq,and_true,true_and] at he;obtain⟨rfl,rfl⟩:=he;first
  |(cases FE;have e0:w2.cell? ⟨w.heap.size,0,none⟩=some (.int .i64 5):=aJ.cell 0)
  |have e0:w2.cell? ⟨w.heap.size,0,none⟩=some (.int .i64 6):=aJ.cell 0)
 have e1:w2.cell? ⟨w.heap.size,1,none⟩=some (.bool false):=aJ.cell 1;have e2:w2.cell? ⟨w.heap.size,2,none⟩=some (.int .u64 0):=aJ.cell 2;have e3:w2.cell? ⟨w.heap.size,3,none⟩=some (.string ⟨#[]⟩):=aJ.cell 3;have e4:w2.cell? ⟨w.heap.size,4,none⟩=some (.int .i64 x):=aJ.cell 4;first
 |(cases yj)
 |have rG:=hid aJ
 have fT:=H2.out.az.lt;have um:w.heap.size<w2.heap.size:=aJ.lt;first
 |(cases yj;have rG:=hid aJ)
 |skip
 clear aJ k2 K0 HN H1;go_wp2_with fail
 refine(HH.out _).mono ?_;first
 |(cases yj;rintro e w3 ⟨rfl,k3⟩;have H3:=hid (H2.out.keeps k3 (by simp) (by simp[aR])))
 |(
  rintro e w3 ⟨rfl,k3'⟩;first
  |(cases mS;have k3:=((I.refl [] w2).alloc (.cells #[.bool true,.int .i64 cc,.int .i64 cpt] 61)).trans k3')
  |have k3:=((I.refl [] w2).alloc (.cells #[.bool false,.int .i64 cc,.int .i64 cpt] 61)).trans k3'
  have H3:=hid (H2.out.keeps k3 (by simp) (by simp)))
 have aJ:=rG.out.keeps k3 (by simp);first
 |(cases yj)
 |have Q8:=hid aJ
 have K3:=hid (K2.out.trans k3);first
 |(cases yj;clear g0 g1 g2 e0 e1 e2 e3 e4 fT um k3 rG H2 K2 HH)
 |(have jx:base≤w3.heap.size:=Nat.le_trans HB.out K3.out.size;clear g0 g1 g2 q0 q1 q2 e0 e1 e2 e3 e4)
 obtain⟨g0,g1,g2⟩:=H3.out.cells;first
 |(cases jn;have f1:=H3.out.az.free 1;have e0:w3.cell? ⟨w.heap.size,0,none⟩=some (.int .i64 5):=aJ.cell 0)
 |(cases l5;have f1:=H3.out.az.free 1;have e0:w3.cell? ⟨w.heap.size,0,none⟩=some (.int .i64 6):=aJ.cell 0)
 |(
  have gl3:=(ai.some_ H3.out.bu)
  first
  |(cases FE;have e0:w3.cell? ⟨w.heap.size,0,none⟩=some (.int .i64 5):=aJ.cell 0)
  |have e0:w3.cell? ⟨w.heap.size,0,none⟩=some (.int .i64 6):=aJ.cell 0
  have e1:w3.cell? ⟨w.heap.size,1,none⟩=some (.bool false):=aJ.cell 1;have e2:w3.cell? ⟨w.heap.size,2,none⟩=some (.int .u64 0):=aJ.cell 2;have e3:w3.cell? ⟨w.heap.size,3,none⟩=some (.string ⟨#[]⟩):=aJ.cell 3)
 have e4:w3.cell? ⟨w.heap.size,4,none⟩=some (.int .i64 x):=aJ.cell 4;have Nh:=H3.out.az.lt;have R8:w.heap.size<w3.heap.size:=aJ.lt;first
 |(cases yj;clear aJ)
 |(
  clear gl3 aJ k3 k3' HH;first
  |(cases mS;go_wp2_with (at_builtin;go_must (refine qo rfl _ _ rfl base (.slice none 0 0) [] rfl (ai.nil _ _ _) ⟨g,0,none⟩ (s.length+1) cap (⟨true,cc,cpt⟩::s) rfl rfl ?_ (by simp;omega) jx ?_)))
  |go_wp2_with (at_builtin;go_must (refine qo rfl _ _ rfl base (.slice none 0 0) [] rfl (ai.nil _ _ _) ⟨g,0,none⟩ (s.length+1) cap (⟨false,cc,cpt⟩::s) rfl rfl ?_ (by simp;omega) jx ?_))
  ·exact World.ownsRow.cells H3.out.bu (g:=g) rfl
  intro v6 w6 bx lE rH;obtain⟨g6,c6,rfl,gb6,gl6,gr6,gm6,p0,p1,p2,pf⟩:=bx.some_;have Yp:g6=w3.heap.size:=by
   rcases rH with h|h
   ·simp[Value.ownBlock] at h
   ·simpa[Value.ownBlock] using h
  rw[aR] at lE;have mw:=H3.out.az.keeps lE (by simp);have r1:=mw.cell 1;have Q9:=mw.free 1;have Ra:=mw.lt;have Yq:=Q8.out.keeps lE (by simp);first
  |(cases FE;have d0:w6.cell? ⟨w.heap.size,0,none⟩=some (.int .i64 5):=Yq.cell 0)
  |have d0:w6.cell? ⟨w.heap.size,0,none⟩=some (.int .i64 6):=Yq.cell 0
  have d4:w6.cell? ⟨w.heap.size,4,none⟩=some (.int .i64 x):=Yq.cell 4;have he6:w.heap.size<w6.heap.size:=Yq.lt;have h3b:=H3.out.az.lt;have h3e:=Q8.out.lt;have lr:g6≠b:=by omega
  have cY:b≠g6:=by omega
  have Ft:w.heap.size≠g6:=by omega
  have acV:g6≠w.heap.size:=by omega
  have FH:b≠w.heap.size:=by omega
  have acW:w.heap.size≠b:=by omega
  have pf2:=pf (s.length*3+2);have FI:w.heap.size≤g6:=by have:=K3.out.size;omega
  unfold maxLen at gm6;clear Yp;simp only[List.getElem?_cons_succ,List.getElem?_cons_zero] at r1;have uG:I [b] w6 (w6.setCell ⟨b,1,none⟩ (.slice (some ⟨g6,0,none⟩) (s.length+1) c6)):=(I.refl _ _).ax _;have aB:=ab bx uG (fun i hi hm=>by rw[List.mem_singleton] at hm;simp only[Value.ownBlock,Option.some.injEq] at hi;omega)
  obtain⟨w8,oT⟩: ∃w8,(w6.setCell ⟨b,1,none⟩ (.slice (some ⟨g6,0,none⟩) (s.length+1) c6)).setCell ⟨g6,s.length*3+2,none⟩ (.int .i64 (cpt+1))=w8:=⟨_,rfl⟩
  first
  |(
   cases mS;have nG:=(show eJ ((w6.setCell ⟨b,1,none⟩ (.slice (some ⟨g6,0,none⟩) (s.length+1) c6)).setCell ⟨g6,s.length*3+2,none⟩ (.int .i64 (cpt+1))) base b 2 (.slice (some ⟨g6,0,none⟩) (s.length+1) c6) (⟨true,cc,cpt+1⟩::s) false from
    ⟨((mw.set 1 (.slice (some ⟨g6,0,none⟩) (s.length+1) c6)).conv rfl).other (by simpa using cY) _,ai.gV aB (cpt+1),fun hm=>by rw[aa] at hm;simp only[Value.ownBlock,Option.some.injEq] at hm;omega⟩))
  |(
   have nG:=(show eJ ((w6.setCell ⟨b,1,none⟩ (.slice (some ⟨g6,0,none⟩) (s.length+1) c6)).setCell ⟨g6,s.length*3+2,none⟩ (.int .i64 (cpt+1))) base b 2 (.slice (some ⟨g6,0,none⟩) (s.length+1) c6) (⟨false,cc,cpt+1⟩::s) false from
    ⟨((mw.set 1 (.slice (some ⟨g6,0,none⟩) (s.length+1) c6)).conv rfl).other (by simpa using cY) _,ai.gV aB (cpt+1),fun hm=>by rw[aa] at hm;simp only[Value.ownBlock,Option.some.injEq] at hm;omega⟩))
  have K7:=((((K3.out.mono (G:=[b]) (by simp)).trans (lE.mono (G:=[b]) (by simp))).trans uG).setCell (p:=⟨g6,s.length*3+2,none⟩) (inr FI) (.int .i64 (cpt+1)))
  have UF:=((Yq.other (by simpa using acW) (p:=⟨b,1,none⟩) (.slice (some ⟨g6,0,none⟩) (s.length+1) c6)).other (by simpa using Ft) (p:=⟨g6,s.length*3+2,none⟩) (.int .i64 (cpt+1)))
  rw[oT] at nG K7 UF;have Kc:=hid oT;replace nG:=hid nG;replace K7:=hid K7;replace UF:=hid UF;have HSZ:=hid FI;clear g0 g1 g2 bx lE rH FI uG aB mw pf oT Yq Q8 H3 K3 rG H2 K2)
 go_wp2_with fail
 first
 |(cases jn;have R9:base≤w3.heap.size:=Nat.le_trans HB.out K3.out.size;have HE:=hid (fun(w':World) (k:I [b] w3 w')=>show w'.cell? ⟨w.heap.size,0,none⟩=some (.int .i64 5)∧w'.cell? ⟨w.heap.size,4,none⟩=some (.int .i64 x) from⟨k.cell e0 (by simp;omega),k.cell e4 (by simp;omega)⟩);clear e0 e4;refine rg (fun w'=>I [b] w3 w') ((I.refl [b] _).drew) fun HH=> ?_)
 |(cases l5;have R9:base≤w3.heap.size:=Nat.le_trans HB.out K3.out.size;have HE:=hid (fun(w':World) (k:I [b] w3 w')=>show w'.cell? ⟨w.heap.size,0,none⟩=some (.int .i64 6)∧w'.cell? ⟨w.heap.size,4,none⟩=some (.int .i64 x) from⟨k.cell e0 (by simp;omega),k.cell e4 (by simp;omega)⟩);clear e0 e4;refine rg (fun w'=>I [b] w3 w') ((I.refl [b] _).drew) fun HH=> ?_)
 |(
  rw[Kc.out];clear r1 Q9 Ra d0 d4 he6 h3b h3e p0 p1 p2 pf2 e0 e1 e2 e3 e4;obtain⟨g0,g1,g2⟩:=nG.out.cells;have f1:=nG.out.az.free 1;have hb8:=nG.out.az.lt;have he8:w.heap.size<w8.heap.size:=UF.out.lt;have BW:base≤w8.heap.size:=Nat.le_trans HB.out K7.out.size;first
  |(cases FE;have HE:=hid (fun(w':World) (k:I [b] w8 w')=>show w'.cell? ⟨w.heap.size,0,none⟩=some (.int .i64 5)∧w'.cell? ⟨w.heap.size,4,none⟩=some (.int .i64 x) from⟨k.cell (UF.out.cell 0) (by simp;omega),k.cell (UF.out.cell 4) (by simp;omega)⟩))
  |have HE:=hid (fun(w':World) (k:I [b] w8 w')=>show w'.cell? ⟨w.heap.size,0,none⟩=some (.int .i64 6)∧w'.cell? ⟨w.heap.size,4,none⟩=some (.int .i64 x) from⟨k.cell (UF.out.cell 0) (by simp;omega),k.cell (UF.out.cell 4) (by simp;omega)⟩)
  refine rg (fun w'=>I [b] w8 w') ((I.refl [b] _).drew) fun HH=> ?_)
 refine tk 0 HH.out ?_;try simp only[gz]
 refine tk 1 HH.out ?_;try simp only[gz]
 refine tk 2 HH.out ?_;try simp only[gz]
 refine tk 3 HH.out ?_;try simp only[gz]
 refine tk 6 HH.out ?_;try simp only[gz]
 refine tf 7 HE.out HH.out ?_;try simp only[gz]
 refine tk 8 HH.out ?_;try simp only[gz]
 refine tk 9 HH.out ?_;try simp only[gz]
 refine tf 10 HE.out HH.out ?_;try simp only[gz]
 refine tk 11 HH.out ?_;try simp only[gz]
 refine Ni 4 12 (fun K hK=> ?_) fun K hK=> ?_
 ·go_simp;refine hK.out _ _ HH.out fun HH=> ?_;clear hK K;first
  |(
   cases jn;refine tk 5 HH.out ?_;try simp only[gz]
   refine rd 12 fun K hK=> ?_;go_simp;refine hK.out _ _ (HH.out.alloc _) fun HH=> ?_;clear hK K;refine rd 13 fun K hK=> ?_;refine bH _ _ rfl base (.slice none 0 0) [] rfl (ai.nil _ _ _) ⟨_,0,none⟩ 1 1 [⟨false,x,0⟩] rfl rfl (aA [.bool false,.int .i64 x,.int .i64 0] (by simp)) (by simp) (by simp;omega) ?_;intro v6 w6 bx lE rH;rw[aR] at lE;replace bx:ai w6 base 61 v6 [⟨false,x,0⟩]:=bx;have tJ:I [] w3 w6:=((I.refl [] w3).drew.alloc (.cells #[.bool false,.int .i64 x,.int .i64 0] 61)).trans lE;obtain⟨g6,c6,Kd,tK,xr,K6,r1,Q9,Ra⟩:=eJ.pH H3.out bx tJ (fun m hm=>by rcases rH with h|h<;>rw[h] at hm<;>simp[Value.ownBlock] at hm;omega);subst Kd;refine hK.out _ _ (tJ.mono (by simp)) (fun cB=> ?_);replace xr:=hid xr;replace K6:=hid ((K3.out.mono (G:=[b]) (by simp)).trans K6);replace tK:=hid (Nat.le_trans K3.out.size tK);clear bx lE rH tJ;clear hK K HH;have HH:=hid cB;clear cB;refine tk 14 HH.out ?_;try simp only[gz]
   refine tk 15 HH.out ?_;try simp only[gz]
   refine rd 16 fun K hK=> ?_;go_simp;refine hK.out _ _ (HH.out.ax _) fun HH=> ?_;clear hK K;refine wpAnyH_done (by kernel_rfl) ?_ _;go_wp2_with fail
   go_ret2;refine⟨rfl,_,xr.out,K6.out.mono m1,fun i hi=>inr ?_⟩;rw[aa] at hi;simp only[Value.ownBlock,Option.some.injEq] at hi;rw[←hi];exact tK.out)
  |(
   cases l5;refine tk 5 HH.out ?_;try simp only[gz]
   refine rd 12 fun K hK=> ?_;go_simp;refine hK.out _ _ (HH.out.alloc _) fun HH=> ?_;clear hK K;refine rd 13 fun K hK=> ?_;refine bH _ _ rfl base (.slice none 0 0) [] rfl (ai.nil _ _ _) ⟨_,0,none⟩ 1 1 [⟨true,x,0⟩] rfl rfl (aA [.bool true,.int .i64 x,.int .i64 0] (by simp)) (by simp) (by simp;omega) ?_;intro v6 w6 bx lE rH;rw[aR] at lE;replace bx:ai w6 base 61 v6 [⟨true,x,0⟩]:=bx;have tJ:I [] w3 w6:=((I.refl [] w3).drew.alloc (.cells #[.bool true,.int .i64 x,.int .i64 0] 61)).trans lE;obtain⟨g6,c6,Kd,tK,xr,K6,r1,Q9,Ra⟩:=eJ.pH H3.out bx tJ (fun m hm=>by rcases rH with h|h<;>rw[h] at hm<;>simp[Value.ownBlock] at hm;omega);subst Kd;refine hK.out _ _ (tJ.mono (by simp)) (fun cB=> ?_);replace xr:=hid xr;replace K6:=hid ((K3.out.mono (G:=[b]) (by simp)).trans K6);replace tK:=hid (Nat.le_trans K3.out.size tK);clear bx lE rH tJ;clear hK K HH;have HH:=hid cB;clear cB;refine tk 14 HH.out ?_;try simp only[gz]
   refine tk 15 HH.out ?_;try simp only[gz]
   refine rd 16 fun K hK=> ?_;go_simp;refine hK.out _ _ (HH.out.ax _) fun HH=> ?_;clear hK K;refine wpAnyH_done (by kernel_rfl) ?_ _;go_wp2_with fail
   go_ret2;refine⟨rfl,_,xr.out,K6.out.mono m1,fun i hi=>inr ?_⟩;rw[aa] at hi;simp only[Value.ownBlock,Option.some.injEq] at hi;rw[←hi];exact tK.out)
  |(
   refine Ni 5 12 (fun K hK=> ?_) fun K hK=> ?_
   ·have ka:I [] w8 _:=((I.refl [] w8).drew)
    have HA:=nG.out.keeps ka (by simp) (by simp);first
    |(cases mS;refine bH _ _ rfl base (.slice none 0 0) [] rfl (ai.nil _ _ _) ⟨g6,0,none⟩ (s.length+1) c6 (⟨true,cc,cpt+1⟩::s) rfl rfl (World.ownsRow.cells HA.bu (g:=g6) rfl) (by simp;omega) (Nat.le_trans BW ka.size) ?_)
    |refine bH _ _ rfl base (.slice none 0 0) [] rfl (ai.nil _ _ _) ⟨g6,0,none⟩ (s.length+1) c6 (⟨false,cc,cpt+1⟩::s) rfl rfl (World.ownsRow.cells HA.bu (g:=g6) rfl) (by simp;omega) (Nat.le_trans BW ka.size) ?_
    intro v5 w5 de qp yl;rw[aR] at qp;rw[List.append_nil] at de;first
    |(cases mS;replace de:ai w5 base 61 v5 (⟨true,cc,cpt+1⟩::s):=de)
    |replace de:ai w5 base 61 v5 (⟨false,cc,cpt+1⟩::s):=de
    have k5:I [] w8 w5:=ka.trans qp;obtain⟨g5,c5,Yr,gb5,gl5,gr5,gm5,-,-,-,-⟩:=de.some_;subst Yr;have Y8:w8.heap.size≤g5:=by
     rcases yl with h|h
     ·simp[Value.ownBlock] at h
     ·simp[Value.ownBlock] at h;omega
    refine hK.out _ _ (k5.mono (by simp)) (fun cB=> ?_);replace de:=hid de;replace k5:=hid k5;clear qp yl ka HA;clear hK K HH;have HH:=hid cB;clear cB;refine rd 12 fun K hK=> ?_;go_simp;refine hK.out _ _ (HH.out.alloc _) fun HH=> ?_;clear hK K;refine rd 13 fun K hK=> ?_;first
    |(cases FE;have kb:I [] w5 _:=((I.refl [] w5).alloc (.cells #[.bool false,.int .i64 x,.int .i64 0] 61)))
    |have kb:I [] w5 _:=((I.refl [] w5).alloc (.cells #[.bool true,.int .i64 x,.int .i64 0] 61))
    have ho:=ab de.out kb (by simp);first
    |(cases bl;refine bH _ _ rfl base (.slice (some ⟨g5,0,none⟩) (s.length+1) c5) (⟨true,cc,cpt+1⟩::s) rfl ho ⟨_,0,none⟩ 1 1 [⟨false,x,0⟩] rfl rfl (aA [.bool false,.int .i64 x,.int .i64 0] (by simp)) (by simp;omega) (by have h1:=k5.out.size;have h2:=kb.size;omega) ?_)
    |(cases lD;refine bH _ _ rfl base (.slice (some ⟨g5,0,none⟩) (s.length+1) c5) (⟨true,cc,cpt+1⟩::s) rfl ho ⟨_,0,none⟩ 1 1 [⟨true,x,0⟩] rfl rfl (aA [.bool true,.int .i64 x,.int .i64 0] (by simp)) (by simp;omega) (by have h1:=k5.out.size;have h2:=kb.size;omega) ?_)
    |(cases eW;refine bH _ _ rfl base (.slice (some ⟨g5,0,none⟩) (s.length+1) c5) (⟨false,cc,cpt+1⟩::s) rfl ho ⟨_,0,none⟩ 1 1 [⟨false,x,0⟩] rfl rfl (aA [.bool false,.int .i64 x,.int .i64 0] (by simp)) (by simp;omega) (by have h1:=k5.out.size;have h2:=kb.size;omega) ?_)
    |refine bH _ _ rfl base (.slice (some ⟨g5,0,none⟩) (s.length+1) c5) (⟨false,cc,cpt+1⟩::s) rfl ho ⟨_,0,none⟩ 1 1 [⟨true,x,0⟩] rfl rfl (aA [.bool true,.int .i64 x,.int .i64 0] (by simp)) (by simp;omega) (by have h1:=k5.out.size;have h2:=kb.size;omega) ?_
    intro v6 w6 bx lE rH;first
    |(cases bl;replace bx:ai w6 base 61 v6 (⟨false,x,0⟩::⟨true,cc,cpt+1⟩::s):=bx)
    |(cases lD;replace bx:ai w6 base 61 v6 (⟨true,x,0⟩::⟨true,cc,cpt+1⟩::s):=bx)
    |(cases eW;replace bx:ai w6 base 61 v6 (⟨false,x,0⟩::⟨false,cc,cpt+1⟩::s):=bx)
    |replace bx:ai w6 base 61 v6 (⟨true,x,0⟩::⟨false,cc,cpt+1⟩::s):=bx
    have k58:=k5.out.size;have kbs:=kb.size;have tJ:I [] w8 w6:=(k5.out.trans kb).trans' lE (fun i hi=>inr (by rw[aa] at hi;simp only[Value.ownBlock,Option.some.injEq] at hi;omega))
    obtain⟨z6,d6,Kd,tK,xr,K6,r1,Q9,Ra⟩:=eJ.pH nG.out bx tJ (fun m hm=>by
     rcases rH with h|h
     ·rw[h] at hm;simp only[Value.ownBlock,Option.some.injEq] at hm;omega
     ·rw[h] at hm;simp at hm;omega)
    subst Kd;refine hK.out _ _ (tJ.mono (by simp)) (fun cB=> ?_);replace xr:=hid xr;replace K6:=hid (K7.out.trans K6);replace tK:=hid (Nat.le_trans K7.out.size tK);clear bx lE rH tJ ho kb;clear hK K HH;have HH:=hid cB;clear cB;refine tk 14 HH.out ?_;try simp only[gz]
    refine tk 15 HH.out ?_;try simp only[gz]
    refine rd 16 fun K hK=> ?_;go_simp;refine hK.out _ _ (HH.out.ax _) fun HH=> ?_;clear hK K;refine wpAnyH_done (by kernel_rfl) ?_ _;go_wp2_with fail
    go_ret2;refine⟨rfl,_,xr.out,K6.out.mono m1,fun i hi=>inr ?_⟩;rw[aa] at hi;simp only[Value.ownBlock,Option.some.injEq] at hi;rw[←hi];exact tK.out
   ·go_simp;refine hK.out _ _ (HH.out.alloc _) fun HH=> ?_;clear hK K;refine rd 5 fun K hK=> ?_;first
    |(cases FE;have ka:I [] w8 _:=(((I.refl [] w8).drew).alloc (.cells #[.bool false,.int .i64 x,.int .i64 0] 61)))
    |have ka:I [] w8 _:=(((I.refl [] w8).drew).alloc (.cells #[.bool true,.int .i64 x,.int .i64 0] 61))
    have HA:=nG.out.keeps ka (by simp) (by simp);first
    |(cases eW;have I2:=Has.aC w8.drew #[.bool false,.int .i64 x,.int .i64 0] 61 rfl;refine bH _ _ rfl base (.slice none 0 0) [] rfl (ai.nil _ _ _) ⟨g6,0,none⟩ (s.length+1) c6 (⟨false,cc,cpt+1⟩::s) rfl rfl (World.ownsRow.cells HA.bu (g:=g6) rfl) (by simp;omega) (Nat.le_trans BW ka.size) ?_)
    |(cases iH;have I2:=Has.aC w8.drew #[.bool true,.int .i64 x,.int .i64 0] 61 rfl;refine bH _ _ rfl base (.slice none 0 0) [] rfl (ai.nil _ _ _) ⟨g6,0,none⟩ (s.length+1) c6 (⟨false,cc,cpt+1⟩::s) rfl rfl (World.ownsRow.cells HA.bu (g:=g6) rfl) (by simp;omega) (Nat.le_trans BW ka.size) ?_)
    |(
     first
     |(cases bl;have I2:=Has.aC w8.drew #[.bool false,.int .i64 x,.int .i64 0] 61 rfl)
     |have I2:=Has.aC w8.drew #[.bool true,.int .i64 x,.int .i64 0] 61 rfl
     refine bH _ _ rfl base (.slice none 0 0) [] rfl (ai.nil _ _ _) ⟨g6,0,none⟩ (s.length+1) c6 (⟨true,cc,cpt+1⟩::s) rfl rfl (World.ownsRow.cells HA.bu (g:=g6) rfl) (by simp;omega) (Nat.le_trans BW ka.size) ?_)
    intro v5 w5 de qp yl;rw[aR] at qp;rw[List.append_nil] at de;first
    |(cases mS;replace de:ai w5 base 61 v5 (⟨true,cc,cpt+1⟩::s):=de)
    |replace de:ai w5 base 61 v5 (⟨false,cc,cpt+1⟩::s):=de
    have k5:I [] w8 w5:=ka.trans qp;have rI:=ym (I2.keeps qp (by simp));replace rI:=hid rI;obtain⟨g5,c5,Yr,gb5,gl5,gr5,gm5,-,-,-,-⟩:=de.some_;subst Yr;have Y8:w8.heap.size≤g5:=by
     rcases yl with h|h
     ·simp[Value.ownBlock] at h
     ·simp[Value.ownBlock] at h;omega
    refine hK.out _ _ (k5.mono (by simp)) (fun cB=> ?_);replace de:=hid de;replace k5:=hid k5;clear qp yl ka HA I2;clear hK K HH;have HH:=hid cB;clear cB;refine rd 13 fun K hK=> ?_;have kb:I [] w5 _:=(I.refl [] w5)
    have ho:=ab de.out kb (by simp);first
    |(cases bl;refine bH _ _ rfl base (.slice (some ⟨g5,0,none⟩) (s.length+1) c5) (⟨true,cc,cpt+1⟩::s) rfl ho ⟨_,0,none⟩ 1 1 [⟨false,x,0⟩] rfl rfl rI.out (by simp;omega) (by have h1:=k5.out.size;have h2:=kb.size;omega) ?_)
    |(cases lD;refine bH _ _ rfl base (.slice (some ⟨g5,0,none⟩) (s.length+1) c5) (⟨true,cc,cpt+1⟩::s) rfl ho ⟨_,0,none⟩ 1 1 [⟨true,x,0⟩] rfl rfl rI.out (by simp;omega) (by have h1:=k5.out.size;have h2:=kb.size;omega) ?_)
    |(cases eW;refine bH _ _ rfl base (.slice (some ⟨g5,0,none⟩) (s.length+1) c5) (⟨false,cc,cpt+1⟩::s) rfl ho ⟨_,0,none⟩ 1 1 [⟨false,x,0⟩] rfl rfl rI.out (by simp;omega) (by have h1:=k5.out.size;have h2:=kb.size;omega) ?_)
    |refine bH _ _ rfl base (.slice (some ⟨g5,0,none⟩) (s.length+1) c5) (⟨false,cc,cpt+1⟩::s) rfl ho ⟨_,0,none⟩ 1 1 [⟨true,x,0⟩] rfl rfl rI.out (by simp;omega) (by have h1:=k5.out.size;have h2:=kb.size;omega) ?_
    intro v6 w6 bx lE rH;first
    |(cases bl;replace bx:ai w6 base 61 v6 (⟨false,x,0⟩::⟨true,cc,cpt+1⟩::s):=bx)
    |(cases lD;replace bx:ai w6 base 61 v6 (⟨true,x,0⟩::⟨true,cc,cpt+1⟩::s):=bx)
    |(cases eW;replace bx:ai w6 base 61 v6 (⟨false,x,0⟩::⟨false,cc,cpt+1⟩::s):=bx)
    |replace bx:ai w6 base 61 v6 (⟨true,x,0⟩::⟨false,cc,cpt+1⟩::s):=bx
    have k58:=k5.out.size;have kbs:=kb.size;have tJ:I [] w8 w6:=(k5.out.trans kb).trans' lE (fun i hi=>inr (by rw[aa] at hi;simp only[Value.ownBlock,Option.some.injEq] at hi;omega))
    obtain⟨z6,d6,Kd,tK,xr,K6,r1,Q9,Ra⟩:=eJ.pH nG.out bx tJ (fun m hm=>by
     rcases rH with h|h
     ·rw[h] at hm;simp only[Value.ownBlock,Option.some.injEq] at hm;omega
     ·rw[h] at hm;simp at hm;omega)
    subst Kd;refine hK.out _ _ (tJ.mono (by simp)) (fun cB=> ?_);replace xr:=hid xr;replace K6:=hid (K7.out.trans K6);replace tK:=hid (Nat.le_trans K7.out.size tK);clear bx lE rH tJ ho kb;clear hK K HH;have HH:=hid cB;clear cB;refine tk 14 HH.out ?_;try simp only[gz]
    refine tk 15 HH.out ?_;try simp only[gz]
    refine rd 16 fun K hK=> ?_;go_simp;refine hK.out _ _ (HH.out.ax _) fun HH=> ?_;clear hK K;refine wpAnyH_done (by kernel_rfl) ?_ _;go_wp2_with fail
    go_ret2;refine⟨rfl,_,xr.out,K6.out.mono m1,fun i hi=>inr ?_⟩;rw[aa] at hi;simp only[Value.ownBlock,Option.some.injEq] at hi;rw[←hi];exact tK.out)
 ·go_simp;refine hK.out _ _ (HH.out.alloc _) fun HH=> ?_;clear hK K;refine rd 4 fun K hK=> ?_;go_simp;refine hK.out _ _ HH.out fun HH=> ?_;clear hK K;first
  |(cases yj;refine tk 5 HH.out ?_;try simp only[gz])
  |(
   refine rd 5 fun K hK=> ?_;first
   |(cases FE;have ka:I [] w8 _:=(((I.refl [] w8).drew).alloc (.cells #[.bool false,.int .i64 x,.int .i64 0] 61)))
   |have ka:I [] w8 _:=(((I.refl [] w8).drew).alloc (.cells #[.bool true,.int .i64 x,.int .i64 0] 61))
   have HA:=nG.out.keeps ka (by simp) (by simp);first
   |(cases eW;have I2:=Has.aC w8.drew #[.bool false,.int .i64 x,.int .i64 0] 61 rfl;refine bH _ _ rfl base (.slice none 0 0) [] rfl (ai.nil _ _ _) ⟨g6,0,none⟩ (s.length+1) c6 (⟨false,cc,cpt+1⟩::s) rfl rfl (World.ownsRow.cells HA.bu (g:=g6) rfl) (by simp;omega) (Nat.le_trans BW ka.size) ?_)
   |(cases iH;have I2:=Has.aC w8.drew #[.bool true,.int .i64 x,.int .i64 0] 61 rfl;refine bH _ _ rfl base (.slice none 0 0) [] rfl (ai.nil _ _ _) ⟨g6,0,none⟩ (s.length+1) c6 (⟨false,cc,cpt+1⟩::s) rfl rfl (World.ownsRow.cells HA.bu (g:=g6) rfl) (by simp;omega) (Nat.le_trans BW ka.size) ?_)
   |(
    first
    |(cases bl;have I2:=Has.aC w8.drew #[.bool false,.int .i64 x,.int .i64 0] 61 rfl)
    |have I2:=Has.aC w8.drew #[.bool true,.int .i64 x,.int .i64 0] 61 rfl
    refine bH _ _ rfl base (.slice none 0 0) [] rfl (ai.nil _ _ _) ⟨g6,0,none⟩ (s.length+1) c6 (⟨true,cc,cpt+1⟩::s) rfl rfl (World.ownsRow.cells HA.bu (g:=g6) rfl) (by simp;omega) (Nat.le_trans BW ka.size) ?_)
   intro v5 w5 de qp yl;rw[aR] at qp;rw[List.append_nil] at de;first
   |(cases mS;replace de:ai w5 base 61 v5 (⟨true,cc,cpt+1⟩::s):=de)
   |replace de:ai w5 base 61 v5 (⟨false,cc,cpt+1⟩::s):=de
   have k5:I [] w8 w5:=ka.trans qp;have rI:=ym (I2.keeps qp (by simp));replace rI:=hid rI;obtain⟨g5,c5,Yr,gb5,gl5,gr5,gm5,-,-,-,-⟩:=de.some_;subst Yr;have Y8:w8.heap.size≤g5:=by
    rcases yl with h|h
    ·simp[Value.ownBlock] at h
    ·simp[Value.ownBlock] at h;omega
   refine hK.out _ _ (k5.mono (by simp)) (fun cB=> ?_);replace de:=hid de;replace k5:=hid k5;clear qp yl ka HA I2;clear hK K HH;have HH:=hid cB;clear cB)
  refine rd 13 fun K hK=> ?_;first
  |(cases jn;refine bH _ _ rfl base (.slice none 0 0) [] rfl (ai.nil _ _ _) ⟨_,0,none⟩ 1 1 [⟨false,x,0⟩] rfl rfl (aA [.bool false,.int .i64 x,.int .i64 0] (by simp)) (by simp) (by simp;omega) ?_)
  |(cases l5;refine bH _ _ rfl base (.slice none 0 0) [] rfl (ai.nil _ _ _) ⟨_,0,none⟩ 1 1 [⟨true,x,0⟩] rfl rfl (aA [.bool true,.int .i64 x,.int .i64 0] (by simp)) (by simp) (by simp;omega) ?_)
  |(
   have kb:I [] w5 _:=(I.refl [] w5)
   have ho:=ab de.out kb (by simp);first
   |(cases bl;refine bH _ _ rfl base (.slice (some ⟨g5,0,none⟩) (s.length+1) c5) (⟨true,cc,cpt+1⟩::s) rfl ho ⟨_,0,none⟩ 1 1 [⟨false,x,0⟩] rfl rfl rI.out (by simp;omega) (by have h1:=k5.out.size;have h2:=kb.size;omega) ?_)
   |(cases lD;refine bH _ _ rfl base (.slice (some ⟨g5,0,none⟩) (s.length+1) c5) (⟨true,cc,cpt+1⟩::s) rfl ho ⟨_,0,none⟩ 1 1 [⟨true,x,0⟩] rfl rfl rI.out (by simp;omega) (by have h1:=k5.out.size;have h2:=kb.size;omega) ?_)
   |(cases eW;refine bH _ _ rfl base (.slice (some ⟨g5,0,none⟩) (s.length+1) c5) (⟨false,cc,cpt+1⟩::s) rfl ho ⟨_,0,none⟩ 1 1 [⟨false,x,0⟩] rfl rfl rI.out (by simp;omega) (by have h1:=k5.out.size;have h2:=kb.size;omega) ?_)
   |refine bH _ _ rfl base (.slice (some ⟨g5,0,none⟩) (s.length+1) c5) (⟨false,cc,cpt+1⟩::s) rfl ho ⟨_,0,none⟩ 1 1 [⟨true,x,0⟩] rfl rfl rI.out (by simp;omega) (by have h1:=k5.out.size;have h2:=kb.size;omega) ?_)
  intro v6 w6 bx lE rH;first
  |(cases jn;rw[aR] at lE;replace bx:ai w6 base 61 v6 [⟨false,x,0⟩]:=bx;have tJ:I [] w3 w6:=((I.refl [] w3).drew.alloc (.cells #[.bool false,.int .i64 x,.int .i64 0] 61)).trans lE;obtain⟨g6,c6,Kd,tK,xr,K6,r1,Q9,Ra⟩:=eJ.pH H3.out bx tJ (fun m hm=>by rcases rH with h|h<;>rw[h] at hm<;>simp[Value.ownBlock] at hm;omega))
  |(cases l5;rw[aR] at lE;replace bx:ai w6 base 61 v6 [⟨true,x,0⟩]:=bx;have tJ:I [] w3 w6:=((I.refl [] w3).drew.alloc (.cells #[.bool true,.int .i64 x,.int .i64 0] 61)).trans lE;obtain⟨g6,c6,Kd,tK,xr,K6,r1,Q9,Ra⟩:=eJ.pH H3.out bx tJ (fun m hm=>by rcases rH with h|h<;>rw[h] at hm<;>simp[Value.ownBlock] at hm;omega))
  |(
   first
   |(cases bl;replace bx:ai w6 base 61 v6 (⟨false,x,0⟩::⟨true,cc,cpt+1⟩::s):=bx)
   |(cases lD;replace bx:ai w6 base 61 v6 (⟨true,x,0⟩::⟨true,cc,cpt+1⟩::s):=bx)
   |(cases eW;replace bx:ai w6 base 61 v6 (⟨false,x,0⟩::⟨false,cc,cpt+1⟩::s):=bx)
   |replace bx:ai w6 base 61 v6 (⟨true,x,0⟩::⟨false,cc,cpt+1⟩::s):=bx
   have k58:=k5.out.size;have kbs:=kb.size;have tJ:I [] w8 w6:=(k5.out.trans kb).trans' lE (fun i hi=>inr (by rw[aa] at hi;simp only[Value.ownBlock,Option.some.injEq] at hi;omega))
   obtain⟨z6,d6,Kd,tK,xr,K6,r1,Q9,Ra⟩:=eJ.pH nG.out bx tJ (fun m hm=>by
    rcases rH with h|h
    ·rw[h] at hm;simp only[Value.ownBlock,Option.some.injEq] at hm;omega
    ·rw[h] at hm;simp at hm;omega))
  subst Kd;refine hK.out _ _ (tJ.mono (by simp)) (fun cB=> ?_);replace xr:=hid xr;first
  |(cases l5;replace K6:=hid ((K3.out.mono (G:=[b]) (by simp)).trans K6);replace tK:=hid (Nat.le_trans K3.out.size tK);clear bx lE rH tJ)
  |(
   first
   |(cases jn;replace K6:=hid ((K3.out.mono (G:=[b]) (by simp)).trans K6))
   |replace K6:=hid (K7.out.trans K6)
   first
   |(cases jn;replace tK:=hid (Nat.le_trans K3.out.size tK))
   |replace tK:=hid (Nat.le_trans K7.out.size tK)
   first
   |(cases jn;clear bx lE rH tJ)
   |clear bx lE rH tJ ho kb)
  clear hK K HH;have HH:=hid cB;clear cB;refine tk 14 HH.out ?_;try simp only[gz]
  refine tk 15 HH.out ?_;try simp only[gz]
  refine rd 16 fun K hK=> ?_;go_simp;refine hK.out _ _ (HH.out.ax _) fun HH=> ?_;clear hK K;refine wpAnyH_done (by kernel_rfl) ?_ _;go_wp2_with fail
  go_ret2;refine⟨rfl,_,xr.out,K6.out.mono m1,fun i hi=>inr ?_⟩;rw[aa] at hi;simp only[Value.ownBlock,Option.some.injEq] at hi;rw[←hi];exact tK.out):p:=h
theorem q1 {p:Prop} (h:p:=by
 first
 |(
  cases BD;have cL:=hid (fun W=>aK (aN n2) (inr (inr (inr (inr (inr (inl ⟨n2,by omega,rfl⟩)))))) W);have tL:=hid ak;obtain⟨Nj,mj⟩: ∃t:List UInt8,[58]++[91]=t:=⟨_,rfl⟩
  rw[mj];have HT:=hid mj;obtain⟨x2,dE⟩: ∃x:Int,(n2:Int)=x:=⟨_,rfl⟩
  rw[eC] at cL;simp only[dE] at cL;rw[dE];have HB:=hid (fun W=>dy true n q hq W);rw[jy] at HB;obtain⟨g,cap,rfl,gb,gl,gr,gm,q0,q1,qf⟩:=h.bu.some_)
 |(
  cases zh;have cL:=hid (fun W=>aK (aO n2) (inr (inr (inr (inr (inr (inr (inl ⟨n2,by omega,rfl⟩))))))) W);have tL:=hid ak;obtain⟨Nj,mj⟩: ∃t:List UInt8,[58]++[123]=t:=⟨_,rfl⟩
  rw[mj];have HT:=hid mj;obtain⟨x2,dE⟩: ∃x:Int,(n2:Int)=x:=⟨_,rfl⟩
  rw[eD] at cL;simp only[dE] at cL;rw[dE];have HB:=hid (fun W=>dy true n q hq W);rw[jy] at HB;obtain⟨g,cap,rfl,gb,gl,gr,gm,q0,q1,qf⟩:=h.bu.some_)
 |(
  cases l6;have cL:=hid (fun W=>aK (aN n2) (inr (inr (inr (inr (inr (inl ⟨n2,by omega,rfl⟩)))))) W);have tL:=hid ak;obtain⟨Nj,mj⟩: ∃t:List UInt8,[44]++[91]=t:=⟨_,rfl⟩
  rw[mj];have HT:=hid mj;obtain⟨x2,dE⟩: ∃x:Int,(n2:Int)=x:=⟨_,rfl⟩
  rw[eC] at cL;simp only[dE] at cL;rw[dE];have HB:=hid (fun W=>dy false n q hq W);rw[show af.aj ⟨false,n,q⟩=false from rfl] at HB;obtain⟨g,cap,rfl,gb,gl,gr,gm,q0,q1,qf⟩:=h.bu.some_)
 |(
  cases mu;have cL:=hid (fun W=>aK (aO n2) (inr (inr (inr (inr (inr (inr (inl ⟨n2,by omega,rfl⟩))))))) W);have tL:=hid ak;obtain⟨Nj,mj⟩: ∃t:List UInt8,[44]++[123]=t:=⟨_,rfl⟩
  rw[mj];have HT:=hid mj;obtain⟨x2,dE⟩: ∃x:Int,(n2:Int)=x:=⟨_,rfl⟩
  rw[eD] at cL;simp only[dE] at cL;rw[dE];have HB:=hid (fun W=>dy false n q hq W);rw[show af.aj ⟨false,n,q⟩=false from rfl] at HB;obtain⟨g,cap,rfl,gb,gl,gr,gm,q0,q1,qf⟩:=h.bu.some_)
 |(
  cases lv;have cL:=hid (fun W=>aK (aN n2) (inr (inr (inr (inr (inr (inl ⟨n2,by omega,rfl⟩)))))) W);have tL:=hid ak;obtain⟨Nj,mj⟩: ∃t:List UInt8,[]++[91]=t:=⟨_,rfl⟩
  rw[mj];have HT:=hid mj;obtain⟨x2,dE⟩: ∃x:Int,(n2:Int)=x:=⟨_,rfl⟩
  rw[eC] at cL;simp only[dE] at cL;rw[dE];have HB:=hid (fun W=>dy false n q hq W);rw[show af.aj ⟨false,n,q⟩=false from rfl] at HB;obtain⟨g,cap,rfl,gb,gl,gr,gm,q0,q1,qf⟩:=h.bu.some_)
 |(
  cases qn;have cL:=hid (fun W=>aK (aO n2) (inr (inr (inr (inr (inr (inr (inl ⟨n2,by omega,rfl⟩))))))) W);have tL:=hid ak;obtain⟨Nj,mj⟩: ∃t:List UInt8,[]++[123]=t:=⟨_,rfl⟩
  rw[mj];have HT:=hid mj;obtain⟨x2,dE⟩: ∃x:Int,(n2:Int)=x:=⟨_,rfl⟩
  rw[eD] at cL;simp only[dE] at cL;rw[dE];have HB:=hid (fun W=>dy false n q hq W);rw[show af.aj ⟨false,n,q⟩=false from rfl] at HB;obtain⟨g,cap,rfl,gb,gl,gr,gm,q0,q1,qf⟩:=h.bu.some_)
 |(
  first
  |(cases eW;have cL:=hid (fun W=>aK (aN n2) (inr (inr (inr (inr (inr (inl ⟨n2,by omega,rfl⟩)))))) W);have mT:=hid (fun W=>iN 4 n2 (by omega) (by omega) W);rw[show((4:Nat):Int)=4 from rfl] at mT;obtain⟨out,di⟩: ∃out,aU 4 n2=out:=⟨_,rfl⟩)
  |(cases iH;have cL:=hid (fun W=>aK (aO n2) (inr (inr (inr (inr (inr (inr (inl ⟨n2,by omega,rfl⟩))))))) W);have mT:=hid (fun W=>iN 5 n2 (by omega) (by omega) W);rw[show((5:Nat):Int)=5 from rfl] at mT;obtain⟨out,di⟩: ∃out,aU 5 n2=out:=⟨_,rfl⟩)
  |(
   cases mS;first
   |(cases bl;have cL:=hid (fun W=>aK (aN n2) (inr (inr (inr (inr (inr (inl ⟨n2,by omega,rfl⟩)))))) W))
   |have cL:=hid (fun W=>aK (aO n2) (inr (inr (inr (inr (inr (inr (inl ⟨n2,by omega,rfl⟩))))))) W)
   first
   |(cases bl;have mT:=hid (fun W=>iN 4 n2 (by omega) (by omega) W))
   |have mT:=hid (fun W=>iN 5 n2 (by omega) (by omega) W)
   first
   |(cases bl;rw[show((4:Nat):Int)=4 from rfl] at mT)
   |rw[show((5:Nat):Int)=5 from rfl] at mT
   first
   |(cases bl;obtain⟨out,di⟩: ∃out,aU 4 n2=out:=⟨_,rfl⟩)
   |obtain⟨out,di⟩: ∃out,aU 5 n2=out:=⟨_,rfl⟩)
  |(
   cases Nb;have cL:=hid (fun W=>aK (aN n2) (inr (inr (inr (inr (inr (inl ⟨n2,by omega,rfl⟩)))))) W);have ez:=hid (fun W=>jI false n2 W);have mT:=hid (fun W=>lF false n2 hn W);have Rb:(cl false n2).2=0:=by rw[cl,if_neg (by omega),if_pos (by omega)]
   rw[Rb] at mT;obtain⟨out,di⟩: ∃out,(cl false n2).1=out:=⟨_,rfl⟩)
  |(
   have cL:=hid (fun W=>aK (aO n2) (inr (inr (inr (inr (inr (inr (inl ⟨n2,by omega,rfl⟩))))))) W);have ez:=hid (fun W=>jI true n2 W);have mT:=hid (fun W=>lF true n2 hn W);have Rb:(cl true n2).2=0:=by rw[cl,if_neg (by omega),if_pos (by omega)]
   rw[Rb] at mT;obtain⟨out,di⟩: ∃out,(cl true n2).1=out:=⟨_,rfl⟩)
  rw[di] at mT⊢;first
  |(cases yj;have HF:=hid (fun W=>kM true n q hq W))
  |(cases Nc;have HF:=hid (fun W=>kM false n q hq W))
  |(
   have tL:=hid ak;obtain⟨x2,dE⟩: ∃x:Int,(n2:Int)=x:=⟨_,rfl⟩
   have hx:0≤x2∧x2<16:=by omega
   obtain⟨cy,cQ⟩:=hx;have hwx:IntKind.u64.wrap x2=x2:=by rw[IntKind.wrap_u64];omega
   first
   |(cases FE;rw[eC] at cL)
   |rw[eD] at cL
   simp only[dE] at cL;rw[dE] at mT⊢;have ez:=cL;first
   |(cases mS;have HF:=hid (fun W=>kN true n q hq W))
   |have HF:=hid (fun W=>kN false n q hq W))
  rw[eP] at HF;first
  |(cases mS;have HB:=hid (fun W=>jJ true n q hq W);rw[jy] at HB)
  |(cases yj;have HB:=hid (fun W=>ma true n q hq W);rw[jy] at HB)
  |skip
  obtain⟨g,cap,rfl,gb,gl,gr,gm,q0,q1,q2,qf⟩:=h.bu.some_)
 have H:=hid h;obtain⟨g0,g1⟩:=h.cells;have bP:=h.az.lt;first
 |(cases MV;have tL:=hid ak)
 |skip
 unfold maxLen at gm;have lq:(r.length:Int)≤1000:=by omega
 have eK:=da (x:=q+1) (by omega);first
 |(
  cases mS;first
  |(cases bl;rw[eC])
  |rw[eD]
  first
  |(cases bl;simp only[Ev.val,Ev.cells,aN,aY,dE] at cL⊢)
  |simp only[Ev.val,Ev.cells,aO,aY,dE] at cL⊢)
 |(cases Nb;rw[eC] at cL⊢;simp only[Ev.val,Ev.cells,aN,aY] at cL)
 |(
  (first|cases l5|cases MW)
  rw[eD] at cL⊢;simp only[Ev.val,Ev.cells,aO,aY] at cL)
 |(
  (first|cases eW|cases BD|cases l6|cases lv)
  rw[eC];simp only[Ev.val,Ev.cells,aN,aY,dE] at cL⊢)
 |(rw[eD];simp only[Ev.val,Ev.cells,aO,aY,dE] at cL⊢)
 obtain⟨Ys,VV⟩:=hq;first
 |(
  cases yj;obtain⟨x2,dE⟩: ∃x:Int,(n2:Int)=x:=⟨_,rfl⟩
  rw[dE] at cL ez mT⊢;have hx:0≤x2∧x2<16:=by omega
  obtain⟨cy,cQ⟩:=hx;clear h di ak hn Rb dE cy cQ eP qf hr jy;go_enter func238,ntmps238)
 |(
  cases Nc;obtain⟨x2,dE⟩: ∃x:Int,(n2:Int)=x:=⟨_,rfl⟩
  rw[dE] at cL ez mT⊢;have hx:0≤x2∧x2<16:=by omega
  obtain⟨cy,cQ⟩:=hx;clear h di ak hn Rb dE cy cQ eP qf hr;go_enter func238,ntmps238)
 |(cases Nd;clear h ak mj hn dE qf hr jy;go_enter func203,ntmps203)
 |(
  (first|cases l6|cases mu)
  clear h ak mj hn dE qf hr;go_enter func203,ntmps203)
 |(
  (first|cases lv|cases qn)
  subst eQ;simp only[Int.zero_add] at*;clear h ak mj hn dE qf hr;go_enter func203,ntmps203)
 |(
  first
  |(cases mS;clear h di ak hn dE cQ ez eP jy qf hr)
  |clear h di ak hn dE cQ ez eP qf hr
  go_enter func231,ntmps231)
 go_wp2_with fail
 refine(cL.out _).mono ?_;rintro e w1 ⟨rfl,k1⟩;have H1:=hid (H.out.keeps k1 (by simp) (by simp));have K1:=hid k1;first
 |(cases zg;clear g0 g1 bP k1 H q0 q1)
 |clear g0 g1 bP k1 H q0 q1 q2
 obtain⟨g0,g1⟩:=H1.out.cells;have bP:=H1.out.az.lt;first
 |(cases zg;obtain⟨g',fB,he,-,l8,-,-,q0,q1,-⟩:=H1.out.bu.some_)
 |obtain⟨g',fB,he,-,l8,-,-,q0,q1,q2,-⟩:=H1.out.bu.some_
 simp only[Value.slice.injEq,Option.some.injEq,Addr.mk.injEq,and_true,true_and] at he;obtain⟨rfl,rfl⟩:=he;first
 |(cases zg)
 |(
  obtain⟨n1,ij⟩: ∃n1,w1.heap.size=n1:=⟨_,rfl⟩
  have Nh:b<n1:=by rw[←ij];exact bP
  have Sa:g<n1:=by rw[←ij];exact l8)
 go_wp2_with fail
 first
 |(cases zg;refine(HB.out _).mono ?_)
 |refine(HF.out _).mono ?_
 rintro e w2 ⟨rfl,k2⟩;first
 |(cases Ka;have jq:=(((I.refl [] w1).alloc (.cells #[.int .i64 5,.bool false,.int .u64 0,.string ⟨#[]⟩,.int .i64 x2] 34)).alloc (.cells #[] 218)).trans k2;have H2:=hid (H1.out.keeps jq (by simp) (by simp));have K2:=hid (K1.out.trans jq);clear g0 g1 bP q0 q1 l8 jq k2 H1 K1)
 |(cases Kb;have jq:=(((I.refl [] w1).alloc (.cells #[.int .i64 6,.bool false,.int .u64 0,.string ⟨#[]⟩,.int .i64 x2] 34)).alloc (.cells #[] 218)).trans k2;have H2:=hid (H1.out.keeps jq (by simp) (by simp));have K2:=hid (K1.out.trans jq);clear g0 g1 bP q0 q1 l8 jq k2 H1 K1)
 |(
  first
  |(cases eW;have jq:=(((I.refl [] w1).alloc (.cells #[.int .i64 5,.bool false,.int .u64 0,.string ⟨#[]⟩,.int .i64 x2] 34)).alloc (.cells #[] 218)).alloc (.cells #[.bool false,.int .i64 n,.int .i64 q] 299);have gJ:=(Has.aC ((w1.alloc (.cells #[.int .i64 5,.bool false,.int .u64 0,.string ⟨#[]⟩,.int .i64 x2] 34)).alloc (.cells #[] 218)) #[.bool false,.int .i64 n,.int .i64 q] 299 (n:=n1+1+1) (by rw[←ij];simp)).keeps k2 (by simp))
  |(cases iH;have jq:=(((I.refl [] w1).alloc (.cells #[.int .i64 6,.bool false,.int .u64 0,.string ⟨#[]⟩,.int .i64 x2] 34)).alloc (.cells #[] 218)).alloc (.cells #[.bool false,.int .i64 n,.int .i64 q] 299);have gJ:=(Has.aC ((w1.alloc (.cells #[.int .i64 6,.bool false,.int .u64 0,.string ⟨#[]⟩,.int .i64 x2] 34)).alloc (.cells #[] 218)) #[.bool false,.int .i64 n,.int .i64 q] 299 (n:=n1+1+1) (by rw[←ij];simp)).keeps k2 (by simp))
  |(cases jn;have jq:=(((I.refl [] w1).alloc (.cells #[.int .i64 5,.bool false,.int .u64 0,.string ⟨#[]⟩,.int .i64 x2] 34)).alloc (.cells #[] 218)).alloc (.cells #[.bool true,.int .i64 n,.int .i64 q] 301);have gJ:=(Has.aC ((w1.alloc (.cells #[.int .i64 5,.bool false,.int .u64 0,.string ⟨#[]⟩,.int .i64 x2] 34)).alloc (.cells #[] 218)) #[.bool true,.int .i64 n,.int .i64 q] 301 (n:=n1+1+1) (by rw[←ij];simp)).keeps k2 (by simp))
  |(cases l5;have jq:=(((I.refl [] w1).alloc (.cells #[.int .i64 6,.bool false,.int .u64 0,.string ⟨#[]⟩,.int .i64 x2] 34)).alloc (.cells #[] 218)).alloc (.cells #[.bool true,.int .i64 n,.int .i64 q] 301);have gJ:=(Has.aC ((w1.alloc (.cells #[.int .i64 6,.bool false,.int .u64 0,.string ⟨#[]⟩,.int .i64 x2] 34)).alloc (.cells #[] 218)) #[.bool true,.int .i64 n,.int .i64 q] 301 (n:=n1+1+1) (by rw[←ij];simp)).keeps k2 (by simp))
  |(cases zf;have jq:=(((I.refl [] w1).alloc (.cells #[.int .i64 5,.bool false,.int .u64 0,.string ⟨#[]⟩,.int .i64 x2] 34)).alloc (.cells #[] 218)).alloc (.cells #[.bool false,.int .i64 n,.int .i64 q] 301);have gJ:=(Has.aC ((w1.alloc (.cells #[.int .i64 5,.bool false,.int .u64 0,.string ⟨#[]⟩,.int .i64 x2] 34)).alloc (.cells #[] 218)) #[.bool false,.int .i64 n,.int .i64 q] 301 (n:=n1+1+1) (by rw[←ij];simp)).keeps k2 (by simp))
  |(cases MW;have jq:=(((I.refl [] w1).alloc (.cells #[.int .i64 6,.bool false,.int .u64 0,.string ⟨#[]⟩,.int .i64 x2] 34)).alloc (.cells #[] 218)).alloc (.cells #[.bool false,.int .i64 n,.int .i64 q] 301);have gJ:=(Has.aC ((w1.alloc (.cells #[.int .i64 6,.bool false,.int .u64 0,.string ⟨#[]⟩,.int .i64 x2] 34)).alloc (.cells #[] 218)) #[.bool false,.int .i64 n,.int .i64 q] 301 (n:=n1+1+1) (by rw[←ij];simp)).keeps k2 (by simp))
  |(
   first
   |(cases bl;have jq:=(((I.refl [] w1).alloc (.cells #[.int .i64 5,.bool false,.int .u64 0,.string ⟨#[]⟩,.int .i64 x2] 34)).alloc (.cells #[] 218)).alloc (.cells #[.bool true,.int .i64 n,.int .i64 q] 299))
   |have jq:=(((I.refl [] w1).alloc (.cells #[.int .i64 6,.bool false,.int .u64 0,.string ⟨#[]⟩,.int .i64 x2] 34)).alloc (.cells #[] 218)).alloc (.cells #[.bool true,.int .i64 n,.int .i64 q] 299)
   first
   |(cases bl;have gJ:=(Has.aC ((w1.alloc (.cells #[.int .i64 5,.bool false,.int .u64 0,.string ⟨#[]⟩,.int .i64 x2] 34)).alloc (.cells #[] 218)) #[.bool true,.int .i64 n,.int .i64 q] 299 (n:=n1+1+1) (by rw[←ij];simp)).keeps k2 (by simp))
   |have gJ:=(Has.aC ((w1.alloc (.cells #[.int .i64 6,.bool false,.int .u64 0,.string ⟨#[]⟩,.int .i64 x2] 34)).alloc (.cells #[] 218)) #[.bool true,.int .i64 n,.int .i64 q] 299 (n:=n1+1+1) (by rw[←ij];simp)).keeps k2 (by simp))
  have H2:=hid (H1.out.keeps (jq.trans k2) (by simp) (by simp));have K2:=hid (K1.out.trans (jq.trans k2));clear g0 g1 bP q0 q1 q2 l8 jq k2 H1 K1)
 obtain⟨g0,g1⟩:=H2.out.cells;have bP:=H2.out.az.lt;first
 |(cases Nd;obtain⟨g',fB,he,-,l8,-,-,q0,q1,-⟩:=H2.out.bu.some_)
 |(cases Q6;obtain⟨g',fB,he,-,l8,-,-,q0,q1,qf⟩:=H2.out.bu.some_)
 |(
  first
  |((first|cases bl|cases lD|cases jn|cases l5);have c0:w2.cell? ⟨n1+1+1,0,none⟩=some (.bool true):=gJ.cell 0)
  |have c0:w2.cell? ⟨n1+1+1,0,none⟩=some (.bool false):=gJ.cell 0
  have c1:w2.cell? ⟨n1+1+1,1,none⟩=some (.int .i64 n):=gJ.cell 1;have c2:w2.cell? ⟨n1+1+1,2,none⟩=some (.int .i64 q):=gJ.cell 2;clear gJ;first
  |(
   cases jn;go_wp2_with fail
   refine(HB.out _).mono ?_;rintro e w3 ⟨rfl,k3⟩;have H3:=hid (H2.out.keeps k3 (by simp) (by simp));have K3:=hid (K2.out.trans k3);clear g0 g1 bP c0 c1 c2 k3 H2 K2;obtain⟨g0,g1⟩:=H3.out.cells;have bP:=H3.out.az.lt;go_wp2_with fail
   refine(ez.out _).mono ?_;rintro e w4 ⟨rfl,k4⟩;have H4:=hid (H3.out.keeps k4 (by simp) (by simp));have K4:=hid (K3.out.trans k4);clear g0 g1 bP k4 H3 K3;obtain⟨g0,g1⟩:=H4.out.cells;have bP:=H4.out.az.lt;have VW:=(World.ownsRow.lt H4.out.bu g rfl).2;obtain⟨n4,fW⟩: ∃n4,w4.heap.size=n4:=⟨_,rfl⟩
   have nK:b<n4:=by rw[←fW];exact bP
   rw[fW] at VW;go_wp2_with fail
   refine(mT.out _).mono ?_;rintro e w5 ⟨rfl,k5⟩;have BX:=(Has.aC w4 #[.bool false,.int .i64 x2] 215 (n:=n4) fW.symm).keeps k5 (by simp);have rJ:=((I.refl [] w4).alloc (.cells #[.bool false,.int .i64 x2] 215)).trans k5;have H5:=hid (H4.out.keeps rJ (by simp) (by simp));have K5:=hid (K4.out.trans rJ);have Rc:=hid BX;have qq:=K4.out.size;rw[fW] at qq;have Re:=hid qq;clear g0 g1 bP k5 rJ H4 K4 BX qq;obtain⟨g0,g1⟩:=H5.out.cells;have bP:=H5.out.az.lt;obtain⟨g',fB,he,-,l8,-,-,q0,q1,q2,qf⟩:=H5.out.bu.some_)
  |(
   cases l5;go_wp2_with fail
   refine(HB.out _).mono ?_;rintro e w3 ⟨rfl,k3⟩;have H3:=hid (H2.out.keeps k3 (by simp) (by simp));have K3:=hid (K2.out.trans k3);clear g0 g1 bP c0 c1 c2 k3 H2 K2;obtain⟨g0,g1⟩:=H3.out.cells;have bP:=H3.out.az.lt;go_wp2_with fail
   refine(ez.out _).mono ?_;rintro e w4 ⟨rfl,k4⟩;have H4:=hid (H3.out.keeps k4 (by simp) (by simp));have K4:=hid (K3.out.trans k4);clear g0 g1 bP k4 H3 K3;obtain⟨g0,g1⟩:=H4.out.cells;have bP:=H4.out.az.lt;have VW:=(World.ownsRow.lt H4.out.bu g rfl).2;obtain⟨n4,fW⟩: ∃n4,w4.heap.size=n4:=⟨_,rfl⟩
   have nK:b<n4:=by rw[←fW];exact bP
   rw[fW] at VW;go_wp2_with fail
   refine(mT.out _).mono ?_;rintro e w5 ⟨rfl,k5⟩;have BX:=(Has.aC w4 #[.bool true,.int .i64 x2] 215 (n:=n4) fW.symm).keeps k5 (by simp);have rJ:=((I.refl [] w4).alloc (.cells #[.bool true,.int .i64 x2] 215)).trans k5;have H5:=hid (H4.out.keeps rJ (by simp) (by simp));have K5:=hid (K4.out.trans rJ);have Rc:=hid BX;have qq:=K4.out.size;rw[fW] at qq;have Re:=hid qq;clear g0 g1 bP k5 rJ H4 K4 BX qq;obtain⟨g0,g1⟩:=H5.out.cells;have bP:=H5.out.az.lt;obtain⟨g',fB,he,-,l8,-,-,q0,q1,q2,qf⟩:=H5.out.bu.some_)
  |(
   cases zf;go_wp2_with fail
   refine(ez.out _).mono ?_;rintro e w4 ⟨rfl,k4⟩;have H4:=hid (H2.out.keeps k4 (by simp) (by simp));have K4:=hid (K2.out.trans k4);clear g0 g1 bP c0 c1 c2 k4 H2 K2;obtain⟨g0,g1⟩:=H4.out.cells;have bP:=H4.out.az.lt;have VW:=(World.ownsRow.lt H4.out.bu g rfl).2;obtain⟨n4,fW⟩: ∃n4,w4.heap.size=n4:=⟨_,rfl⟩
   have nK:b<n4:=by rw[←fW];exact bP
   rw[fW] at VW;go_wp2_with fail
   refine(mT.out _).mono ?_;rintro e w5 ⟨rfl,k5⟩;have BX:=(Has.aC w4 #[.bool false,.int .i64 x2] 215 (n:=n4) fW.symm).keeps k5 (by simp);have rJ:=((I.refl [] w4).alloc (.cells #[.bool false,.int .i64 x2] 215)).trans k5;have H5:=hid (H4.out.keeps rJ (by simp) (by simp));have K5:=hid (K4.out.trans rJ);have Rc:=hid BX;have qq:=K4.out.size;rw[fW] at qq;have Re:=hid qq;clear g0 g1 bP k5 rJ H4 K4 BX qq;obtain⟨g0,g1⟩:=H5.out.cells;have bP:=H5.out.az.lt;obtain⟨g',fB,he,-,l8,-,-,q0,q1,q2,qf⟩:=H5.out.bu.some_)
  |(
   cases MW;go_wp2_with fail
   refine(ez.out _).mono ?_;rintro e w4 ⟨rfl,k4⟩;have H4:=hid (H2.out.keeps k4 (by simp) (by simp));have K4:=hid (K2.out.trans k4);clear g0 g1 bP c0 c1 c2 k4 H2 K2;obtain⟨g0,g1⟩:=H4.out.cells;have bP:=H4.out.az.lt;have VW:=(World.ownsRow.lt H4.out.bu g rfl).2;obtain⟨n4,fW⟩: ∃n4,w4.heap.size=n4:=⟨_,rfl⟩
   have nK:b<n4:=by rw[←fW];exact bP
   rw[fW] at VW;go_wp2_with fail
   refine(mT.out _).mono ?_;rintro e w5 ⟨rfl,k5⟩;have BX:=(Has.aC w4 #[.bool true,.int .i64 x2] 215 (n:=n4) fW.symm).keeps k5 (by simp);have rJ:=((I.refl [] w4).alloc (.cells #[.bool true,.int .i64 x2] 215)).trans k5;have H5:=hid (H4.out.keeps rJ (by simp) (by simp));have K5:=hid (K4.out.trans rJ);have Rc:=hid BX;have qq:=K4.out.size;rw[fW] at qq;have Re:=hid qq;clear g0 g1 bP k5 rJ H4 K4 BX qq;obtain⟨g0,g1⟩:=H5.out.cells;have bP:=H5.out.az.lt;obtain⟨g',fB,he,-,l8,-,-,q0,q1,q2,qf⟩:=H5.out.bu.some_)
  |(
   cases mS;go_wp2_with fail
   refine(HB.out _).mono ?_;rintro e w3 ⟨rfl,k3⟩;have H3:=hid (H2.out.keeps k3 (by simp) (by simp));have K3:=hid (K2.out.trans k3);clear g0 g1 bP c0 c1 c2 k3 H2 K2;obtain⟨g0,g1⟩:=H3.out.cells;have bP:=H3.out.az.lt;obtain⟨g',fB,he,-,l8,-,-,q0,q1,q2,qf⟩:=H3.out.bu.some_)
  |obtain⟨g',fB,he,-,l8,-,-,q0,q1,q2,qf⟩:=H2.out.bu.some_)
 simp only[Value.slice.injEq,Option.some.injEq,Addr.mk.injEq,and_true,true_and] at he;obtain⟨rfl,rfl⟩:=he;first
 |(
  cases Nd;go_wp2_with fail
  refine(HB.out _).mono ?_;rintro e w3 ⟨rfl,k3⟩;have H3:=hid (H2.out.keeps k3 (by simp) (by simp));have K3:=hid (K2.out.trans k3);clear g0 g1 bP q0 q1 l8 k3 H2 K2;obtain⟨g0,g1⟩:=H3.out.cells;have bP:=H3.out.az.lt;obtain⟨g',fB,he,-,l8,-,-,q0,q1,qf⟩:=H3.out.bu.some_;simp only[Value.slice.injEq,Option.some.injEq,Addr.mk.injEq,and_true,true_and] at he;obtain⟨rfl,rfl⟩:=he;have Ke:=qf (r.length*2+1))
 |(cases Q6;have Ke:=qf (r.length*2+1))
 |have Ke:=qf (r.length*3+2)
 clear qf;first
 |(cases mS;obtain⟨n4,fW⟩: ∃n4,w3.heap.size=n4:=⟨_,rfl⟩)
 |(cases FF;obtain⟨n4,fW⟩: ∃n4,w2.heap.size=n4:=⟨_,rfl⟩)
 |(cases Nd;have cY:b≠g:=fun e=>H3.out.bo (aa.2 (by rw[e];rfl));have lr:g≠b:=fun e=>cY e.symm;obtain⟨n4,fW⟩: ∃n4,w3.heap.size=n4:=⟨_,rfl⟩)
 |(
  cases MV;obtain⟨w6,jo⟩: ∃w6,w5.setCell ⟨g,r.length*3+2,none⟩ (.int .i64 (q+1))=w6:=⟨_,rfl⟩
  have H6:=H5.out.fC (q+1))
 |(have cY:b≠g:=fun e=>H2.out.bo (aa.2 (by rw[e];rfl));have lr:g≠b:=fun e=>cY e.symm;obtain⟨n4,fW⟩: ∃n4,w2.heap.size=n4:=⟨_,rfl⟩)
 have VX:g≠n4:=by omega
 first
 |(cases MV;have iK:=Rc.out.other (p:=⟨g,r.length*3+2,none⟩) (by simpa using fun e=>VX e.symm) (.int .i64 (q+1));have k6:I (b::ae (.slice (some ⟨g,0,none⟩) (r.length+1) cap)) w (w5.setCell ⟨g,r.length*3+2,none⟩ (.int .i64 (q+1))):=I.setCell (p:=⟨g,r.length*3+2,none⟩) (K5.out.mono nn) (inl (List.mem_cons_of_mem _ (aa.2 rfl))) _;rw[jo] at H6 iK k6;have Rf:=hid jo;replace H6:=hid H6;replace iK:=hid iK;replace k6:=hid k6;clear jo)
 |have Nk:n4≠b:=by omega
 go_wp2_with fail
 first
 |(
  cases BD;have kk:=(I.refl [] (w3.setCell ⟨g,r.length*2+1,none⟩ (.int .i64 (q+1)))).alloc (.cells #[.bool false,.int .i64 x2] 215);have iK:=Has.aC (w3.setCell ⟨g,r.length*2+1,none⟩ (.int .i64 (q+1))) #[.bool false,.int .i64 x2] 215 (n:=n4) (by rw[←fW];simp[World.setCell]);have H6:=(H3.out.fC (q+1)).keeps kk (by simp) (by simp);have k6:=(I.setCell (F:=b::ae (.slice (some ⟨g,0,none⟩) (r.length+1) cap)) (p:=⟨g,r.length*2+1,none⟩) (K3.out.mono nn) (inl (List.mem_cons_of_mem _ (aa.2 rfl))) (.int .i64 (q+1))).trans (kk.mono nn);obtain⟨w6,jo⟩: ∃w6,(w3.setCell ⟨g,r.length*2+1,none⟩ (.int .i64 (q+1))).alloc (.cells #[.bool false,.int .i64 x2] 215)=w6:=⟨_,rfl⟩
  rw[jo] at H6 k6 iK;replace H6:=hid H6;replace k6:=hid k6;replace iK:=hid iK;have Rf:=hid jo;clear jo kk g0 g1 bP q0 q1 Ke l8 fW H3 K3)
 |(
  cases zh;have kk:=(I.refl [] (w3.setCell ⟨g,r.length*2+1,none⟩ (.int .i64 (q+1)))).alloc (.cells #[.bool true,.int .i64 x2] 215);have iK:=Has.aC (w3.setCell ⟨g,r.length*2+1,none⟩ (.int .i64 (q+1))) #[.bool true,.int .i64 x2] 215 (n:=n4) (by rw[←fW];simp[World.setCell]);have H6:=(H3.out.fC (q+1)).keeps kk (by simp) (by simp);have k6:=(I.setCell (F:=b::ae (.slice (some ⟨g,0,none⟩) (r.length+1) cap)) (p:=⟨g,r.length*2+1,none⟩) (K3.out.mono nn) (inl (List.mem_cons_of_mem _ (aa.2 rfl))) (.int .i64 (q+1))).trans (kk.mono nn);obtain⟨w6,jo⟩: ∃w6,(w3.setCell ⟨g,r.length*2+1,none⟩ (.int .i64 (q+1))).alloc (.cells #[.bool true,.int .i64 x2] 215)=w6:=⟨_,rfl⟩
  rw[jo] at H6 k6 iK;replace H6:=hid H6;replace k6:=hid k6;replace iK:=hid iK;have Rf:=hid jo;clear jo kk g0 g1 bP q0 q1 Ke l8 fW H3 K3)
 |(
  cases l6;have kk:=(I.refl [] (w2.setCell ⟨g,r.length*2+1,none⟩ (.int .i64 (q+1)))).alloc (.cells #[.bool false,.int .i64 x2] 215);have iK:=Has.aC (w2.setCell ⟨g,r.length*2+1,none⟩ (.int .i64 (q+1))) #[.bool false,.int .i64 x2] 215 (n:=n4) (by rw[←fW];simp[World.setCell]);have H6:=(H2.out.fC (q+1)).keeps kk (by simp) (by simp);have k6:=(I.setCell (F:=b::ae (.slice (some ⟨g,0,none⟩) (r.length+1) cap)) (p:=⟨g,r.length*2+1,none⟩) (K2.out.mono nn) (inl (List.mem_cons_of_mem _ (aa.2 rfl))) (.int .i64 (q+1))).trans (kk.mono nn);obtain⟨w6,jo⟩: ∃w6,(w2.setCell ⟨g,r.length*2+1,none⟩ (.int .i64 (q+1))).alloc (.cells #[.bool false,.int .i64 x2] 215)=w6:=⟨_,rfl⟩
  rw[jo] at H6 k6 iK;replace H6:=hid H6;replace k6:=hid k6;replace iK:=hid iK;have Rf:=hid jo;clear jo kk g0 g1 bP q0 q1 Ke l8 fW H2 K2)
 |(
  cases mu;have kk:=(I.refl [] (w2.setCell ⟨g,r.length*2+1,none⟩ (.int .i64 (q+1)))).alloc (.cells #[.bool true,.int .i64 x2] 215);have iK:=Has.aC (w2.setCell ⟨g,r.length*2+1,none⟩ (.int .i64 (q+1))) #[.bool true,.int .i64 x2] 215 (n:=n4) (by rw[←fW];simp[World.setCell]);have H6:=(H2.out.fC (q+1)).keeps kk (by simp) (by simp);have k6:=(I.setCell (F:=b::ae (.slice (some ⟨g,0,none⟩) (r.length+1) cap)) (p:=⟨g,r.length*2+1,none⟩) (K2.out.mono nn) (inl (List.mem_cons_of_mem _ (aa.2 rfl))) (.int .i64 (q+1))).trans (kk.mono nn);obtain⟨w6,jo⟩: ∃w6,(w2.setCell ⟨g,r.length*2+1,none⟩ (.int .i64 (q+1))).alloc (.cells #[.bool true,.int .i64 x2] 215)=w6:=⟨_,rfl⟩
  rw[jo] at H6 k6 iK;replace H6:=hid H6;replace k6:=hid k6;replace iK:=hid iK;have Rf:=hid jo;clear jo kk g0 g1 bP q0 q1 Ke l8 fW H2 K2)
 |(
  cases lv;have kk:=(I.refl [] (w2.setCell ⟨g,r.length*2+1,none⟩ (.int .i64 1))).alloc (.cells #[.bool false,.int .i64 x2] 215);have iK:=Has.aC (w2.setCell ⟨g,r.length*2+1,none⟩ (.int .i64 1)) #[.bool false,.int .i64 x2] 215 (n:=n4) (by rw[←fW];simp[World.setCell]);have H6:=(H2.out.fC 1).keeps kk (by simp) (by simp);have k6:=(I.setCell (F:=b::ae (.slice (some ⟨g,0,none⟩) (r.length+1) cap)) (p:=⟨g,r.length*2+1,none⟩) (K2.out.mono nn) (inl (List.mem_cons_of_mem _ (aa.2 rfl))) (.int .i64 1)).trans (kk.mono nn);obtain⟨w6,jo⟩: ∃w6,(w2.setCell ⟨g,r.length*2+1,none⟩ (.int .i64 1)).alloc (.cells #[.bool false,.int .i64 x2] 215)=w6:=⟨_,rfl⟩
  rw[jo] at H6 k6 iK;replace H6:=hid H6;replace k6:=hid k6;replace iK:=hid iK;have Rf:=hid jo;clear jo kk g0 g1 bP q0 q1 Ke l8 fW H2 K2)
 |(
  cases qn;have kk:=(I.refl [] (w2.setCell ⟨g,r.length*2+1,none⟩ (.int .i64 1))).alloc (.cells #[.bool true,.int .i64 x2] 215);have iK:=Has.aC (w2.setCell ⟨g,r.length*2+1,none⟩ (.int .i64 1)) #[.bool true,.int .i64 x2] 215 (n:=n4) (by rw[←fW];simp[World.setCell]);have H6:=(H2.out.fC 1).keeps kk (by simp) (by simp);have k6:=(I.setCell (F:=b::ae (.slice (some ⟨g,0,none⟩) (r.length+1) cap)) (p:=⟨g,r.length*2+1,none⟩) (K2.out.mono nn) (inl (List.mem_cons_of_mem _ (aa.2 rfl))) (.int .i64 1)).trans (kk.mono nn);obtain⟨w6,jo⟩: ∃w6,(w2.setCell ⟨g,r.length*2+1,none⟩ (.int .i64 1)).alloc (.cells #[.bool true,.int .i64 x2] 215)=w6:=⟨_,rfl⟩
  rw[jo] at H6 k6 iK;replace H6:=hid H6;replace k6:=hid k6;replace iK:=hid iK;have Rf:=hid jo;clear jo kk g0 g1 bP q0 q1 Ke l8 fW H2 K2)
 |(
  cases R1;first
  |(cases eW;have kk:=(I.refl [] (w2.setCell ⟨g,r.length*3+2,none⟩ (.int .i64 (q+1)))).alloc (.cells #[.bool false,.int .i64 x2] 215);have iK:=Has.aC (w2.setCell ⟨g,r.length*3+2,none⟩ (.int .i64 (q+1))) #[.bool false,.int .i64 x2] 215 (n:=n4) (by rw[←fW];simp[World.setCell]);have H6:=(H2.out.fC (q+1)).keeps kk (by simp) (by simp);have k6:=(I.setCell (F:=b::ae (.slice (some ⟨g,0,none⟩) (r.length+1) cap)) (p:=⟨g,r.length*3+2,none⟩) (K2.out.mono nn) (inl (List.mem_cons_of_mem _ (aa.2 rfl))) (.int .i64 (q+1))).trans (kk.mono nn);obtain⟨w6,jo⟩: ∃w6,(w2.setCell ⟨g,r.length*3+2,none⟩ (.int .i64 (q+1))).alloc (.cells #[.bool false,.int .i64 x2] 215)=w6:=⟨_,rfl⟩)
  |(cases iH;have kk:=(I.refl [] (w2.setCell ⟨g,r.length*3+2,none⟩ (.int .i64 (q+1)))).alloc (.cells #[.bool true,.int .i64 x2] 215);have iK:=Has.aC (w2.setCell ⟨g,r.length*3+2,none⟩ (.int .i64 (q+1))) #[.bool true,.int .i64 x2] 215 (n:=n4) (by rw[←fW];simp[World.setCell]);have H6:=(H2.out.fC (q+1)).keeps kk (by simp) (by simp);have k6:=(I.setCell (F:=b::ae (.slice (some ⟨g,0,none⟩) (r.length+1) cap)) (p:=⟨g,r.length*3+2,none⟩) (K2.out.mono nn) (inl (List.mem_cons_of_mem _ (aa.2 rfl))) (.int .i64 (q+1))).trans (kk.mono nn);obtain⟨w6,jo⟩: ∃w6,(w2.setCell ⟨g,r.length*3+2,none⟩ (.int .i64 (q+1))).alloc (.cells #[.bool true,.int .i64 x2] 215)=w6:=⟨_,rfl⟩)
  |(
   first
   |(cases bl;have kk:=(I.refl [] (w3.setCell ⟨g,r.length*3+2,none⟩ (.int .i64 (q+1)))).alloc (.cells #[.bool false,.int .i64 x2] 215))
   |have kk:=(I.refl [] (w3.setCell ⟨g,r.length*3+2,none⟩ (.int .i64 (q+1)))).alloc (.cells #[.bool true,.int .i64 x2] 215)
   first
   |(cases bl;have iK:=Has.aC (w3.setCell ⟨g,r.length*3+2,none⟩ (.int .i64 (q+1))) #[.bool false,.int .i64 x2] 215 (n:=n4) (by rw[←fW];simp[World.setCell]))
   |have iK:=Has.aC (w3.setCell ⟨g,r.length*3+2,none⟩ (.int .i64 (q+1))) #[.bool true,.int .i64 x2] 215 (n:=n4) (by rw[←fW];simp[World.setCell])
   have H6:=(H3.out.fC (q+1)).keeps kk (by simp) (by simp);have k6:=(I.setCell (F:=b::ae (.slice (some ⟨g,0,none⟩) (r.length+1) cap)) (p:=⟨g,r.length*3+2,none⟩) (K3.out.mono nn) (inl (List.mem_cons_of_mem _ (aa.2 rfl))) (.int .i64 (q+1))).trans (kk.mono nn);first
   |(cases bl;obtain⟨w6,jo⟩: ∃w6,(w3.setCell ⟨g,r.length*3+2,none⟩ (.int .i64 (q+1))).alloc (.cells #[.bool false,.int .i64 x2] 215)=w6:=⟨_,rfl⟩)
   |obtain⟨w6,jo⟩: ∃w6,(w3.setCell ⟨g,r.length*3+2,none⟩ (.int .i64 (q+1))).alloc (.cells #[.bool true,.int .i64 x2] 215)=w6:=⟨_,rfl⟩)
  rw[jo] at H6 k6 iK;replace H6:=hid H6;replace k6:=hid k6;replace iK:=hid iK;have Rf:=hid jo;first
  |(cases mS;clear jo kk g0 g1 bP q0 q1 q2 Ke l8 fW H3 K3)
  |clear jo kk g0 g1 bP q0 q1 q2 Ke l8 fW H2 K2 c0 c1 c2)
 |skip
 rw[Rf.out];first
 |(cases MV;clear g0 g1 bP q0 q1 q2 Ke l8)
 |skip
 obtain⟨g0,g1⟩:=H6.out.cells;have gf:=H6.out.az.free 0;have bP:=H6.out.az.lt;have Rg:=iK.out.lt;have jx:base≤w6.heap.size:=Nat.le_trans tL.out k6.out.size;first
 |(cases MV;have Nk:n4≠b:=by omega)
 |skip
 have iy:n4∉b::ae (.slice (some ⟨g,0,none⟩) (r.length+1) cap):=by
  rw[List.mem_cons,aa];rintro(h|h)
  ·exact Nk h
  ·exact VX (by simpa[Value.ownBlock] using h)
 first
 |(cases Ka;have HE:=hid (fun(w':World) (k:I (b::ae (.slice (some ⟨g,0,none⟩) (r.length+1) cap)) w6 w')=>show w'.cell? ⟨n4,0,none⟩=some (.bool false) from k.cell (iK.out.cell 0) iy))
 |(cases Kb;have HE:=hid (fun(w':World) (k:I (b::ae (.slice (some ⟨g,0,none⟩) (r.length+1) cap)) w6 w')=>show w'.cell? ⟨n4,0,none⟩=some (.bool true) from k.cell (iK.out.cell 0) iy))
 |((first|cases bl|cases eW|cases jn|cases zf);have HE:=hid (fun(w':World) (k:I (b::ae (.slice (some ⟨g,0,none⟩) (r.length+1) cap)) w6 w')=>show w'.cell? ⟨n4,0,none⟩=some (.bool false)∧w'.cell? ⟨n4,1,none⟩=some (.int .i64 x2) from⟨k.cell (iK.out.cell 0) iy,k.cell (iK.out.cell 1) iy⟩))
 |have HE:=hid (fun(w':World) (k:I (b::ae (.slice (some ⟨g,0,none⟩) (r.length+1) cap)) w6 w')=>show w'.cell? ⟨n4,0,none⟩=some (.bool true)∧w'.cell? ⟨n4,1,none⟩=some (.int .i64 x2) from⟨k.cell (iK.out.cell 0) iy,k.cell (iK.out.cell 1) iy⟩)
 refine rg (fun w'=>I (b::ae (.slice (some ⟨g,0,none⟩) (r.length+1) cap)) w6 w') ((I.refl _ _).drew) fun HH=> ?_;refine tk 0 HH.out ?_;try simp only[gz]
 refine tk 1 HH.out ?_;try simp only[gz]
 refine tk 2 HH.out ?_;try simp only[gz]
 refine tk 3 HH.out ?_;try simp only[gz]
 refine tk 5 HH.out ?_;try simp only[gz]
 refine tf 6 HE.out HH.out ?_;try simp only[gz]
 refine tk 7 HH.out ?_;try simp only[gz]
 first
 |(cases zg;refine Ni 4 8 (fun K hK=> ?_) fun K hK=> ?_)
 |(
  refine tf 8 HE.out HH.out ?_;try simp only[gz]
  refine tk 9 HH.out ?_;try simp only[gz]
  refine Ni 4 10 (fun K hK=> ?_) fun K hK=> ?_)
 ·go_simp;refine hK.out _ _ HH.out fun HH=> ?_;clear hK K;first
  |(cases zg;refine rd 8 fun K hK=> ?_)
  |refine rd 10 fun K hK=> ?_
  go_simp;refine hK.out _ _ (HH.out.alloc _) fun HH=> ?_;clear hK K;first
  |(cases Ka;refine rd 9 fun K hK=> ?_;have ka:I [] w6 (w6.drew.alloc (.cells #[.bool false,.int .i64 0] 274)):=(I.refl [] w6).drew.alloc _)
  |(cases Kb;refine rd 9 fun K hK=> ?_;have ka:I [] w6 (w6.drew.alloc (.cells #[.bool true,.int .i64 0] 274)):=(I.refl [] w6).drew.alloc _)
  |(
   refine rd 11 fun K hK=> ?_;first
   |(cases FE;have ka:I [] w6 (w6.drew.alloc (.cells #[.bool false,.int .i64 x2,.int .i64 0] 299)):=(I.refl [] w6).drew.alloc _)
   |((first|cases lD|cases iH);have ka:I [] w6 (w6.drew.alloc (.cells #[.bool true,.int .i64 x2,.int .i64 0] 299)):=(I.refl [] w6).drew.alloc _)
   |(cases Nb;have ka:I [] w6 (w6.drew.alloc (.cells #[.bool false,.int .i64 x2,.int .i64 0] 301)):=(I.refl [] w6).drew.alloc _)
   |have ka:I [] w6 (w6.drew.alloc (.cells #[.bool true,.int .i64 x2,.int .i64 0] 301)):=(I.refl [] w6).drew.alloc _)
  have HA:=H6.out.keeps ka (by simp) (by simp);first
  |(cases bl;refine eL _ _ rfl base (.slice (some ⟨g,0,none⟩) (r.length+1) cap) (⟨true,n,q+1⟩::r) rfl HA.bu ⟨w6.heap.size,0,none⟩ 1 1 [⟨false,x2,0⟩] rfl rfl (aA [.bool false,.int .i64 x2,.int .i64 0] (by simp)) (by first|(simp;done)|(simp;omega)) (Nat.le_trans jx ka.size) ?_)
  |(cases lD;refine eL _ _ rfl base (.slice (some ⟨g,0,none⟩) (r.length+1) cap) (⟨true,n,q+1⟩::r) rfl HA.bu ⟨w6.heap.size,0,none⟩ 1 1 [⟨true,x2,0⟩] rfl rfl (aA [.bool true,.int .i64 x2,.int .i64 0] (by simp)) (by first|(simp;done)|(simp;omega)) (Nat.le_trans jx ka.size) ?_)
  |(cases eW;refine eL _ _ rfl base (.slice (some ⟨g,0,none⟩) (r.length+1) cap) (⟨false,n,q+1⟩::r) rfl HA.bu ⟨w6.heap.size,0,none⟩ 1 1 [⟨false,x2,0⟩] rfl rfl (aA [.bool false,.int .i64 x2,.int .i64 0] (by simp)) (by first|(simp;done)|(simp;omega)) (Nat.le_trans jx ka.size) ?_)
  |(cases iH;refine eL _ _ rfl base (.slice (some ⟨g,0,none⟩) (r.length+1) cap) (⟨false,n,q+1⟩::r) rfl HA.bu ⟨w6.heap.size,0,none⟩ 1 1 [⟨true,x2,0⟩] rfl rfl (aA [.bool true,.int .i64 x2,.int .i64 0] (by simp)) (by first|(simp;done)|(simp;omega)) (Nat.le_trans jx ka.size) ?_)
  |(cases jn;refine eM _ _ rfl base (.slice (some ⟨g,0,none⟩) (r.length+1) cap) (⟨true,n,q+1⟩::r) rfl HA.bu ⟨w6.heap.size,0,none⟩ 1 1 [⟨false,x2,0⟩] rfl rfl (aA [.bool false,.int .i64 x2,.int .i64 0] (by simp)) (by first|(simp;done)|(simp;omega)) (Nat.le_trans jx ka.size) ?_)
  |(cases l5;refine eM _ _ rfl base (.slice (some ⟨g,0,none⟩) (r.length+1) cap) (⟨true,n,q+1⟩::r) rfl HA.bu ⟨w6.heap.size,0,none⟩ 1 1 [⟨true,x2,0⟩] rfl rfl (aA [.bool true,.int .i64 x2,.int .i64 0] (by simp)) (by first|(simp;done)|(simp;omega)) (Nat.le_trans jx ka.size) ?_)
  |(cases zf;refine eM _ _ rfl base (.slice (some ⟨g,0,none⟩) (r.length+1) cap) (⟨false,n,q+1⟩::r) rfl HA.bu ⟨w6.heap.size,0,none⟩ 1 1 [⟨false,x2,0⟩] rfl rfl (aA [.bool false,.int .i64 x2,.int .i64 0] (by simp)) (by first|(simp;done)|(simp;omega)) (Nat.le_trans jx ka.size) ?_)
  |(cases MW;refine eM _ _ rfl base (.slice (some ⟨g,0,none⟩) (r.length+1) cap) (⟨false,n,q+1⟩::r) rfl HA.bu ⟨w6.heap.size,0,none⟩ 1 1 [⟨true,x2,0⟩] rfl rfl (aA [.bool true,.int .i64 x2,.int .i64 0] (by simp)) (by first|(simp;done)|(simp;omega)) (Nat.le_trans jx ka.size) ?_)
  |(cases BD;refine dC _ _ rfl base (.slice (some ⟨g,0,none⟩) (r.length+1) cap) (⟨true,n,q+1⟩::r) rfl HA.bu ⟨w6.heap.size,0,none⟩ 1 1 [⟨false,x2,0⟩] rfl rfl (aA [.bool false,.int .i64 0] (by simp)) (by first|(simp;done)|(simp;omega)) (Nat.le_trans jx ka.size) ?_)
  |(cases zh;refine dC _ _ rfl base (.slice (some ⟨g,0,none⟩) (r.length+1) cap) (⟨true,n,q+1⟩::r) rfl HA.bu ⟨w6.heap.size,0,none⟩ 1 1 [⟨true,x2,0⟩] rfl rfl (aA [.bool true,.int .i64 0] (by simp)) (by first|(simp;done)|(simp;omega)) (Nat.le_trans jx ka.size) ?_)
  |(cases l6;refine dC _ _ rfl base (.slice (some ⟨g,0,none⟩) (r.length+1) cap) (⟨false,n,q+1⟩::r) rfl HA.bu ⟨w6.heap.size,0,none⟩ 1 1 [⟨false,x2,0⟩] rfl rfl (aA [.bool false,.int .i64 0] (by simp)) (by first|(simp;done)|(simp;omega)) (Nat.le_trans jx ka.size) ?_)
  |(cases mu;refine dC _ _ rfl base (.slice (some ⟨g,0,none⟩) (r.length+1) cap) (⟨false,n,q+1⟩::r) rfl HA.bu ⟨w6.heap.size,0,none⟩ 1 1 [⟨true,x2,0⟩] rfl rfl (aA [.bool true,.int .i64 0] (by simp)) (by first|(simp;done)|(simp;omega)) (Nat.le_trans jx ka.size) ?_)
  |(cases lv;refine dC _ _ rfl base (.slice (some ⟨g,0,none⟩) (r.length+1) cap) (⟨false,n,1⟩::r) rfl HA.bu ⟨w6.heap.size,0,none⟩ 1 1 [⟨false,x2,0⟩] rfl rfl (aA [.bool false,.int .i64 0] (by simp)) (by first|(simp;done)|(simp;omega)) (Nat.le_trans jx ka.size) ?_)
  |refine dC _ _ rfl base (.slice (some ⟨g,0,none⟩) (r.length+1) cap) (⟨false,n,1⟩::r) rfl HA.bu ⟨w6.heap.size,0,none⟩ 1 1 [⟨true,x2,0⟩] rfl rfl (aA [.bool true,.int .i64 0] (by simp)) (by first|(simp;done)|(simp;omega)) (Nat.le_trans jx ka.size) ?_
  intro v7 w7 aB zn Fu;first
  |(cases bl;replace aB:ai w7 base 299 v7 (⟨false,x2,0⟩::⟨true,n,q+1⟩::r):=aB)
  |(cases lD;replace aB:ai w7 base 299 v7 (⟨true,x2,0⟩::⟨true,n,q+1⟩::r):=aB)
  |(cases eW;replace aB:ai w7 base 299 v7 (⟨false,x2,0⟩::⟨false,n,q+1⟩::r):=aB)
  |(cases iH;replace aB:ai w7 base 299 v7 (⟨true,x2,0⟩::⟨false,n,q+1⟩::r):=aB)
  |(cases jn;replace aB:ai w7 base 301 v7 (⟨false,x2,0⟩::⟨true,n,q+1⟩::r):=aB)
  |(cases l5;replace aB:ai w7 base 301 v7 (⟨true,x2,0⟩::⟨true,n,q+1⟩::r):=aB)
  |(cases zf;replace aB:ai w7 base 301 v7 (⟨false,x2,0⟩::⟨false,n,q+1⟩::r):=aB)
  |(cases MW;replace aB:ai w7 base 301 v7 (⟨true,x2,0⟩::⟨false,n,q+1⟩::r):=aB)
  |(cases BD;replace aB:bE w7 base v7 (⟨false,x2,0⟩::⟨true,n,q+1⟩::r):=aB)
  |(cases zh;replace aB:bE w7 base v7 (⟨true,x2,0⟩::⟨true,n,q+1⟩::r):=aB)
  |(cases l6;replace aB:bE w7 base v7 (⟨false,x2,0⟩::⟨false,n,q+1⟩::r):=aB)
  |(cases mu;replace aB:bE w7 base v7 (⟨true,x2,0⟩::⟨false,n,q+1⟩::r):=aB)
  |(cases lv;replace aB:bE w7 base v7 (⟨false,x2,0⟩::⟨false,n,1⟩::r):=aB)
  |replace aB:bE w7 base v7 (⟨true,x2,0⟩::⟨false,n,1⟩::r):=aB
  have zo:I (ae (.slice (some ⟨g,0,none⟩) (r.length+1) cap)) w6 w7:=(ka.mono (by simp)).trans zn;have zp: ∀i∈ae v7,i∈ae (.slice (some ⟨g,0,none⟩) (r.length+1) cap)∨w6.heap.size≤i:=by
   intro i hi;rw[aa] at hi;rcases Fu with h|h
   ·exact inl (aa.2 (h▸hi))
   ·rw[h] at hi;have UG:=ka.size;exact inr (Nat.le_trans UG (Nat.le_of_eq (Option.some.inj hi)))
  have bX:b∉ae v7:=fun hm=>by
   rcases zp b hm with h|h
   ·exact H6.out.bo h
   ·omega
  have bW:=H6.out.az.keeps zo H6.out.bo;have p0:=bW.cell 0;have pf:=bW.free 0;have Sb:=bW.lt;simp only[List.getElem?_cons_zero] at p0;first
  |(cases bl;have cU:eR (w7.setCell ⟨b,0,none⟩ v7) base b v7 ⟨⟨false,x2,0⟩::⟨true,n,q+1⟩::r,false⟩:=⟨(bW.set 0 v7).conv rfl,ab aB ((I.refl [b] _).ax _) (fun i hi hm=>bX (by rw[List.mem_singleton] at hm;rw[←hm];exact aa.2 hi)),bX⟩)
  |(cases lD;have cU:eR (w7.setCell ⟨b,0,none⟩ v7) base b v7 ⟨⟨true,x2,0⟩::⟨true,n,q+1⟩::r,false⟩:=⟨(bW.set 0 v7).conv rfl,ab aB ((I.refl [b] _).ax _) (fun i hi hm=>bX (by rw[List.mem_singleton] at hm;rw[←hm];exact aa.2 hi)),bX⟩)
  |(cases eW;have cU:eR (w7.setCell ⟨b,0,none⟩ v7) base b v7 ⟨⟨false,x2,0⟩::⟨false,n,q+1⟩::r,false⟩:=⟨(bW.set 0 v7).conv rfl,ab aB ((I.refl [b] _).ax _) (fun i hi hm=>bX (by rw[List.mem_singleton] at hm;rw[←hm];exact aa.2 hi)),bX⟩)
  |(cases iH;have cU:eR (w7.setCell ⟨b,0,none⟩ v7) base b v7 ⟨⟨true,x2,0⟩::⟨false,n,q+1⟩::r,false⟩:=⟨(bW.set 0 v7).conv rfl,ab aB ((I.refl [b] _).ax _) (fun i hi hm=>bX (by rw[List.mem_singleton] at hm;rw[←hm];exact aa.2 hi)),bX⟩)
  |(cases jn;have cU:ff (w7.setCell ⟨b,0,none⟩ v7) base b v7 ⟨⟨false,x2,0⟩::⟨true,n,q+1⟩::r,false⟩:=⟨(bW.set 0 v7).conv rfl,ab aB ((I.refl [b] _).ax _) (fun i hi hm=>bX (by rw[List.mem_singleton] at hm;rw[←hm];exact aa.2 hi)),bX⟩)
  |(cases l5;have cU:ff (w7.setCell ⟨b,0,none⟩ v7) base b v7 ⟨⟨true,x2,0⟩::⟨true,n,q+1⟩::r,false⟩:=⟨(bW.set 0 v7).conv rfl,ab aB ((I.refl [b] _).ax _) (fun i hi hm=>bX (by rw[List.mem_singleton] at hm;rw[←hm];exact aa.2 hi)),bX⟩)
  |(cases zf;have cU:ff (w7.setCell ⟨b,0,none⟩ v7) base b v7 ⟨⟨false,x2,0⟩::⟨false,n,q+1⟩::r,false⟩:=⟨(bW.set 0 v7).conv rfl,ab aB ((I.refl [b] _).ax _) (fun i hi hm=>bX (by rw[List.mem_singleton] at hm;rw[←hm];exact aa.2 hi)),bX⟩)
  |(cases MW;have cU:ff (w7.setCell ⟨b,0,none⟩ v7) base b v7 ⟨⟨true,x2,0⟩::⟨false,n,q+1⟩::r,false⟩:=⟨(bW.set 0 v7).conv rfl,ab aB ((I.refl [b] _).ax _) (fun i hi hm=>bX (by rw[List.mem_singleton] at hm;rw[←hm];exact aa.2 hi)),bX⟩)
  |(cases BD;have cU:cV (w7.setCell ⟨b,0,none⟩ v7) base b v7 ⟨⟨false,x2,0⟩::⟨true,n,q+1⟩::r,false⟩:=⟨(bW.set 0 v7).conv rfl,ab aB ((I.refl [b] _).ax _) (fun i hi hm=>bX (by rw[List.mem_singleton] at hm;rw[←hm];exact aa.2 hi)),bX⟩)
  |(cases zh;have cU:cV (w7.setCell ⟨b,0,none⟩ v7) base b v7 ⟨⟨true,x2,0⟩::⟨true,n,q+1⟩::r,false⟩:=⟨(bW.set 0 v7).conv rfl,ab aB ((I.refl [b] _).ax _) (fun i hi hm=>bX (by rw[List.mem_singleton] at hm;rw[←hm];exact aa.2 hi)),bX⟩)
  |(cases l6;have cU:cV (w7.setCell ⟨b,0,none⟩ v7) base b v7 ⟨⟨false,x2,0⟩::⟨false,n,q+1⟩::r,false⟩:=⟨(bW.set 0 v7).conv rfl,ab aB ((I.refl [b] _).ax _) (fun i hi hm=>bX (by rw[List.mem_singleton] at hm;rw[←hm];exact aa.2 hi)),bX⟩)
  |(cases mu;have cU:cV (w7.setCell ⟨b,0,none⟩ v7) base b v7 ⟨⟨true,x2,0⟩::⟨false,n,q+1⟩::r,false⟩:=⟨(bW.set 0 v7).conv rfl,ab aB ((I.refl [b] _).ax _) (fun i hi hm=>bX (by rw[List.mem_singleton] at hm;rw[←hm];exact aa.2 hi)),bX⟩)
  |(cases lv;have cU:cV (w7.setCell ⟨b,0,none⟩ v7) base b v7 ⟨⟨false,x2,0⟩::⟨false,n,1⟩::r,false⟩:=⟨(bW.set 0 v7).conv rfl,ab aB ((I.refl [b] _).ax _) (fun i hi hm=>bX (by rw[List.mem_singleton] at hm;rw[←hm];exact aa.2 hi)),bX⟩)
  |have cU:cV (w7.setCell ⟨b,0,none⟩ v7) base b v7 ⟨⟨true,x2,0⟩::⟨false,n,1⟩::r,false⟩:=⟨(bW.set 0 v7).conv rfl,ab aB ((I.refl [b] _).ax _) (fun i hi hm=>bX (by rw[List.mem_singleton] at hm;rw[←hm];exact aa.2 hi)),bX⟩
  have jT:I (b::ae (.slice (some ⟨g,0,none⟩) (r.length+1) cap)) w6 (w7.setCell ⟨b,0,none⟩ v7):=I.setCell (p:=⟨b,0,none⟩) (zo.mono mc) (inl ms) _;first
  |(cases zg;obtain⟨g7,c7,rfl,-,-,-,-,-,-,-⟩:=aB.some_)
  |obtain⟨g7,c7,rfl,-,-,-,-,-,-,-,-⟩:=aB.some_
  refine hK.out _ _ (zo.mono mc) (fun cB=> ?_);replace cU:=hid cU;replace jT:=hid jT;replace zp:=hid zp;clear Fu bX bW aB zn zo ka HA;clear hK K HH;have HH:=hid cB;clear cB;first
  |(cases zg;refine tk 10 HH.out ?_)
  |refine tk 12 HH.out ?_
  try simp only[gz]
  first
  |(cases zg;refine tk 11 HH.out ?_)
  |refine tk 13 HH.out ?_
  try simp only[gz]
  first
  |(cases zg;refine rd 12 fun K hK=> ?_)
  |refine rd 14 fun K hK=> ?_
  go_simp;clear HH;refine hK.out _ _ jT.out fun HH=> ?_;clear hK K;refine wpAnyH_done (by kernel_rfl) ?_ _;first
  |(
   cases R1;obtain⟨w8,oT⟩: ∃w8,w7.setCell ⟨b,0,none⟩ (.slice (some ⟨g7,0,none⟩) (r.length+1+1) c7)=w8:=⟨_,rfl⟩
   try simp only[List.length_nil,List.length_cons,Nat.zero_add] at cU jT oT⊢
   rw[oT] at cU jT;have VY:=HE.out w8 jT.out;obtain⟨y0,y1⟩:=VY;have Nl:=Nat.lt_of_lt_of_le Rg jT.out.size;have Kc:=hid oT;clear oT p0 pf Sb HH;rw[Kc.out];go_wp2_with fail
   refine(mT.out _).mono ?_;rintro e w9 ⟨rfl,k9⟩;have H9:=hid (cU.out.keeps k9 (by simp) (by simp));have K9:=hid ((k6.out.trans jT.out).trans (k9.mono nn));clear k9 y0 y1)
  |(cases MV)
  |(
   obtain⟨w8,oT⟩: ∃w8,w7.setCell ⟨b,0,none⟩ (.slice (some ⟨g7,0,none⟩) (r.length+1+1) c7)=w8:=⟨_,rfl⟩
   try simp only[List.length_nil,List.length_cons,Nat.zero_add] at cU jT oT⊢
   rw[oT] at cU jT;have y0:=HE.out w8 jT.out;have Nl:=Nat.lt_of_lt_of_le Rg jT.out.size;have Kc:=hid oT;clear oT p0 pf Sb HH;rw[Kc.out];have K9:=hid (k6.out.trans jT.out))
  go_wp2_with fail
  go_ret2;first
  |(cases R1;refine⟨rfl,_,H9.out,K9.out,fun i hi=> ?_⟩)
  |(cases MV;refine⟨rfl,_,cU.out,k6.out.trans jT.out,fun i hi=> ?_⟩)
  |refine⟨by rw[←HT.out];rfl,_,cU.out,K9.out,fun i hi=> ?_⟩
  rcases zp.out i hi with h|h
  ·exact inl h
  ·exact inr (Nat.le_trans k6.out.size h)
 ·go_simp;refine hK.out _ _ (HH.out.alloc _) fun HH=> ?_;clear hK K;refine rd 4 fun K hK=> ?_;go_simp;refine hK.out _ _ HH.out fun HH=> ?_;clear hK K;first
  |(cases Ka;refine rd 9 fun K hK=> ?_;have ka:I [] w6 (w6.drew.alloc (.cells #[.bool false,.int .i64 0] 274)):=(I.refl [] w6).drew.alloc _)
  |(cases Kb;refine rd 9 fun K hK=> ?_;have ka:I [] w6 (w6.drew.alloc (.cells #[.bool true,.int .i64 0] 274)):=(I.refl [] w6).drew.alloc _)
  |(
   refine rd 11 fun K hK=> ?_;first
   |(cases FE;have ka:I [] w6 (w6.drew.alloc (.cells #[.bool false,.int .i64 x2,.int .i64 0] 299)):=(I.refl [] w6).drew.alloc _)
   |((first|cases lD|cases iH);have ka:I [] w6 (w6.drew.alloc (.cells #[.bool true,.int .i64 x2,.int .i64 0] 299)):=(I.refl [] w6).drew.alloc _)
   |(cases Nb;have ka:I [] w6 (w6.drew.alloc (.cells #[.bool false,.int .i64 x2,.int .i64 0] 301)):=(I.refl [] w6).drew.alloc _)
   |have ka:I [] w6 (w6.drew.alloc (.cells #[.bool true,.int .i64 x2,.int .i64 0] 301)):=(I.refl [] w6).drew.alloc _)
  have HA:=H6.out.keeps ka (by simp) (by simp);first
  |(cases bl;refine eL _ _ rfl base (.slice (some ⟨g,0,none⟩) (r.length+1) cap) (⟨true,n,q+1⟩::r) rfl HA.bu ⟨w6.heap.size,0,none⟩ 1 1 [⟨false,x2,0⟩] rfl rfl (aA [.bool false,.int .i64 x2,.int .i64 0] (by simp)) (by first|(simp;done)|(simp;omega)) (Nat.le_trans jx ka.size) ?_)
  |(cases lD;refine eL _ _ rfl base (.slice (some ⟨g,0,none⟩) (r.length+1) cap) (⟨true,n,q+1⟩::r) rfl HA.bu ⟨w6.heap.size,0,none⟩ 1 1 [⟨true,x2,0⟩] rfl rfl (aA [.bool true,.int .i64 x2,.int .i64 0] (by simp)) (by first|(simp;done)|(simp;omega)) (Nat.le_trans jx ka.size) ?_)
  |(cases eW;refine eL _ _ rfl base (.slice (some ⟨g,0,none⟩) (r.length+1) cap) (⟨false,n,q+1⟩::r) rfl HA.bu ⟨w6.heap.size,0,none⟩ 1 1 [⟨false,x2,0⟩] rfl rfl (aA [.bool false,.int .i64 x2,.int .i64 0] (by simp)) (by first|(simp;done)|(simp;omega)) (Nat.le_trans jx ka.size) ?_)
  |(cases iH;refine eL _ _ rfl base (.slice (some ⟨g,0,none⟩) (r.length+1) cap) (⟨false,n,q+1⟩::r) rfl HA.bu ⟨w6.heap.size,0,none⟩ 1 1 [⟨true,x2,0⟩] rfl rfl (aA [.bool true,.int .i64 x2,.int .i64 0] (by simp)) (by first|(simp;done)|(simp;omega)) (Nat.le_trans jx ka.size) ?_)
  |(cases jn;refine eM _ _ rfl base (.slice (some ⟨g,0,none⟩) (r.length+1) cap) (⟨true,n,q+1⟩::r) rfl HA.bu ⟨w6.heap.size,0,none⟩ 1 1 [⟨false,x2,0⟩] rfl rfl (aA [.bool false,.int .i64 x2,.int .i64 0] (by simp)) (by first|(simp;done)|(simp;omega)) (Nat.le_trans jx ka.size) ?_)
  |(cases l5;refine eM _ _ rfl base (.slice (some ⟨g,0,none⟩) (r.length+1) cap) (⟨true,n,q+1⟩::r) rfl HA.bu ⟨w6.heap.size,0,none⟩ 1 1 [⟨true,x2,0⟩] rfl rfl (aA [.bool true,.int .i64 x2,.int .i64 0] (by simp)) (by first|(simp;done)|(simp;omega)) (Nat.le_trans jx ka.size) ?_)
  |(cases zf;refine eM _ _ rfl base (.slice (some ⟨g,0,none⟩) (r.length+1) cap) (⟨false,n,q+1⟩::r) rfl HA.bu ⟨w6.heap.size,0,none⟩ 1 1 [⟨false,x2,0⟩] rfl rfl (aA [.bool false,.int .i64 x2,.int .i64 0] (by simp)) (by first|(simp;done)|(simp;omega)) (Nat.le_trans jx ka.size) ?_)
  |(cases MW;refine eM _ _ rfl base (.slice (some ⟨g,0,none⟩) (r.length+1) cap) (⟨false,n,q+1⟩::r) rfl HA.bu ⟨w6.heap.size,0,none⟩ 1 1 [⟨true,x2,0⟩] rfl rfl (aA [.bool true,.int .i64 x2,.int .i64 0] (by simp)) (by first|(simp;done)|(simp;omega)) (Nat.le_trans jx ka.size) ?_)
  |(cases BD;refine dC _ _ rfl base (.slice (some ⟨g,0,none⟩) (r.length+1) cap) (⟨true,n,q+1⟩::r) rfl HA.bu ⟨w6.heap.size,0,none⟩ 1 1 [⟨false,x2,0⟩] rfl rfl (aA [.bool false,.int .i64 0] (by simp)) (by first|(simp;done)|(simp;omega)) (Nat.le_trans jx ka.size) ?_)
  |(cases zh;refine dC _ _ rfl base (.slice (some ⟨g,0,none⟩) (r.length+1) cap) (⟨true,n,q+1⟩::r) rfl HA.bu ⟨w6.heap.size,0,none⟩ 1 1 [⟨true,x2,0⟩] rfl rfl (aA [.bool true,.int .i64 0] (by simp)) (by first|(simp;done)|(simp;omega)) (Nat.le_trans jx ka.size) ?_)
  |(cases l6;refine dC _ _ rfl base (.slice (some ⟨g,0,none⟩) (r.length+1) cap) (⟨false,n,q+1⟩::r) rfl HA.bu ⟨w6.heap.size,0,none⟩ 1 1 [⟨false,x2,0⟩] rfl rfl (aA [.bool false,.int .i64 0] (by simp)) (by first|(simp;done)|(simp;omega)) (Nat.le_trans jx ka.size) ?_)
  |(cases mu;refine dC _ _ rfl base (.slice (some ⟨g,0,none⟩) (r.length+1) cap) (⟨false,n,q+1⟩::r) rfl HA.bu ⟨w6.heap.size,0,none⟩ 1 1 [⟨true,x2,0⟩] rfl rfl (aA [.bool true,.int .i64 0] (by simp)) (by first|(simp;done)|(simp;omega)) (Nat.le_trans jx ka.size) ?_)
  |(cases lv;refine dC _ _ rfl base (.slice (some ⟨g,0,none⟩) (r.length+1) cap) (⟨false,n,1⟩::r) rfl HA.bu ⟨w6.heap.size,0,none⟩ 1 1 [⟨false,x2,0⟩] rfl rfl (aA [.bool false,.int .i64 0] (by simp)) (by first|(simp;done)|(simp;omega)) (Nat.le_trans jx ka.size) ?_)
  |refine dC _ _ rfl base (.slice (some ⟨g,0,none⟩) (r.length+1) cap) (⟨false,n,1⟩::r) rfl HA.bu ⟨w6.heap.size,0,none⟩ 1 1 [⟨true,x2,0⟩] rfl rfl (aA [.bool true,.int .i64 0] (by simp)) (by first|(simp;done)|(simp;omega)) (Nat.le_trans jx ka.size) ?_
  intro v7 w7 aB zn Fu;first
  |(cases bl;replace aB:ai w7 base 299 v7 (⟨false,x2,0⟩::⟨true,n,q+1⟩::r):=aB)
  |(cases lD;replace aB:ai w7 base 299 v7 (⟨true,x2,0⟩::⟨true,n,q+1⟩::r):=aB)
  |(cases eW;replace aB:ai w7 base 299 v7 (⟨false,x2,0⟩::⟨false,n,q+1⟩::r):=aB)
  |(cases iH;replace aB:ai w7 base 299 v7 (⟨true,x2,0⟩::⟨false,n,q+1⟩::r):=aB)
  |(cases jn;replace aB:ai w7 base 301 v7 (⟨false,x2,0⟩::⟨true,n,q+1⟩::r):=aB)
  |(cases l5;replace aB:ai w7 base 301 v7 (⟨true,x2,0⟩::⟨true,n,q+1⟩::r):=aB)
  |(cases zf;replace aB:ai w7 base 301 v7 (⟨false,x2,0⟩::⟨false,n,q+1⟩::r):=aB)
  |(cases MW;replace aB:ai w7 base 301 v7 (⟨true,x2,0⟩::⟨false,n,q+1⟩::r):=aB)
  |(cases BD;replace aB:bE w7 base v7 (⟨false,x2,0⟩::⟨true,n,q+1⟩::r):=aB)
  |(cases zh;replace aB:bE w7 base v7 (⟨true,x2,0⟩::⟨true,n,q+1⟩::r):=aB)
  |(cases l6;replace aB:bE w7 base v7 (⟨false,x2,0⟩::⟨false,n,q+1⟩::r):=aB)
  |(cases mu;replace aB:bE w7 base v7 (⟨true,x2,0⟩::⟨false,n,q+1⟩::r):=aB)
  |(cases lv;replace aB:bE w7 base v7 (⟨false,x2,0⟩::⟨false,n,1⟩::r):=aB)
  |replace aB:bE w7 base v7 (⟨true,x2,0⟩::⟨false,n,1⟩::r):=aB
  have zo:I (ae (.slice (some ⟨g,0,none⟩) (r.length+1) cap)) w6 w7:=(ka.mono (by simp)).trans zn;have zp: ∀i∈ae v7,i∈ae (.slice (some ⟨g,0,none⟩) (r.length+1) cap)∨w6.heap.size≤i:=by
   intro i hi;rw[aa] at hi;rcases Fu with h|h
   ·exact inl (aa.2 (h▸hi))
   ·rw[h] at hi;have UG:=ka.size;exact inr (Nat.le_trans UG (Nat.le_of_eq (Option.some.inj hi)))
  have bX:b∉ae v7:=fun hm=>by
   rcases zp b hm with h|h
   ·exact H6.out.bo h
   ·omega
  have bW:=H6.out.az.keeps zo H6.out.bo;have p0:=bW.cell 0;have pf:=bW.free 0;have Sb:=bW.lt;simp only[List.getElem?_cons_zero] at p0;first
  |(cases bl;have cU:eR (w7.setCell ⟨b,0,none⟩ v7) base b v7 ⟨⟨false,x2,0⟩::⟨true,n,q+1⟩::r,false⟩:=⟨(bW.set 0 v7).conv rfl,ab aB ((I.refl [b] _).ax _) (fun i hi hm=>bX (by rw[List.mem_singleton] at hm;rw[←hm];exact aa.2 hi)),bX⟩)
  |(cases lD;have cU:eR (w7.setCell ⟨b,0,none⟩ v7) base b v7 ⟨⟨true,x2,0⟩::⟨true,n,q+1⟩::r,false⟩:=⟨(bW.set 0 v7).conv rfl,ab aB ((I.refl [b] _).ax _) (fun i hi hm=>bX (by rw[List.mem_singleton] at hm;rw[←hm];exact aa.2 hi)),bX⟩)
  |(cases eW;have cU:eR (w7.setCell ⟨b,0,none⟩ v7) base b v7 ⟨⟨false,x2,0⟩::⟨false,n,q+1⟩::r,false⟩:=⟨(bW.set 0 v7).conv rfl,ab aB ((I.refl [b] _).ax _) (fun i hi hm=>bX (by rw[List.mem_singleton] at hm;rw[←hm];exact aa.2 hi)),bX⟩)
  |(cases iH;have cU:eR (w7.setCell ⟨b,0,none⟩ v7) base b v7 ⟨⟨true,x2,0⟩::⟨false,n,q+1⟩::r,false⟩:=⟨(bW.set 0 v7).conv rfl,ab aB ((I.refl [b] _).ax _) (fun i hi hm=>bX (by rw[List.mem_singleton] at hm;rw[←hm];exact aa.2 hi)),bX⟩)
  |(cases jn;have cU:ff (w7.setCell ⟨b,0,none⟩ v7) base b v7 ⟨⟨false,x2,0⟩::⟨true,n,q+1⟩::r,false⟩:=⟨(bW.set 0 v7).conv rfl,ab aB ((I.refl [b] _).ax _) (fun i hi hm=>bX (by rw[List.mem_singleton] at hm;rw[←hm];exact aa.2 hi)),bX⟩)
  |(cases l5;have cU:ff (w7.setCell ⟨b,0,none⟩ v7) base b v7 ⟨⟨true,x2,0⟩::⟨true,n,q+1⟩::r,false⟩:=⟨(bW.set 0 v7).conv rfl,ab aB ((I.refl [b] _).ax _) (fun i hi hm=>bX (by rw[List.mem_singleton] at hm;rw[←hm];exact aa.2 hi)),bX⟩)
  |(cases zf;have cU:ff (w7.setCell ⟨b,0,none⟩ v7) base b v7 ⟨⟨false,x2,0⟩::⟨false,n,q+1⟩::r,false⟩:=⟨(bW.set 0 v7).conv rfl,ab aB ((I.refl [b] _).ax _) (fun i hi hm=>bX (by rw[List.mem_singleton] at hm;rw[←hm];exact aa.2 hi)),bX⟩)
  |(cases MW;have cU:ff (w7.setCell ⟨b,0,none⟩ v7) base b v7 ⟨⟨true,x2,0⟩::⟨false,n,q+1⟩::r,false⟩:=⟨(bW.set 0 v7).conv rfl,ab aB ((I.refl [b] _).ax _) (fun i hi hm=>bX (by rw[List.mem_singleton] at hm;rw[←hm];exact aa.2 hi)),bX⟩)
  |(cases BD;have cU:cV (w7.setCell ⟨b,0,none⟩ v7) base b v7 ⟨⟨false,x2,0⟩::⟨true,n,q+1⟩::r,false⟩:=⟨(bW.set 0 v7).conv rfl,ab aB ((I.refl [b] _).ax _) (fun i hi hm=>bX (by rw[List.mem_singleton] at hm;rw[←hm];exact aa.2 hi)),bX⟩)
  |(cases zh;have cU:cV (w7.setCell ⟨b,0,none⟩ v7) base b v7 ⟨⟨true,x2,0⟩::⟨true,n,q+1⟩::r,false⟩:=⟨(bW.set 0 v7).conv rfl,ab aB ((I.refl [b] _).ax _) (fun i hi hm=>bX (by rw[List.mem_singleton] at hm;rw[←hm];exact aa.2 hi)),bX⟩)
  |(cases l6;have cU:cV (w7.setCell ⟨b,0,none⟩ v7) base b v7 ⟨⟨false,x2,0⟩::⟨false,n,q+1⟩::r,false⟩:=⟨(bW.set 0 v7).conv rfl,ab aB ((I.refl [b] _).ax _) (fun i hi hm=>bX (by rw[List.mem_singleton] at hm;rw[←hm];exact aa.2 hi)),bX⟩)
  |(cases mu;have cU:cV (w7.setCell ⟨b,0,none⟩ v7) base b v7 ⟨⟨true,x2,0⟩::⟨false,n,q+1⟩::r,false⟩:=⟨(bW.set 0 v7).conv rfl,ab aB ((I.refl [b] _).ax _) (fun i hi hm=>bX (by rw[List.mem_singleton] at hm;rw[←hm];exact aa.2 hi)),bX⟩)
  |(cases lv;have cU:cV (w7.setCell ⟨b,0,none⟩ v7) base b v7 ⟨⟨false,x2,0⟩::⟨false,n,1⟩::r,false⟩:=⟨(bW.set 0 v7).conv rfl,ab aB ((I.refl [b] _).ax _) (fun i hi hm=>bX (by rw[List.mem_singleton] at hm;rw[←hm];exact aa.2 hi)),bX⟩)
  |have cU:cV (w7.setCell ⟨b,0,none⟩ v7) base b v7 ⟨⟨true,x2,0⟩::⟨false,n,1⟩::r,false⟩:=⟨(bW.set 0 v7).conv rfl,ab aB ((I.refl [b] _).ax _) (fun i hi hm=>bX (by rw[List.mem_singleton] at hm;rw[←hm];exact aa.2 hi)),bX⟩
  have jT:I (b::ae (.slice (some ⟨g,0,none⟩) (r.length+1) cap)) w6 (w7.setCell ⟨b,0,none⟩ v7):=I.setCell (p:=⟨b,0,none⟩) (zo.mono mc) (inl ms) _;first
  |(cases zg;obtain⟨g7,c7,rfl,-,-,-,-,-,-,-⟩:=aB.some_)
  |obtain⟨g7,c7,rfl,-,-,-,-,-,-,-,-⟩:=aB.some_
  refine hK.out _ _ (zo.mono mc) (fun cB=> ?_);replace cU:=hid cU;replace jT:=hid jT;replace zp:=hid zp;clear Fu bX bW aB zn zo ka HA;clear hK K HH;have HH:=hid cB;clear cB;first
  |(cases zg;refine tk 10 HH.out ?_)
  |refine tk 12 HH.out ?_
  try simp only[gz]
  first
  |(cases zg;refine tk 11 HH.out ?_)
  |refine tk 13 HH.out ?_
  try simp only[gz]
  first
  |(cases zg;refine rd 12 fun K hK=> ?_)
  |refine rd 14 fun K hK=> ?_
  go_simp;clear HH;refine hK.out _ _ jT.out fun HH=> ?_;clear hK K;refine wpAnyH_done (by kernel_rfl) ?_ _;first
  |(
   cases R1;obtain⟨w8,oT⟩: ∃w8,w7.setCell ⟨b,0,none⟩ (.slice (some ⟨g7,0,none⟩) (r.length+1+1) c7)=w8:=⟨_,rfl⟩
   try simp only[List.length_nil,List.length_cons,Nat.zero_add] at cU jT oT⊢
   rw[oT] at cU jT;have VY:=HE.out w8 jT.out;obtain⟨y0,y1⟩:=VY;have Nl:=Nat.lt_of_lt_of_le Rg jT.out.size;have Kc:=hid oT;clear oT p0 pf Sb HH;rw[Kc.out];go_wp2_with fail
   refine(mT.out _).mono ?_;rintro e w9 ⟨rfl,k9⟩;have H9:=hid (cU.out.keeps k9 (by simp) (by simp));have K9:=hid ((k6.out.trans jT.out).trans (k9.mono nn));clear k9 y0 y1)
  |(cases MV)
  |(
   obtain⟨w8,oT⟩: ∃w8,w7.setCell ⟨b,0,none⟩ (.slice (some ⟨g7,0,none⟩) (r.length+1+1) c7)=w8:=⟨_,rfl⟩
   try simp only[List.length_nil,List.length_cons,Nat.zero_add] at cU jT oT⊢
   rw[oT] at cU jT;have y0:=HE.out w8 jT.out;have Nl:=Nat.lt_of_lt_of_le Rg jT.out.size;have Kc:=hid oT;clear oT p0 pf Sb HH;rw[Kc.out];have K9:=hid (k6.out.trans jT.out))
  go_wp2_with fail
  go_ret2;first
  |(cases R1;refine⟨rfl,_,H9.out,K9.out,fun i hi=> ?_⟩)
  |(cases MV;refine⟨rfl,_,cU.out,k6.out.trans jT.out,fun i hi=> ?_⟩)
  |refine⟨by rw[←HT.out];rfl,_,cU.out,K9.out,fun i hi=> ?_⟩
  rcases zp.out i hi with h|h
  ·exact inl h
  ·exact inr (Nat.le_trans k6.out.size h)):p:=h
theorem q2 {p:Prop} (h:p:=by
 first
 |(cases bl;obtain⟨-,ly,hm3,Yt⟩:=Nn hb;rw[uH hi ht,if_neg (by rw[ly];decide),if_pos ly])
 |rw[uH hi ht,if_pos hb]
 obtain⟨c0,c3,c9,-,-,-,-,bP,qg⟩:=h.cells;simp only[dF] at c0;rw[ht] at c9;have I3:=mU w rb rg 64 s.dj h.ring 1 (by rw[hi];simp);rw[hi] at I3;simp only[List.take_succ_cons,List.take_zero,List.drop_succ_cons,List.drop_zero] at I3;have HT:=hid I3;have uI:sb∉[rb]:=by simp[h.ne.1]
 first
 |(cases bl;have HG:=hid (fun W=>BY (inr hb) (by simp) W))
 |have HG:=hid (fun W=>BY (inl hb) (by simp) W)
 first
 |(cases bl;rw[ly,←aZ] at HG)
 |rw[hb,←aZ] at HG
 have HI:=hid (fun W (hr:df W rb rg 64 r) (k:I [rb] w W)=>h.No hr (k.mono (fun i hi=>by rw[List.mem_singleton] at hi;simp[hi])));have C0:=hid c0;have HTT:=hid ht;first
 |(cases bl;have hhl:=Sc hb)
 |have hhl:=(I4 hb).2.2
 rw[List.length_append,List.length_singleton] at hhl;have hHz:(bytesOf s.header).size≤8:=by rw[an];omega
 obtain⟨S,hS⟩: ∃S,bytesOf [b]=S:=⟨_,rfl⟩
 obtain⟨H,hH⟩: ∃H,bytesOf s.header=H:=⟨_,rfl⟩
 rw[hS] at HT HG;rw[hH] at HG hHz;have hSz:S.size=1:=by rw[←hS];rfl
 have Sd:=hid (show H++S=bytesOf (s.header++[b]) by rw[←aZ,hH,hS]);have HHH:=hid hH;obtain⟨st,gp⟩: ∃st,(bT (s.header++[b])).1=st:=⟨_,rfl⟩
 first
 |(cases bl;rw[gp] at HG hm3 Yt⊢)
 |rw[gp] at HG
 clear gp;obtain⟨x1,x2,x3,x4,x5⟩:=st;first
 |(cases bl;have HN:=hid (fun W=>Np t ⟨x1,x2,x3,x4,x5⟩ hm3 Yt W);have Y9:=hid h.low;have HQ:=hid hq;simp only[cp] at HG HN)
 |simp only[cp] at HG
 have hSi:S.toList.isEmpty=false:=by rw[←hS];exact tl1 b
 have hSn: ¬S.toList= []:=by rw[←hS];exact tl2 b
 first
 |(cases bl;clear I3 hi ht h ly hm3 Yt hq hb uI hS hH c0 c3 c9 qg)
 |clear I3 hi ht h hb uI hS hH c0 c3 c9 qg
 go_enter func72,ntmps72;have c0:=C0.out;go_wp2_with fail
 refine HT.out.mono ?_;rintro e1 w1 ⟨rfl,BZ,k1⟩;have gq:=HI.out w1 BZ k1;obtain⟨d0,d3,d9,-,-,-,-,Ca,MX⟩:=gq.cells;have f3:=MX 3;simp only at d3 d9;rw[HTT.out] at d9;rw[HHH.out] at d3;have nH:=hid gq;have K1:=hid k1;clear k1 BZ c0 HI gq MX d0;go_wp2_with fail
 refine(HG.out _).mono ?_;rintro e2 w2 ⟨rfl,k2⟩;have Fv:=(nH.out.put 3 (.string (H++S)) (s':={s with dj:=r,header:=s.header++[b]}) (fun a b=>by rw[Sd.out];rfl) rfl rfl rfl).aI k2;have xh:I [sb,rb] w w2:=((K1.out.mono (fun i hi=>by rw[List.mem_singleton] at hi;simp[hi])).setCell (p:=⟨sb,3,none⟩) (inl (by simp)) (.string (H++S))).trans (k2.mono (by simp));have Cc:=hid Fv;have K3:=hid xh;first
 |(
  cases bl;clear k2 Fv xh HG Ca d3 d9 f3;go_upto_region 7 with fail;obtain⟨n0,Fw⟩: ∃n,w2.heap.size=n:=⟨_,rfl⟩
  have I5:=Has.aC w2 #[.int .i64 x1,.int .i64 x2,.int .i64 x3,.int .i64 x4,.int .i64 x5] 25 (n:=n0) Fw.symm;have qp:=(I.refl [] w2).alloc (.cells #[.int .i64 x1,.int .i64 x2,.int .i64 x3,.int .i64 x4,.int .i64 x5] 25);obtain⟨w5,VZ⟩: ∃w5,(w2.alloc (.cells #[.int .i64 x1,.int .i64 x2,.int .i64 x3,.int .i64 x4,.int .i64 x5] 25))=w5:=⟨_,rfl⟩
  have R7:n0∉[sb]:=by rw[List.mem_singleton];have:=Cc.out.q.az.lt;omega
  rw[VZ] at I5 qp⊢;try rw[Fw]
  have Rh:=hid (Cc.out.aI qp);have HNN:=hid (HN.out w5.drew ((Rh.out.aI ((I.refl [] w5).drew)).sO) (Nat.lt_of_lt_of_le (Nat.lt_of_lt_of_le Y9.out.1 Rh.out.low.2.1) (Nat.le_of_eq rfl)));have z0:=I5.cell 0;have z1:=I5.cell 1;have z2:=I5.cell 2;have z3:=I5.cell 3;have z4:=I5.cell 4;have zl:=I5.lt;simp only[List.getElem?_cons_zero,List.getElem?_cons_succ] at z0 z1 z2 z3 z4;have LS: ∀w',I [sb] w5 w'→(w'.cell? ⟨n0,0,none⟩=some (.int .i64 x1)∧w'.cell? ⟨n0,1,none⟩=some (.int .i64 x2)∧w'.cell? ⟨n0,2,none⟩=some (.int .i64 x3)∧w'.cell? ⟨n0,3,none⟩=some (.int .i64 x4)∧w'.cell? ⟨n0,4,none⟩=some (.int .i64 x5)):=fun w' k=>⟨k.cell z0 R7,k.cell z1 R7,k.cell z2 R7,k.cell z3 R7,k.cell z4 R7⟩
  have I6:=hid qp;clear I5 qp VZ Fw z0 z1 z2 z3 z4 HN;refine Go.Tru.rg (fun w'=>I [sb] w5 w') ((I.refl _ _).drew) fun HH=> ?_;refine tk 0 HH.out ?_;try simp only[gz]
  refine tk 1 HH.out ?_;try simp only[gz]
  refine tk 2 HH.out ?_;try simp only[gz]
  refine tf 3 LS HH.out ?_;try simp only[gz]
  refine tf 4 LS HH.out ?_;try simp only[gz]
  refine rd 5 fun K hK=> ?_;go_simp;refine(HNN.out).mono ?_;rintro e3 w3 ⟨pb,F,rfl,g3,hF3,k3⟩;try simp only[]
  clear HH;refine hK.out _ _ (((I.refl [sb] w5).drew).trans (k3.mono (by simp))) fun HH=> ?_;clear hK K;have qt:=(Rh.out.aI ((I.refl [] w5).drew)).aI k3;obtain⟨-,-,-,-,-,-,-,ebl,UH⟩:=qt.cells;have ef4:=UH 4;have ef5:=UH 5;have ef6:=UH 6;have ef7:=UH 7;have ef8:=UH 8;have ef9:=UH 9;have acY:=UH 10;obtain⟨ec4,ec5,ec6,ec7,ec8⟩:=qt.bV;obtain⟨-,-,ec9,acZ,-⟩:=qt.cells;have HS6:=hid qt;have G3:=hid g3;have HF3:=hid hF3;have K3':=hid k3;clear g3 hF3 k3 UH qt;refine tk 6 HH.out ?_;try simp only[gz]
  refine tk 7 HH.out ?_;try simp only[gz]
  refine rd 8 fun K hK=> ?_;go_simp;refine hK.out _ _ (((((HH.out.ax _).ax _).ax _).ax _).ax _) fun HH=> ?_;clear hK K;refine tk 9 HH.out ?_;try simp only[gz]
  refine tk 10 HH.out ?_;try simp only[gz]
  refine rd 11 fun K hK=> ?_;go_simp;refine hK.out _ _ (HH.out.ax _) fun HH=> ?_;clear hK K;refine tk 12 HH.out ?_;try simp only[gz]
  refine tk 13 HH.out ?_;try simp only[gz]
  refine rd 14 fun K hK=> ?_;go_simp;refine hK.out _ _ (HH.out.ax _) fun HH=> ?_;clear hK K;refine wpAnyH_done (by kernel_rfl) ?_ _;have hF4: ∀i∈F,i≠sb∧i≠rb∧i≠rg∧i∉ae qv:=fun i hi=>by
   have h0:=HF3.out i hi;have h1:=Rh.out.lt;have h2:w5.heap.size≤i:=h0;refine⟨fun e=> ?_,fun e=> ?_,fun e=> ?_,fun hm=> ?_⟩
   ·have:=(h1 sb (nO ..)).2;omega
   ·have:=(h1 rb (nP ..)).2;omega
   ·have:=(h1 rg (FJ ..)).2;omega
   ·have:=(h1 i (rK _ _ _ _ _ hm)).2;omega
  have Nq:gu t 0 (((((((w3.setCell ⟨sb,4,none⟩ (.int .i64 x1)).setCell ⟨sb,5,none⟩ (.int .i64 x2)).setCell ⟨sb,6,none⟩ (.int .i64 x3)).setCell ⟨sb,7,none⟩ (.int .i64 x4)).setCell ⟨sb,8,none⟩ (.int .i64 x5)).setCell ⟨sb,9,none⟩ (.bool true))) w5.drew.heap.size pb F (aw.new ⟨x1,x2,x3,x4,x5⟩):=G3.out.keeps ((((((((I.refl [sb] w3).ax (i:=4) (.int .i64 x1)).ax (i:=5) (.int .i64 x2)).ax (i:=6) (.int .i64 x3)).ax (i:=7) (.int .i64 x4)).ax (i:=8) (.int .i64 x5)).ax (i:=9) (.bool true))) (fun i hi hm=>by rw[List.mem_singleton] at hm;exact(hF4 i hi).1 hm) (fun i hi=>by rw[List.mem_singleton] at hi;have:=Rh.out.low;omega)
  have Yu:=((((((HS6.out.put 4 (.int .i64 x1) (s':={s with dj:=r,header:=s.header++[b],bV:=⟨x1,s.bV.to,s.bV.depth,s.bV.jr,s.bV.cN⟩}) (fun a b=>rfl) rfl rfl rfl).put 5 (.int .i64 x2) (s':={s with dj:=r,header:=s.header++[b],bV:=⟨x1,x2,s.bV.depth,s.bV.jr,s.bV.cN⟩}) (fun a b=>rfl) rfl rfl rfl).put 6 (.int .i64 x3) (s':={s with dj:=r,header:=s.header++[b],bV:=⟨x1,x2,x3,s.bV.jr,s.bV.cN⟩}) (fun a b=>rfl) rfl rfl rfl).put 7 (.int .i64 x4) (s':={s with dj:=r,header:=s.header++[b],bV:=⟨x1,x2,x3,x4,s.bV.cN⟩}) (fun a b=>rfl) rfl rfl rfl).put 8 (.int .i64 x5) (s':={s with dj:=r,header:=s.header++[b],bV:=⟨x1,x2,x3,x4,x5⟩}) (fun a b=>rfl) rfl rfl rfl).put 9 (.bool true) (s':={s with dj:=r,header:=s.header++[b],bV:=⟨x1,x2,x3,x4,x5⟩,told:=true}) (fun a b=>rfl) rfl rfl rfl).ac0 Nq (Nat.le_trans Rh.out.low.2.1 (Nat.le_of_eq rfl)) hF4
  have zn:I [sb,rb] w ((((((((w3.setCell ⟨sb,4,none⟩ (.int .i64 x1)).setCell ⟨sb,5,none⟩ (.int .i64 x2)).setCell ⟨sb,6,none⟩ (.int .i64 x3)).setCell ⟨sb,7,none⟩ (.int .i64 x4)).setCell ⟨sb,8,none⟩ (.int .i64 x5)).setCell ⟨sb,9,none⟩ (.bool true))).setCell ⟨sb,10,none⟩ (.pointer (some ⟨pb,0,none⟩))):=((K3.out.trans (I6.out.drew.mono (by simp))).trans (K3'.out.mono (by simp))).trans ((((((((I.refl [sb] w3).ax (i:=4) (.int .i64 x1)).ax (i:=5) (.int .i64 x2)).ax (i:=6) (.int .i64 x3)).ax (i:=7) (.int .i64 x4)).ax (i:=8) (.int .i64 x5)).ax (i:=9) (.bool true)).ax (i:=10) (.pointer (some ⟨pb,0,none⟩))|>.mono (by simp));have hz7:w.heap.size≤w5.heap.size:=Nat.le_trans K3.out.size I6.out.size;simp only[dF] at Yu;clear Nq ebl ef4 ef5 ef6 ef7 ef8 ef9 acY ec4 ec5 ec6 ec7 ec8 ec9 acZ LS zl R7;obtain⟨w7,hw7⟩: ∃w7,((((((((w3.setCell ⟨sb,4,none⟩ (.int .i64 x1)).setCell ⟨sb,5,none⟩ (.int .i64 x2)).setCell ⟨sb,6,none⟩ (.int .i64 x3)).setCell ⟨sb,7,none⟩ (.int .i64 x4)).setCell ⟨sb,8,none⟩ (.int .i64 x5)).setCell ⟨sb,9,none⟩ (.bool true))).setCell ⟨sb,10,none⟩ (.pointer (some ⟨pb,0,none⟩)))=w7:=⟨_,rfl⟩
  rw[hw7] at Yu zn⊢;have HS7:=hid Yu;have Yv:=hid zn;have HF4:=hid hF4;have HZ7:=hid hz7;have ac1:=hid (fun W=>I7 W);have ac2:=hid (Cd (Yu.aI ((I.refl [] w7).drew)) [75] (by have:=HQ.out;simp only;omega) (by simp));have h7l:=Yu.q.az.lt;clear Yu zn hw7 hF4 hz7 G3 HS6 K3' I6 Rh K3 HNN;go_upto_region 8 with fail;refine Go.Tru.rg (fun w'=>I (sb::ae qv) w7 w') ((I.refl _ _).drew) fun HH=> ?_;refine tk 0 HH.out ?_;try simp only[gz]
  refine tk 1 HH.out ?_;try simp only[gz]
  refine tk 2 HH.out ?_;try simp only[gz]
  refine rd 3 fun K hK=> ?_;go_simp;refine(ac1.out _).mono ?_;rintro e4 w8 ⟨rfl,rfl⟩;try simp only[]
  clear HH;refine hK.out _ _ ((I.refl _ _).drew) fun HH=> ?_;clear hK K;refine rd 4 fun K hK=> ?_;go_simp;refine(ac2.out).mono ?_;rintro e5 w9 ⟨rfl,qv9,g9,k9,hn9⟩;try simp only[]
  clear HH;refine hK.out _ _ (((I.refl _ w7).drew).trans k9) fun HH=> ?_;clear hK K;refine wpAnyH_done (by kernel_rfl) ?_ _;have K9:=hid k9;have G9:=hid g9;have HN9:=hid hn9;clear k9 g9 hn9)
 |clear k2 Fv xh HG
 go_wp2_with fail
 refine bodyPost_ret_by (results_none rfl _ _ _) rfl ?_;first
 |(
  cases bl;refine⟨rfl,qv9,_,F,G9.out,(Yv.out.drew.mono I8).trans (K9.out.mono qu),kO (fun i hi=> ?_) (fun i hi=>inr ?_)⟩
  ·exact(HN9.out i hi).imp id (fun h=>Nat.le_trans Yv.out.size h)
  ·exact Nat.le_trans HZ7.out (HF3.out i hi))
 |exact⟨rfl,qv,pV,FP,Cc.out.aI ((I.refl [] w2).alloc _),(K3.out.mono (fun i hi=>I8 i hi)).trans ((I.refl _ w2).alloc _),kO (fun i hi=>inl hi) (fun i hi=>inl hi)⟩):p:=h
theorem q3 {p:Prop} (h:p:=by
 first
 |(
  cases jn;have cL:=hid (fun W=>aK (aN n2) (inr (inr (inr (inr (inr (inl ⟨n2,by omega,rfl⟩)))))) W);have ez:=hid (fun W=>jI false n2 W);have mT:=hid (fun W=>lF false n2 hn W);have Rb:(cl false n2).2=0:=by rw[cl,if_neg (by omega),if_pos (by omega)]
  rw[Rb] at mT;obtain⟨out,di⟩: ∃out,(cl false n2).1=out:=⟨_,rfl⟩
  rw[di] at mT⊢)
 |(
  cases l5;have cL:=hid (fun W=>aK (aO n2) (inr (inr (inr (inr (inr (inr (inl ⟨n2,by omega,rfl⟩))))))) W);have ez:=hid (fun W=>jI true n2 W);have mT:=hid (fun W=>lF true n2 hn W);have Rb:(cl true n2).2=0:=by rw[cl,if_neg (by omega),if_pos (by omega)]
  rw[Rb] at mT;obtain⟨out,di⟩: ∃out,(cl true n2).1=out:=⟨_,rfl⟩
  rw[di] at mT⊢)
 |(
  first
  |(cases eW;have cL:=hid (fun W=>aK (aN n2) (inr (inr (inr (inr (inr (inl ⟨n2,by omega,rfl⟩)))))) W))
  |(cases iH;have cL:=hid (fun W=>aK (aO n2) (inr (inr (inr (inr (inr (inr (inl ⟨n2,by omega,rfl⟩))))))) W))
  |(
   first
   |(cases bl;have cL:=hid (fun W=>aK (aN n2) (inr (inr (inr (inr (inr (inl ⟨n2,by omega,rfl⟩)))))) W))
   |have cL:=hid (fun W=>aK (aO n2) (inr (inr (inr (inr (inr (inr (inl ⟨n2,by omega,rfl⟩))))))) W)
   first
   |(cases bl;have mT:=hid (fun W=>iN 4 n2 (by omega) (by omega) W))
   |have mT:=hid (fun W=>iN 5 n2 (by omega) (by omega) W)
   first
   |(cases bl;rw[show((4:Nat):Int)=4 from rfl] at mT)
   |rw[show((5:Nat):Int)=5 from rfl] at mT
   first
   |(cases bl;obtain⟨out,di⟩: ∃out,aU 4 n2=out:=⟨_,rfl⟩)
   |obtain⟨out,di⟩: ∃out,aU 5 n2=out:=⟨_,rfl⟩
   rw[di] at mT⊢)
  have tL:=hid ak;first
  |(
   cases eW;obtain⟨Nj,mj⟩: ∃t:List UInt8,[]++[91]=t:=⟨_,rfl⟩
   rw[mj];have HT:=hid mj)
  |(
   cases iH;obtain⟨Nj,mj⟩: ∃t:List UInt8,[]++[123]=t:=⟨_,rfl⟩
   rw[mj];have HT:=hid mj)
  |skip
  obtain⟨x2,dE⟩: ∃x:Int,(n2:Int)=x:=⟨_,rfl⟩
  first
  |(cases eW;rw[eC] at cL)
  |(cases iH;rw[eD] at cL)
  |(
   have hx:0≤x2∧x2<16:=by omega
   obtain⟨cy,cQ⟩:=hx;have hwx:IntKind.u64.wrap x2=x2:=by rw[IntKind.wrap_u64];omega
   first
   |(cases bl;rw[eC] at cL)
   |rw[eD] at cL)
  simp only[dE] at cL;first
  |(cases mS;rw[dE] at mT⊢;have ez:=cL)
  |rw[dE])
 obtain⟨a,cap,rfl⟩:=h.bu.shape;have H:=hid h;have ac3:=hid (fun i (hi:i∈ae (.slice a 0 cap))=>(World.ownsRow.lt h.bu i (aa.1 hi)).2);obtain⟨g0,g1⟩:=h.cells;have bP:=h.az.lt;first
 |(cases eW;rw[eC];simp only[Ev.val,Ev.cells,aN,aY,dE] at cL⊢)
 |(cases iH;rw[eD];simp only[Ev.val,Ev.cells,aO,aY,dE] at cL⊢)
 |(cases jn;have tL:=hid ak;rw[eC] at cL⊢;simp only[Ev.val,Ev.cells,aN,aY] at cL)
 |(cases l5;have tL:=hid ak;rw[eD] at cL⊢;simp only[Ev.val,Ev.cells,aO,aY] at cL)
 |(
  first
  |(cases bl;rw[eC])
  |rw[eD]
  first
  |(cases bl;simp only[Ev.val,Ev.cells,aN,aY,dE] at cL⊢)
  |simp only[Ev.val,Ev.cells,aO,aY,dE] at cL⊢)
 simp only[List.length_nil] at*;first
 |(cases iH;clear h ak mj hn dE;go_enter func203,ntmps203)
 |(
  cases yj;obtain⟨x2,dE⟩: ∃x:Int,(n2:Int)=x:=⟨_,rfl⟩
  rw[dE] at cL ez mT⊢;have hx:0≤x2∧x2<16:=by omega
  obtain⟨cy,cQ⟩:=hx;clear h di ak hn Rb dE cy cQ;go_enter func238,ntmps238)
 |(
  first
  |(cases eW;clear h ak mj hn dE)
  |clear h di ak hn dE cQ ez
  first
  |(cases eW;go_enter func203,ntmps203)
  |go_enter func231,ntmps231)
 go_wp2_with fail
 refine(cL.out _).mono ?_;rintro e w1 ⟨rfl,k1⟩;have H1:=hid (H.out.keeps k1 (by simp) (by simp));have K1:=hid k1;clear g0 g1 bP k1 H;obtain⟨g0,g1⟩:=H1.out.cells;have bP:=H1.out.az.lt;first
 |(cases yj)
 |(
  obtain⟨n1,ij⟩: ∃n1,w1.heap.size=n1:=⟨_,rfl⟩
  have Nh:b<n1:=by rw[←ij];exact bP)
 go_wp2_with fail
 first
 |(
  cases jn;refine(ez.out _).mono ?_;rintro e w4 ⟨rfl,k4⟩;have uJ:=(((I.refl [] w1).alloc (.cells #[.int .i64 5,.bool false,.int .u64 0,.string ⟨#[]⟩,.int .i64 x2] 34)).alloc (.cells #[] 218)).trans k4;have H4:=hid (H1.out.keeps uJ (by simp) (by simp));have K4:=hid (K1.out.trans uJ);clear g0 g1 bP k4 uJ H1 K1;obtain⟨g0,g1⟩:=H4.out.cells;have bP:=H4.out.az.lt;obtain⟨n4,fW⟩: ∃n4,w4.heap.size=n4:=⟨_,rfl⟩
  have nK:b<n4:=by rw[←fW];exact bP
  go_wp2_with fail
  refine(mT.out _).mono ?_;rintro e w5 ⟨rfl,k5⟩;have BX:=(Has.aC w4 #[.bool false,.int .i64 x2] 215 (n:=n4) fW.symm).keeps k5 (by simp);have rJ:=((I.refl [] w4).alloc (.cells #[.bool false,.int .i64 x2] 215)).trans k5;have H5:=hid (H4.out.keeps rJ (by simp) (by simp));have K5:=hid (K4.out.trans rJ);have Rc:=hid BX;have qq:=K4.out.size;rw[fW] at qq;have Re:=hid qq;clear g0 g1 bP k5 rJ H4 K4 BX qq;obtain⟨g0,g1⟩:=H5.out.cells;have bP:=H5.out.az.lt;have H6:=H5;have k6:=hid (K5.out.mono (G:=b::ae (.slice a 0 cap)) nn);have iK:=Rc;obtain⟨w6,jo⟩: ∃w6,w5=w6:=⟨_,rfl⟩
  rw[jo] at H6 iK k6⊢;clear jo g0 g1 bP H5 K5 Rc;go_wp2_with fail)
 |(
  cases l5;refine(ez.out _).mono ?_;rintro e w4 ⟨rfl,k4⟩;have uJ:=(((I.refl [] w1).alloc (.cells #[.int .i64 6,.bool false,.int .u64 0,.string ⟨#[]⟩,.int .i64 x2] 34)).alloc (.cells #[] 218)).trans k4;have H4:=hid (H1.out.keeps uJ (by simp) (by simp));have K4:=hid (K1.out.trans uJ);clear g0 g1 bP k4 uJ H1 K1;obtain⟨g0,g1⟩:=H4.out.cells;have bP:=H4.out.az.lt;obtain⟨n4,fW⟩: ∃n4,w4.heap.size=n4:=⟨_,rfl⟩
  have nK:b<n4:=by rw[←fW];exact bP
  go_wp2_with fail
  refine(mT.out _).mono ?_;rintro e w5 ⟨rfl,k5⟩;have BX:=(Has.aC w4 #[.bool true,.int .i64 x2] 215 (n:=n4) fW.symm).keeps k5 (by simp);have rJ:=((I.refl [] w4).alloc (.cells #[.bool true,.int .i64 x2] 215)).trans k5;have H5:=hid (H4.out.keeps rJ (by simp) (by simp));have K5:=hid (K4.out.trans rJ);have Rc:=hid BX;have qq:=K4.out.size;rw[fW] at qq;have Re:=hid qq;clear g0 g1 bP k5 rJ H4 K4 BX qq;obtain⟨g0,g1⟩:=H5.out.cells;have bP:=H5.out.az.lt;have H6:=H5;have k6:=hid (K5.out.mono (G:=b::ae (.slice a 0 cap)) nn);have iK:=Rc;obtain⟨w6,jo⟩: ∃w6,w5=w6:=⟨_,rfl⟩
  rw[jo] at H6 iK k6⊢;clear jo g0 g1 bP H5 K5 Rc;go_wp2_with fail)
 |(
  first
  |(cases eW;have kk:=(((I.refl [] w1).alloc (.cells #[.int .i64 5,.bool false,.int .u64 0,.string ⟨#[]⟩,.int .i64 x2] 34)).alloc (.cells #[] 218)).alloc (.cells #[.bool false,.int .i64 x2] 215);have iK:=Has.aC ((w1.alloc (.cells #[.int .i64 5,.bool false,.int .u64 0,.string ⟨#[]⟩,.int .i64 x2] 34)).alloc (.cells #[] 218)) #[.bool false,.int .i64 x2] 215 (n:=n1+1+1) (by rw[←ij];simp))
  |(cases iH;have kk:=(((I.refl [] w1).alloc (.cells #[.int .i64 6,.bool false,.int .u64 0,.string ⟨#[]⟩,.int .i64 x2] 34)).alloc (.cells #[] 218)).alloc (.cells #[.bool true,.int .i64 x2] 215);have iK:=Has.aC ((w1.alloc (.cells #[.int .i64 6,.bool false,.int .u64 0,.string ⟨#[]⟩,.int .i64 x2] 34)).alloc (.cells #[] 218)) #[.bool true,.int .i64 x2] 215 (n:=n1+1+1) (by rw[←ij];simp))
  |(
   first
   |(cases bl;have kk:=(((I.refl [] w1).alloc (.cells #[.int .i64 5,.bool false,.int .u64 0,.string ⟨#[]⟩,.int .i64 x2] 34)).alloc (.cells #[] 218)).alloc (.cells #[.bool false,.int .i64 x2] 215))
   |have kk:=(((I.refl [] w1).alloc (.cells #[.int .i64 6,.bool false,.int .u64 0,.string ⟨#[]⟩,.int .i64 x2] 34)).alloc (.cells #[] 218)).alloc (.cells #[.bool true,.int .i64 x2] 215)
   first
   |(cases bl;have iK:=Has.aC ((w1.alloc (.cells #[.int .i64 5,.bool false,.int .u64 0,.string ⟨#[]⟩,.int .i64 x2] 34)).alloc (.cells #[] 218)) #[.bool false,.int .i64 x2] 215 (n:=n1+1+1) (by rw[←ij];simp))
   |have iK:=Has.aC ((w1.alloc (.cells #[.int .i64 6,.bool false,.int .u64 0,.string ⟨#[]⟩,.int .i64 x2] 34)).alloc (.cells #[] 218)) #[.bool true,.int .i64 x2] 215 (n:=n1+1+1) (by rw[←ij];simp))
  have qq:=K1.out.size;rw[ij] at qq;have Re:=hid (show w.heap.size≤n1+1+1 by omega);have H6:=H1.out.keeps kk (by simp) (by simp);have k6:=(K1.out.trans kk).mono (G:=b::ae (.slice a 0 cap)) nn;obtain⟨n4,fW⟩: ∃n4,n1+1+1=n4:=⟨_,rfl⟩
  have Nk:n4≠b:=by omega
  rw[fW] at iK Re;first
  |(cases FE;obtain⟨w6,jo⟩: ∃w6,((w1.alloc (.cells #[.int .i64 5,.bool false,.int .u64 0,.string ⟨#[]⟩,.int .i64 x2] 34)).alloc (.cells #[] 218)).alloc (.cells #[.bool false,.int .i64 x2] 215)=w6:=⟨_,rfl⟩)
  |obtain⟨w6,jo⟩: ∃w6,((w1.alloc (.cells #[.int .i64 6,.bool false,.int .u64 0,.string ⟨#[]⟩,.int .i64 x2] 34)).alloc (.cells #[] 218)).alloc (.cells #[.bool true,.int .i64 x2] 215)=w6:=⟨_,rfl⟩
  rw[jo] at H6 k6 iK;replace H6:=hid H6;replace k6:=hid k6;replace iK:=hid iK;have Rf:=hid jo;have V0:=hid fW;clear jo kk g0 g1 bP Nh ij fW H1 K1 qq;rw[Rf.out,V0.out])
 obtain⟨g0,g1⟩:=H6.out.cells;have gf:=H6.out.az.free 0;have bP:=H6.out.az.lt;have Rg:=iK.out.lt;have jx:base≤w6.heap.size:=Nat.le_trans tL.out k6.out.size;first
 |(cases yj;have Nk:n4≠b:=by omega)
 |skip
 have iy:n4∉b::ae (.slice a 0 cap):=by
  rw[List.mem_cons,aa];rintro(h|h)
  ·exact Nk h
  ·have h2:=ac3.out n4 (aa.2 h);have h3:=Re.out;omega
 first
 |(cases eW;have HE:=hid (fun(w':World) (k:I (b::ae (.slice a 0 cap)) w6 w')=>show w'.cell? ⟨n4,0,none⟩=some (.bool false) from k.cell (iK.out.cell 0) iy))
 |(cases iH;have HE:=hid (fun(w':World) (k:I (b::ae (.slice a 0 cap)) w6 w')=>show w'.cell? ⟨n4,0,none⟩=some (.bool true) from k.cell (iK.out.cell 0) iy))
 |((first|cases bl|cases jn);have HE:=hid (fun(w':World) (k:I (b::ae (.slice a 0 cap)) w6 w')=>show w'.cell? ⟨n4,0,none⟩=some (.bool false)∧w'.cell? ⟨n4,1,none⟩=some (.int .i64 x2) from⟨k.cell (iK.out.cell 0) iy,k.cell (iK.out.cell 1) iy⟩))
 |have HE:=hid (fun(w':World) (k:I (b::ae (.slice a 0 cap)) w6 w')=>show w'.cell? ⟨n4,0,none⟩=some (.bool true)∧w'.cell? ⟨n4,1,none⟩=some (.int .i64 x2) from⟨k.cell (iK.out.cell 0) iy,k.cell (iK.out.cell 1) iy⟩)
 refine rg (fun w'=>I (b::ae (.slice a 0 cap)) w6 w') ((I.refl _ _).drew) fun HH=> ?_;refine tk 0 HH.out ?_;try simp only[gz]
 refine tk 1 HH.out ?_;try simp only[gz]
 refine tk 2 HH.out ?_;try simp only[gz]
 refine tk 3 HH.out ?_;try simp only[gz]
 refine tk 5 HH.out ?_;try simp only[gz]
 refine tf 6 HE.out HH.out ?_;try simp only[gz]
 refine tk 7 HH.out ?_;try simp only[gz]
 first
 |(cases FF;refine Ni 4 8 (fun K hK=> ?_) fun K hK=> ?_)
 |(
  refine tf 8 HE.out HH.out ?_;try simp only[gz]
  refine tk 9 HH.out ?_;try simp only[gz]
  refine Ni 4 10 (fun K hK=> ?_) fun K hK=> ?_)
 ·go_simp;refine hK.out _ _ HH.out fun HH=> ?_;clear hK K;first
  |(cases FF;refine rd 8 fun K hK=> ?_)
  |refine rd 10 fun K hK=> ?_
  go_simp;refine hK.out _ _ (HH.out.alloc _) fun HH=> ?_;clear hK K;first
  |(cases eW;refine rd 9 fun K hK=> ?_;have ka:I [] w6 (w6.drew.alloc (.cells #[.bool false,.int .i64 0] 274)):=(I.refl [] w6).drew.alloc _)
  |(cases iH;refine rd 9 fun K hK=> ?_;have ka:I [] w6 (w6.drew.alloc (.cells #[.bool true,.int .i64 0] 274)):=(I.refl [] w6).drew.alloc _)
  |(cases jn;refine rd 11 fun K hK=> ?_;have ka:I [] w6 (w6.drew.alloc (.cells #[.bool false,.int .i64 x2,.int .i64 0] 301)):=(I.refl [] w6).drew.alloc _)
  |(cases l5;refine rd 11 fun K hK=> ?_;have ka:I [] w6 (w6.drew.alloc (.cells #[.bool true,.int .i64 x2,.int .i64 0] 301)):=(I.refl [] w6).drew.alloc _)
  |(
   refine rd 11 fun K hK=> ?_;first
   |(cases bl;have ka:I [] w6 (w6.drew.alloc (.cells #[.bool false,.int .i64 x2,.int .i64 0] 299)):=(I.refl [] w6).drew.alloc _)
   |have ka:I [] w6 (w6.drew.alloc (.cells #[.bool true,.int .i64 x2,.int .i64 0] 299)):=(I.refl [] w6).drew.alloc _)
  have HA:=H6.out.keeps ka (by simp) (by simp);first
  |(cases bl;refine eL _ _ rfl base (.slice a 0 cap) ([]) rfl HA.bu ⟨w6.heap.size,0,none⟩ 1 1 [⟨false,x2,0⟩] rfl rfl (aA [.bool false,.int .i64 x2,.int .i64 0] (by simp)) (by first|(simp;done)|(simp;omega)) (Nat.le_trans jx ka.size) ?_)
  |(cases lD;refine eL _ _ rfl base (.slice a 0 cap) ([]) rfl HA.bu ⟨w6.heap.size,0,none⟩ 1 1 [⟨true,x2,0⟩] rfl rfl (aA [.bool true,.int .i64 x2,.int .i64 0] (by simp)) (by first|(simp;done)|(simp;omega)) (Nat.le_trans jx ka.size) ?_)
  |(cases eW;refine dC _ _ rfl base (.slice a 0 cap) ([]) rfl HA.bu ⟨w6.heap.size,0,none⟩ 1 1 [⟨false,x2,0⟩] rfl rfl (aA [.bool false,.int .i64 0] (by simp)) (by first|(simp;done)|(simp;omega)) (Nat.le_trans jx ka.size) ?_)
  |(cases iH;refine dC _ _ rfl base (.slice a 0 cap) ([]) rfl HA.bu ⟨w6.heap.size,0,none⟩ 1 1 [⟨true,x2,0⟩] rfl rfl (aA [.bool true,.int .i64 0] (by simp)) (by first|(simp;done)|(simp;omega)) (Nat.le_trans jx ka.size) ?_)
  |(cases jn;refine eM _ _ rfl base (.slice a 0 cap) ([]) rfl HA.bu ⟨w6.heap.size,0,none⟩ 1 1 [⟨false,x2,0⟩] rfl rfl (aA [.bool false,.int .i64 x2,.int .i64 0] (by simp)) (by first|(simp;done)|(simp;omega)) (Nat.le_trans jx ka.size) ?_)
  |refine eM _ _ rfl base (.slice a 0 cap) ([]) rfl HA.bu ⟨w6.heap.size,0,none⟩ 1 1 [⟨true,x2,0⟩] rfl rfl (aA [.bool true,.int .i64 x2,.int .i64 0] (by simp)) (by first|(simp;done)|(simp;omega)) (Nat.le_trans jx ka.size) ?_
  intro v7 w7 aB zn Fu;first
  |(cases bl;replace aB:ai w7 base 299 v7 (⟨false,x2,0⟩::[]):=aB)
  |(cases lD;replace aB:ai w7 base 299 v7 (⟨true,x2,0⟩::[]):=aB)
  |(cases eW;replace aB:bE w7 base v7 (⟨false,x2,0⟩::[]):=aB)
  |(cases iH;replace aB:bE w7 base v7 (⟨true,x2,0⟩::[]):=aB)
  |(cases jn;replace aB:ai w7 base 301 v7 (⟨false,x2,0⟩::[]):=aB)
  |replace aB:ai w7 base 301 v7 (⟨true,x2,0⟩::[]):=aB
  have zo:I (ae (.slice a 0 cap)) w6 w7:=(ka.mono (by simp)).trans zn;have zp: ∀i∈ae v7,i∈ae (.slice a 0 cap)∨w6.heap.size≤i:=by
   intro i hi;rw[aa] at hi;rcases Fu with h|h
   ·exact inl (aa.2 (h▸hi))
   ·rw[h] at hi;have UG:=ka.size;exact inr (Nat.le_trans UG (Nat.le_of_eq (Option.some.inj hi)))
  have bX:b∉ae v7:=fun hm=>by
   rcases zp b hm with h|h
   ·exact H6.out.bo h
   ·omega
  have bW:=H6.out.az.keeps zo H6.out.bo;have p0:=bW.cell 0;have pf:=bW.free 0;have Sb:=bW.lt;simp only[List.getElem?_cons_zero] at p0;first
  |(cases bl;have cU:eR (w7.setCell ⟨b,0,none⟩ v7) base b v7 ⟨⟨false,x2,0⟩::[],false⟩:=⟨(bW.set 0 v7).conv rfl,ab aB ((I.refl [b] _).ax _) (fun i hi hm=>bX (by rw[List.mem_singleton] at hm;rw[←hm];exact aa.2 hi)),bX⟩)
  |(cases lD;have cU:eR (w7.setCell ⟨b,0,none⟩ v7) base b v7 ⟨⟨true,x2,0⟩::[],false⟩:=⟨(bW.set 0 v7).conv rfl,ab aB ((I.refl [b] _).ax _) (fun i hi hm=>bX (by rw[List.mem_singleton] at hm;rw[←hm];exact aa.2 hi)),bX⟩)
  |(cases eW;have cU:cV (w7.setCell ⟨b,0,none⟩ v7) base b v7 ⟨⟨false,x2,0⟩::[],false⟩:=⟨(bW.set 0 v7).conv rfl,ab aB ((I.refl [b] _).ax _) (fun i hi hm=>bX (by rw[List.mem_singleton] at hm;rw[←hm];exact aa.2 hi)),bX⟩)
  |(cases iH;have cU:cV (w7.setCell ⟨b,0,none⟩ v7) base b v7 ⟨⟨true,x2,0⟩::[],false⟩:=⟨(bW.set 0 v7).conv rfl,ab aB ((I.refl [b] _).ax _) (fun i hi hm=>bX (by rw[List.mem_singleton] at hm;rw[←hm];exact aa.2 hi)),bX⟩)
  |(cases jn;have cU:ff (w7.setCell ⟨b,0,none⟩ v7) base b v7 ⟨⟨false,x2,0⟩::[],false⟩:=⟨(bW.set 0 v7).conv rfl,ab aB ((I.refl [b] _).ax _) (fun i hi hm=>bX (by rw[List.mem_singleton] at hm;rw[←hm];exact aa.2 hi)),bX⟩)
  |have cU:ff (w7.setCell ⟨b,0,none⟩ v7) base b v7 ⟨⟨true,x2,0⟩::[],false⟩:=⟨(bW.set 0 v7).conv rfl,ab aB ((I.refl [b] _).ax _) (fun i hi hm=>bX (by rw[List.mem_singleton] at hm;rw[←hm];exact aa.2 hi)),bX⟩
  have jT:I (b::ae (.slice a 0 cap)) w6 (w7.setCell ⟨b,0,none⟩ v7):=I.setCell (p:=⟨b,0,none⟩) (zo.mono mc) (inl ms) _;first
  |(cases FF;obtain⟨g7,c7,rfl,-,-,-,-,-,-,-⟩:=aB.some_)
  |obtain⟨g7,c7,rfl,-,-,-,-,-,-,-,-⟩:=aB.some_
  refine hK.out _ _ (zo.mono mc) (fun cB=> ?_);replace cU:=hid cU;replace jT:=hid jT;replace zp:=hid zp;clear Fu bX bW aB zn zo ka HA;clear hK K HH;have HH:=hid cB;clear cB;first
  |(cases FF;refine tk 10 HH.out ?_)
  |refine tk 12 HH.out ?_
  try simp only[gz]
  first
  |(cases FF;refine tk 11 HH.out ?_)
  |refine tk 13 HH.out ?_
  try simp only[gz]
  first
  |(cases FF;refine rd 12 fun K hK=> ?_)
  |refine rd 14 fun K hK=> ?_
  go_simp;clear HH;refine hK.out _ _ jT.out fun HH=> ?_;clear hK K;refine wpAnyH_done (by kernel_rfl) ?_ _;first
  |(cases yj)
  |(
   obtain⟨w8,oT⟩: ∃w8,w7.setCell ⟨b,0,none⟩ (.slice (some ⟨g7,0,none⟩) (0+1) c7)=w8:=⟨_,rfl⟩
   try simp only[List.length_nil,List.length_cons,Nat.zero_add] at cU jT oT⊢
   rw[oT] at cU jT;first
   |(cases mS;have VY:=HE.out w8 jT.out;obtain⟨y0,y1⟩:=VY)
   |have y0:=HE.out w8 jT.out
   have Nl:=Nat.lt_of_lt_of_le Rg jT.out.size;have Kc:=hid oT;clear oT p0 pf Sb HH;rw[Kc.out];first
   |(
    cases mS;go_wp2_with fail
    refine(mT.out _).mono ?_;rintro e w9 ⟨rfl,k9⟩;have H9:=hid (cU.out.keeps k9 (by simp) (by simp));have K9:=hid ((k6.out.trans jT.out).trans (k9.mono nn));clear k9 y0 y1)
   |have K9:=hid (k6.out.trans jT.out))
  go_wp2_with fail
  go_ret2;first
  |(cases mS;refine⟨rfl,_,H9.out,K9.out,fun i hi=> ?_⟩)
  |(cases FF;refine⟨by rw[←HT.out];rfl,_,cU.out,K9.out,fun i hi=> ?_⟩)
  |refine⟨rfl,_,cU.out,k6.out.trans jT.out,fun i hi=> ?_⟩
  rcases zp.out i hi with h|h
  ·exact inl h
  ·exact inr (Nat.le_trans k6.out.size h)
 ·go_simp;refine hK.out _ _ (HH.out.alloc _) fun HH=> ?_;clear hK K;refine rd 4 fun K hK=> ?_;go_simp;refine hK.out _ _ HH.out fun HH=> ?_;clear hK K;first
  |(cases eW;refine rd 9 fun K hK=> ?_;have ka:I [] w6 (w6.drew.alloc (.cells #[.bool false,.int .i64 0] 274)):=(I.refl [] w6).drew.alloc _)
  |(cases iH;refine rd 9 fun K hK=> ?_;have ka:I [] w6 (w6.drew.alloc (.cells #[.bool true,.int .i64 0] 274)):=(I.refl [] w6).drew.alloc _)
  |(cases jn;refine rd 11 fun K hK=> ?_;have ka:I [] w6 (w6.drew.alloc (.cells #[.bool false,.int .i64 x2,.int .i64 0] 301)):=(I.refl [] w6).drew.alloc _)
  |(cases l5;refine rd 11 fun K hK=> ?_;have ka:I [] w6 (w6.drew.alloc (.cells #[.bool true,.int .i64 x2,.int .i64 0] 301)):=(I.refl [] w6).drew.alloc _)
  |(
   refine rd 11 fun K hK=> ?_;first
   |(cases bl;have ka:I [] w6 (w6.drew.alloc (.cells #[.bool false,.int .i64 x2,.int .i64 0] 299)):=(I.refl [] w6).drew.alloc _)
   |have ka:I [] w6 (w6.drew.alloc (.cells #[.bool true,.int .i64 x2,.int .i64 0] 299)):=(I.refl [] w6).drew.alloc _)
  have HA:=H6.out.keeps ka (by simp) (by simp);first
  |(cases bl;refine eL _ _ rfl base (.slice a 0 cap) ([]) rfl HA.bu ⟨w6.heap.size,0,none⟩ 1 1 [⟨false,x2,0⟩] rfl rfl (aA [.bool false,.int .i64 x2,.int .i64 0] (by simp)) (by first|(simp;done)|(simp;omega)) (Nat.le_trans jx ka.size) ?_)
  |(cases lD;refine eL _ _ rfl base (.slice a 0 cap) ([]) rfl HA.bu ⟨w6.heap.size,0,none⟩ 1 1 [⟨true,x2,0⟩] rfl rfl (aA [.bool true,.int .i64 x2,.int .i64 0] (by simp)) (by first|(simp;done)|(simp;omega)) (Nat.le_trans jx ka.size) ?_)
  |(cases eW;refine dC _ _ rfl base (.slice a 0 cap) ([]) rfl HA.bu ⟨w6.heap.size,0,none⟩ 1 1 [⟨false,x2,0⟩] rfl rfl (aA [.bool false,.int .i64 0] (by simp)) (by first|(simp;done)|(simp;omega)) (Nat.le_trans jx ka.size) ?_)
  |(cases iH;refine dC _ _ rfl base (.slice a 0 cap) ([]) rfl HA.bu ⟨w6.heap.size,0,none⟩ 1 1 [⟨true,x2,0⟩] rfl rfl (aA [.bool true,.int .i64 0] (by simp)) (by first|(simp;done)|(simp;omega)) (Nat.le_trans jx ka.size) ?_)
  |(cases jn;refine eM _ _ rfl base (.slice a 0 cap) ([]) rfl HA.bu ⟨w6.heap.size,0,none⟩ 1 1 [⟨false,x2,0⟩] rfl rfl (aA [.bool false,.int .i64 x2,.int .i64 0] (by simp)) (by first|(simp;done)|(simp;omega)) (Nat.le_trans jx ka.size) ?_)
  |refine eM _ _ rfl base (.slice a 0 cap) ([]) rfl HA.bu ⟨w6.heap.size,0,none⟩ 1 1 [⟨true,x2,0⟩] rfl rfl (aA [.bool true,.int .i64 x2,.int .i64 0] (by simp)) (by first|(simp;done)|(simp;omega)) (Nat.le_trans jx ka.size) ?_
  intro v7 w7 aB zn Fu;first
  |(cases bl;replace aB:ai w7 base 299 v7 (⟨false,x2,0⟩::[]):=aB)
  |(cases lD;replace aB:ai w7 base 299 v7 (⟨true,x2,0⟩::[]):=aB)
  |(cases eW;replace aB:bE w7 base v7 (⟨false,x2,0⟩::[]):=aB)
  |(cases iH;replace aB:bE w7 base v7 (⟨true,x2,0⟩::[]):=aB)
  |(cases jn;replace aB:ai w7 base 301 v7 (⟨false,x2,0⟩::[]):=aB)
  |replace aB:ai w7 base 301 v7 (⟨true,x2,0⟩::[]):=aB
  have zo:I (ae (.slice a 0 cap)) w6 w7:=(ka.mono (by simp)).trans zn;have zp: ∀i∈ae v7,i∈ae (.slice a 0 cap)∨w6.heap.size≤i:=by
   intro i hi;rw[aa] at hi;rcases Fu with h|h
   ·exact inl (aa.2 (h▸hi))
   ·rw[h] at hi;have UG:=ka.size;exact inr (Nat.le_trans UG (Nat.le_of_eq (Option.some.inj hi)))
  have bX:b∉ae v7:=fun hm=>by
   rcases zp b hm with h|h
   ·exact H6.out.bo h
   ·omega
  have bW:=H6.out.az.keeps zo H6.out.bo;have p0:=bW.cell 0;have pf:=bW.free 0;have Sb:=bW.lt;simp only[List.getElem?_cons_zero] at p0;first
  |(cases bl;have cU:eR (w7.setCell ⟨b,0,none⟩ v7) base b v7 ⟨⟨false,x2,0⟩::[],false⟩:=⟨(bW.set 0 v7).conv rfl,ab aB ((I.refl [b] _).ax _) (fun i hi hm=>bX (by rw[List.mem_singleton] at hm;rw[←hm];exact aa.2 hi)),bX⟩)
  |(cases lD;have cU:eR (w7.setCell ⟨b,0,none⟩ v7) base b v7 ⟨⟨true,x2,0⟩::[],false⟩:=⟨(bW.set 0 v7).conv rfl,ab aB ((I.refl [b] _).ax _) (fun i hi hm=>bX (by rw[List.mem_singleton] at hm;rw[←hm];exact aa.2 hi)),bX⟩)
  |(cases eW;have cU:cV (w7.setCell ⟨b,0,none⟩ v7) base b v7 ⟨⟨false,x2,0⟩::[],false⟩:=⟨(bW.set 0 v7).conv rfl,ab aB ((I.refl [b] _).ax _) (fun i hi hm=>bX (by rw[List.mem_singleton] at hm;rw[←hm];exact aa.2 hi)),bX⟩)
  |(cases iH;have cU:cV (w7.setCell ⟨b,0,none⟩ v7) base b v7 ⟨⟨true,x2,0⟩::[],false⟩:=⟨(bW.set 0 v7).conv rfl,ab aB ((I.refl [b] _).ax _) (fun i hi hm=>bX (by rw[List.mem_singleton] at hm;rw[←hm];exact aa.2 hi)),bX⟩)
  |(cases jn;have cU:ff (w7.setCell ⟨b,0,none⟩ v7) base b v7 ⟨⟨false,x2,0⟩::[],false⟩:=⟨(bW.set 0 v7).conv rfl,ab aB ((I.refl [b] _).ax _) (fun i hi hm=>bX (by rw[List.mem_singleton] at hm;rw[←hm];exact aa.2 hi)),bX⟩)
  |have cU:ff (w7.setCell ⟨b,0,none⟩ v7) base b v7 ⟨⟨true,x2,0⟩::[],false⟩:=⟨(bW.set 0 v7).conv rfl,ab aB ((I.refl [b] _).ax _) (fun i hi hm=>bX (by rw[List.mem_singleton] at hm;rw[←hm];exact aa.2 hi)),bX⟩
  have jT:I (b::ae (.slice a 0 cap)) w6 (w7.setCell ⟨b,0,none⟩ v7):=I.setCell (p:=⟨b,0,none⟩) (zo.mono mc) (inl ms) _;first
  |(cases FF;obtain⟨g7,c7,rfl,-,-,-,-,-,-,-⟩:=aB.some_)
  |obtain⟨g7,c7,rfl,-,-,-,-,-,-,-,-⟩:=aB.some_
  refine hK.out _ _ (zo.mono mc) (fun cB=> ?_);replace cU:=hid cU;replace jT:=hid jT;replace zp:=hid zp;clear Fu bX bW aB zn zo ka HA;clear hK K HH;have HH:=hid cB;clear cB;first
  |(cases FF;refine tk 10 HH.out ?_)
  |refine tk 12 HH.out ?_
  try simp only[gz]
  first
  |(cases FF;refine tk 11 HH.out ?_)
  |refine tk 13 HH.out ?_
  try simp only[gz]
  first
  |(cases FF;refine rd 12 fun K hK=> ?_)
  |refine rd 14 fun K hK=> ?_
  go_simp;clear HH;refine hK.out _ _ jT.out fun HH=> ?_;clear hK K;refine wpAnyH_done (by kernel_rfl) ?_ _;first
  |(cases yj)
  |(
   obtain⟨w8,oT⟩: ∃w8,w7.setCell ⟨b,0,none⟩ (.slice (some ⟨g7,0,none⟩) (0+1) c7)=w8:=⟨_,rfl⟩
   try simp only[List.length_nil,List.length_cons,Nat.zero_add] at cU jT oT⊢
   rw[oT] at cU jT;first
   |(cases mS;have VY:=HE.out w8 jT.out;obtain⟨y0,y1⟩:=VY)
   |have y0:=HE.out w8 jT.out
   have Nl:=Nat.lt_of_lt_of_le Rg jT.out.size;have Kc:=hid oT;clear oT p0 pf Sb HH;rw[Kc.out];first
   |(
    cases mS;go_wp2_with fail
    refine(mT.out _).mono ?_;rintro e w9 ⟨rfl,k9⟩;have H9:=hid (cU.out.keeps k9 (by simp) (by simp));have K9:=hid ((k6.out.trans jT.out).trans (k9.mono nn));clear k9 y0 y1)
   |have K9:=hid (k6.out.trans jT.out))
  go_wp2_with fail
  go_ret2;first
  |(cases mS;refine⟨rfl,_,H9.out,K9.out,fun i hi=> ?_⟩)
  |(cases FF;refine⟨by rw[←HT.out];rfl,_,cU.out,K9.out,fun i hi=> ?_⟩)
  |refine⟨rfl,_,cU.out,k6.out.trans jT.out,fun i hi=> ?_⟩
  rcases zp.out i hi with h|h
  ·exact inl h
  ·exact inr (Nat.le_trans k6.out.size h)):p:=h
theorem q4 {p:Prop} (h:p:=by
 have HM:=hid (fun W=>kr e (inl (by omega)) W);obtain⟨g,cap,rfl,gb,gl,gr,gm,-,-,-,-⟩:=h.bu.some_;obtain⟨k,y,m,t,cn⟩:=e;simp only[Ev.val,Ev.cells] at*;obtain⟨lq,oG⟩:=hr;first
 |(
  cases bl;have xp:cpt.tmod 2=1:=by rw[Int.tmod_eq_emod_of_nonneg Ng];exact l7
  clear l7)
 |(cases lD)
 |(
  have xp:cpt.tmod 2=0:=by rw[Int.tmod_eq_emod_of_nonneg Ng];exact l7
  clear l7;subst xh)
 have h1:(to==1)=false:=by rcases pe with rfl|rfl<;>decide
 have mx:(to != 1)=true:=by rcases pe with rfl|rfl<;>decide
 first
 |(cases eW)
 |(
  have k5:(k==5)=false:=by simp;omega
  have k6:(k==6)=false:=by simp;omega
  have k7:(k==7)=false:=by simp;omega)
 have dq:(⟨#[]⟩:ByteArray)++bs=bs:=ByteArray.empty_append;have R7:((s.length:Int)+1==0)=false:=by simp;omega
 have HP:=hid HP;have H:=hid h;have HB:=hid ak;have bP:=h.az.lt;unfold maxLen at gm;clear h pe hk ak;go_enter func6,ntmps6;first
 |(cases eW;have aJ:=Has.aC w #[.int .i64 3,.bool y,.int .u64 m,.string t,.int .i64 cn] 34 rfl)
 |have aJ:=Has.aC w #[.int .i64 k,.bool y,.int .u64 m,.string t,.int .i64 cn] 34 rfl
 first
 |(cases eW;have k0:=(I.refl [] w).alloc (.cells #[.int .i64 3,.bool y,.int .u64 m,.string t,.int .i64 cn] 34))
 |have k0:=(I.refl [] w).alloc (.cells #[.int .i64 k,.bool y,.int .u64 m,.string t,.int .i64 cn] 34)
 first
 |(cases eW;obtain⟨w1,eK⟩: ∃w1,w.alloc (.cells #[.int .i64 3,.bool y,.int .u64 m,.string t,.int .i64 cn] 34)=w1:=⟨_,rfl⟩)
 |obtain⟨w1,eK⟩: ∃w1,w.alloc (.cells #[.int .i64 k,.bool y,.int .u64 m,.string t,.int .i64 cn] 34)=w1:=⟨_,rfl⟩
 have H1:=hid (H.out.keeps (k0) (by simp) (by simp));rw[eK] at aJ k0 H1;obtain⟨g0,g1,g2⟩:=H1.out.cells;first
 |(cases eW;have e0:w1.cell? ⟨w.heap.size,0,none⟩=some (.int .i64 3):=aJ.cell 0)
 |have e0:w1.cell? ⟨w.heap.size,0,none⟩=some (.int .i64 k):=aJ.cell 0
 have e1:w1.cell? ⟨w.heap.size,1,none⟩=some (.bool y):=aJ.cell 1;have e2:w1.cell? ⟨w.heap.size,2,none⟩=some (.int .u64 m):=aJ.cell 2;have e3:w1.cell? ⟨w.heap.size,3,none⟩=some (.string t):=aJ.cell 3;have e4:w1.cell? ⟨w.heap.size,4,none⟩=some (.int .i64 cn):=aJ.cell 4;have K0:=hid k0;have HN:=hid aJ;clear aJ k0;go_wp2_with fail
 refine(HM.out _).mono ?_;rintro e w2 ⟨rfl,k2⟩;have H2:=hid (H1.out.keeps k2 (by simp) (by simp));have aJ:=HN.out.keeps k2 (by simp);have K2:=hid (K0.out.trans k2);clear g0 g1 g2 e0 e1 e2 e3 e4 eK;obtain⟨g0,g1,g2⟩:=H2.out.cells;obtain⟨g',fB,he,-,l8,-,-,q0,q1,q2,-⟩:=ai.some_ H2.out.bu;simp only[Value.slice.injEq,Option.some.injEq,Addr.mk.injEq,and_true,true_and] at he;obtain⟨rfl,rfl⟩:=he;first
 |(cases eW;have e0:w2.cell? ⟨w.heap.size,0,none⟩=some (.int .i64 3):=aJ.cell 0)
 |have e0:w2.cell? ⟨w.heap.size,0,none⟩=some (.int .i64 k):=aJ.cell 0
 have e1:w2.cell? ⟨w.heap.size,1,none⟩=some (.bool y):=aJ.cell 1;have e2:w2.cell? ⟨w.heap.size,2,none⟩=some (.int .u64 m):=aJ.cell 2;have e3:w2.cell? ⟨w.heap.size,3,none⟩=some (.string t):=aJ.cell 3;have e4:w2.cell? ⟨w.heap.size,4,none⟩=some (.int .i64 cn):=aJ.cell 4;have rG:=hid aJ;have fT:=H2.out.az.lt;have um:w.heap.size<w2.heap.size:=aJ.lt;clear aJ k2 K0 HN H1;go_wp2_with fail
 first
 |(cases lD;obtain⟨wc,pI⟩: ∃wc,w2.alloc (.cells #[.bool false,.int .i64 cc,.int .i64 cpt] 61)=wc:=⟨_,rfl⟩)
 |obtain⟨wc,pI⟩: ∃wc,w2.alloc (.cells #[.bool true,.int .i64 cc,.int .i64 cpt] 61)=wc:=⟨_,rfl⟩
 have hkc:I [] w2 wc:=by rw[←pI];exact(I.refl _ _).alloc _
 rw[pI];have H3:=hid (H2.out.keeps hkc (by simp) (by simp));have aJ:=rG.out.keeps hkc (by simp);have K3:=hid (K2.out.trans hkc);clear g0 g1 g2 q0 q1 q2 e0 e1 e2 e3 e4 fT um rG H2 K2 pI;obtain⟨g0,g1,g2⟩:=H3.out.cells;first
 |(cases eW;have e0:wc.cell? ⟨w.heap.size,0,none⟩=some (.int .i64 3):=aJ.cell 0)
 |have e0:wc.cell? ⟨w.heap.size,0,none⟩=some (.int .i64 k):=aJ.cell 0
 have e1:wc.cell? ⟨w.heap.size,1,none⟩=some (.bool y):=aJ.cell 1;have e2:wc.cell? ⟨w.heap.size,2,none⟩=some (.int .u64 m):=aJ.cell 2;have e3:wc.cell? ⟨w.heap.size,3,none⟩=some (.string t):=aJ.cell 3;have e4:wc.cell? ⟨w.heap.size,4,none⟩=some (.int .i64 cn):=aJ.cell 4;clear aJ hkc;first
 |(cases eW;go_region_held (fun W=>W.cell? ⟨b,0,none⟩=some (.int .i64 to)∧W.cell? ⟨w.heap.size,0,none⟩=some (.int .i64 3)∧W.cell? ⟨w.heap.size,1,none⟩=some (.bool y)∧W.cell? ⟨w.heap.size,2,none⟩=some (.int .u64 m)∧W.cell? ⟨w.heap.size,3,none⟩=some (.string t)∧W.cell? ⟨w.heap.size,4,none⟩=some (.int .i64 cn)) (go_keep) ((go_at_call 25;refine(HP.out _).mono ?_;rintro e w4 ⟨rfl,k4⟩;have d:=k4.cell (p:=⟨b,0,none⟩) g0 (by simp);have d0:=k4.cell (p:=⟨w.heap.size,0,none⟩) e0 (by simp);have d1:=k4.cell (p:=⟨w.heap.size,1,none⟩) e1 (by simp);have d2:=k4.cell (p:=⟨w.heap.size,2,none⟩) e2 (by simp);have d3:=k4.cell (p:=⟨w.heap.size,3,none⟩) e3 (by simp);have d4:=k4.cell (p:=⟨w.heap.size,4,none⟩) e4 (by simp))))
 |go_region_held (fun W=>W.cell? ⟨b,0,none⟩=some (.int .i64 to)∧W.cell? ⟨w.heap.size,0,none⟩=some (.int .i64 k)∧W.cell? ⟨w.heap.size,1,none⟩=some (.bool y)∧W.cell? ⟨w.heap.size,2,none⟩=some (.int .u64 m)∧W.cell? ⟨w.heap.size,3,none⟩=some (.string t)∧W.cell? ⟨w.heap.size,4,none⟩=some (.int .i64 cn)) (go_keep) ((go_at_call 25;refine(HP.out _).mono ?_;rintro e w4 ⟨rfl,k4⟩;have d:=k4.cell (p:=⟨b,0,none⟩) g0 (by simp);have d0:=k4.cell (p:=⟨w.heap.size,0,none⟩) e0 (by simp);have d1:=k4.cell (p:=⟨w.heap.size,1,none⟩) e1 (by simp);have d2:=k4.cell (p:=⟨w.heap.size,2,none⟩) e2 (by simp);have d3:=k4.cell (p:=⟨w.heap.size,3,none⟩) e3 (by simp);have d4:=k4.cell (p:=⟨w.heap.size,4,none⟩) e4 (by simp)))
 have V2:=(I.refl [] wc).drew.trans k4;have H4:=hid (H3.out.keeps V2 (by simp) (by simp));have K4:=hid (K3.out.trans V2);clear g0 g1 g2 e0 e1 e2 e3 e4 k4 V2 d1 d2 d3 d4 K3 H3;obtain⟨g0,g1,g2⟩:=H4.out.cells;have f2:=H4.out.az.free 2;have nK:=H4.out.az.lt;have he4:w.heap.size<w4.heap.size:=World.block_lt_of_cell? w4 _ d0;have jx:base≤w4.heap.size:=Nat.le_trans HB.out K4.out.size;have bn:I [b] w4 (w4.setCell ⟨b,2,none⟩ (.bool false)):=(I.refl _ _).ax _;have fX:w.heap.size≠b:=by omega
 first
 |(
  cases eW;have hW5:eJ (w4.setCell ⟨b,2,none⟩ (.bool false)) base b to (.slice (some ⟨g,0,none⟩) (s.length+1) cap) (⟨true,cc,cpt⟩::s) false:=⟨(H4.out.az.set 2 (.bool false)).conv rfl,ab H4.out.bu bn (fun i hi hm=>H4.out.bo (by rw[List.mem_singleton] at hm;exact hm▸aa.2 hi)),H4.out.bo⟩
  have d5:(w4.setCell ⟨b,2,none⟩ (.bool false)).cell? ⟨w.heap.size,0,none⟩=some (.int .i64 3):=bn.cell d0 (by simpa using fX))
 |(
  first
  |(cases bl;have hW5:eJ (w4.setCell ⟨b,2,none⟩ (.bool false)) base b to (.slice (some ⟨g,0,none⟩) (s.length+1) cap) (⟨true,cc,cpt⟩::s) false:=⟨(H4.out.az.set 2 (.bool false)).conv rfl,ab H4.out.bu bn (fun i hi hm=>H4.out.bo (by rw[List.mem_singleton] at hm;exact hm▸aa.2 hi)),H4.out.bo⟩)
  |have hW5:eJ (w4.setCell ⟨b,2,none⟩ (.bool false)) base b to (.slice (some ⟨g,0,none⟩) (s.length+1) cap) (⟨false,cc,cpt⟩::s) false:=⟨(H4.out.az.set 2 (.bool false)).conv rfl,ab H4.out.bu bn (fun i hi hm=>H4.out.bo (by rw[List.mem_singleton] at hm;exact hm▸aa.2 hi)),H4.out.bo⟩
  have d5:(w4.setCell ⟨b,2,none⟩ (.bool false)).cell? ⟨w.heap.size,0,none⟩=some (.int .i64 k):=bn.cell d0 (by simpa using fX))
 have H5:=hid hW5;have K5:=hid ((K4.out.mono (G:=[b]) (by simp)).trans bn);have I5:(w4.setCell ⟨b,2,none⟩ (.bool false)).heap.size=w4.heap.size:=by simp[World.setCell]
 clear hW5 bn;first
 |(cases lD;go_wp2_with (at_builtin;go_must (refine qo rfl _ _ rfl base (.slice none 0 0) [] rfl (ai.nil _ _ _) ⟨g,0,none⟩ (s.length+1) cap (⟨false,cc,cpt⟩::s) rfl rfl ?_ (by simp;omega) (by simp[World.setCell];exact jx) ?_)))
 |go_wp2_with (at_builtin;go_must (refine qo rfl _ _ rfl base (.slice none 0 0) [] rfl (ai.nil _ _ _) ⟨g,0,none⟩ (s.length+1) cap (⟨true,cc,cpt⟩::s) rfl rfl ?_ (by simp;omega) (by simp[World.setCell];exact jx) ?_))
 ·exact World.ownsRow.cells H5.out.bu (g:=g) rfl
 intro v6 w6 bx lE rH;obtain⟨g6,c6,rfl,gb6,gl6,gr6,gm6,p0,p1,p2,pf⟩:=bx.some_;have Yp:g6=w4.heap.size:=by
  rcases rH with h|h
  ·simp[Value.ownBlock] at h
  ·try rw[I5] at h
   simpa[Value.ownBlock] using h
 rw[aR] at lE;have mw:=H5.out.az.keeps lE (by simp);have r1:=mw.cell 1;have Q9:=mw.free 1;have Ra:=mw.lt;have d6:=lE.cell d5 (by simp);have he6:w.heap.size<w6.heap.size:=World.block_lt_of_cell? w6 _ d6;have lr:g6≠b:=by omega
 have cY:b≠g6:=by omega
 have Ft:w.heap.size≠g6:=by omega
 have acV:g6≠w.heap.size:=by omega
 have FH:b≠w.heap.size:=by omega
 have pf2:=pf (s.length*3+2);have FI:w.heap.size≤g6:=by have:=K4.out.size;omega
 unfold maxLen at gm6;clear Yp;simp only[List.getElem?_cons_succ,List.getElem?_cons_zero] at r1;have uG:I [b] w6 (w6.setCell ⟨b,1,none⟩ (.slice (some ⟨g6,0,none⟩) (s.length+1) c6)):=(I.refl _ _).ax _;have aB:=ab bx uG (fun i hi hm=>by rw[List.mem_singleton] at hm;simp only[Value.ownBlock,Option.some.injEq] at hi;omega)
 first
 |(
  cases lD;have nG:=hid (show eJ ((w6.setCell ⟨b,1,none⟩ (.slice (some ⟨g6,0,none⟩) (s.length+1) c6)).setCell ⟨g6,s.length*3+2,none⟩ (.int .i64 (cpt+1))) base b to (.slice (some ⟨g6,0,none⟩) (s.length+1) c6) (⟨false,cc,cpt+1⟩::s) false from
   ⟨((mw.set 1 (.slice (some ⟨g6,0,none⟩) (s.length+1) c6)).conv rfl).other (by simpa using cY) _,ai.gV aB (cpt+1),fun hm=>by rw[aa] at hm;simp only[Value.ownBlock,Option.some.injEq] at hm;omega⟩))
 |(
  have nG:=hid (show eJ ((w6.setCell ⟨b,1,none⟩ (.slice (some ⟨g6,0,none⟩) (s.length+1) c6)).setCell ⟨g6,s.length*3+2,none⟩ (.int .i64 (cpt+1))) base b to (.slice (some ⟨g6,0,none⟩) (s.length+1) c6) (⟨true,cc,cpt+1⟩::s) false from
   ⟨((mw.set 1 (.slice (some ⟨g6,0,none⟩) (s.length+1) c6)).conv rfl).other (by simpa using cY) _,ai.gV aB (cpt+1),fun hm=>by rw[aa] at hm;simp only[Value.ownBlock,Option.some.injEq] at hm;omega⟩))
 have K7:=hid ((((K5.out.trans (lE.mono (G:=[b]) (by simp))).trans uG).mono (G:=b::ae (.slice (some ⟨g,0,none⟩) (s.length+1) cap)) m1).setCell (p:=⟨g6,s.length*3+2,none⟩) (inr FI) (.int .i64 (cpt+1)));have HSZ:=hid FI;clear g0 g1 g2 f2 bx lE rH FI uG aB mw pf K5 H5 d5;go_wp2_with fail
 go_ret2;refine⟨rfl,_,nG.out,K7.out,fun i hi=>inr ?_⟩;rw[aa] at hi;simp only[Value.ownBlock,Option.some.injEq] at hi;rw[←hi];exact HSZ.out):p:=h
theorem q5 {p:Prop} (h:p:=by
 obtain⟨q1,q2,q3,q4,q5,q6,q7⟩:=ed h;have iz:=jU h (by omega);first
 |(cases mS;have Nr:=I9 (l:=xs.drop at_) (by rw[hx];omega))
 |skip
 rw[hx] at iz;have HN:=hid iz;first
 |(
  cases eW;have Ri:(x:Int) % 8=1:=by omega
  have V3:(bits .and .i64 (x:Int) 8 != 0)=decide (x/8 % 2=1):=Za x (by have:=kP (xs.drop at_);omega);generalize decide (x/8 % 2=1)=y at V3⊢;clear h hx h8 iz)
 |(
  cases iH;have Ri:(x:Int) % 8=5:=by omega
  clear h hx h8 iz)
 |(
  cases jn;have Ri:(x:Int) % 8=0:=by omega
  clear h hx h8 iz)
 |(
  have HIH:=hid ih;have HDK:=hid Rj;have hnd: ¬dep≤d:=by omega
  first
  |(
   cases bl;have Zb:((x:Int) % 8==0)=false:=by rw[beq_eq_false_iff_ne];omega
   have BE:((x:Int) % 8==1)=false:=by rw[beq_eq_false_iff_ne];omega
   have fT:((x:Int) % 8==2)=false:=by rw[beq_eq_false_iff_ne];omega
   have Nh:((x:Int) % 8==3)=false:=by rw[beq_eq_false_iff_ne];omega
   have nK:((x:Int) % 8==4)=false:=by rw[beq_eq_false_iff_ne];omega
   have yl:((x:Int) % 8==5)=false:=by rw[beq_eq_false_iff_ne];omega
   have fW:(x:Int)/8 % 3=((x/8 % 3:Nat):Int):=by omega
   have FK:x/8 % 3≤2:=by omega
   generalize x/8 % 3=nn at fW FK⊢)
  |(
   have Ri:(x:Int) % 8=5:=by omega
   have fW:(x:Int)/8 % 4=((x/8 % 4:Nat):Int):=by omega
   have FK:x/8 % 4≤3:=by omega
   generalize x/8 % 4=nn at fW FK⊢)
  have ac4:=hid FL;have uK:=hid (show es.length≤2000 by omega);generalize pg:(nx (xs.drop at_)).2=l1 at Nr iz HN⊢;have uo:=hid pg;have Zc:=hid Nr;clear h hx h8 iz ih Rj FL pg Nr)
 go_enter func20,ntmps20;go_wp2_with fail
 refine HN.out.mono ?_;rintro e w1 ⟨rfl,h1,yo⟩;obtain⟨q1,q2,q3,q4,q5,q6,q7⟩:=ed h1;have H1:=hid h1;have Rk:=hid yo;clear h1 yo;first
 |(cases bl;go_wp2_with (at_builtin;go_must (refine mV rfl _ _ rfl (bI+1) _ _ rfl (ab H1.out.own ((I.refl [] _).alloc _) (by simp)) ⟨_,0,none⟩ 1 1 [aO (nn:Int)] rfl rfl (iO (aO (nn:Int)) rfl) (by have:=uK.out;omega) (by simp;omega) ?_)))
 |(cases lD;go_wp2_with (at_builtin;go_must (refine mV rfl _ _ rfl (bI+1) _ _ rfl (ab H1.out.own ((I.refl [] _).alloc _) (by simp)) ⟨_,0,none⟩ 1 1 [aN (nn:Int)] rfl rfl (iO (aN (nn:Int)) rfl) (by have:=uK.out;omega) (by simp;omega) ?_)))
 |(cases eW;go_wp2_with (at_builtin;go_must (refine mV rfl _ _ rfl (bI+1) _ es rfl (ab H1.out.own ((I.refl [] _).alloc _) (by simp)) ⟨_,0,none⟩ 1 1 [aq y] rfl rfl (iO (aq y) rfl) (by omega) (by simp;omega) ?_)))
 |(cases iH;go_wp2_with (at_builtin;go_must (refine mV rfl _ _ rfl (bI+1) _ es rfl (ab H1.out.own ((I.refl [] _).alloc _) (by simp)) ⟨_,0,none⟩ 1 1 [ah aY] rfl rfl (iO (ah aY) rfl) (by omega) (by simp;omega) ?_)))
 |go_wp2_with (at_builtin;go_must (refine mV rfl _ _ rfl (bI+1) _ es rfl (ab H1.out.own ((I.refl [] _).alloc _) (by simp)) ⟨_,0,none⟩ 1 1 [ar] rfl rfl (iO ar rfl) (by omega) (by simp;omega) ?_))
 intro v2 w2 cI iA my Kf;obtain⟨o2,c2,jz⟩:=cI.shape;rw[List.length_append,List.length_singleton] at jz;subst jz;have eH:=H1.out.push cI (((I.refl _ _).alloc _).trans iA);have qh:=(H1.out.out.alloc _).keeps iA (fun hm=>by have:=H1.out.az _ hm;have:=H1.out.lay.h3;have:=H1.out.lay.h4;have:=H1.out.lay.h5;omega);have q2':=qh.cell 0;have q3':=qh.free 0;have HP:=hid eH;clear eH cI iA my Kf qh q2 q3;first
 |(
  cases mS;first
  |(cases bl;obtain⟨f,hf⟩: ∃f,f=cx (aE k):=⟨_,rfl⟩)
  |obtain⟨f,hf⟩: ∃f,f=aE k:=⟨_,rfl⟩
  have HFF:=hid hf;first
  |(cases bl;have hlen:=qw (f:=cx (aE k)) (a:=2) (Ce k))
  |have hlen:=qw (f:=aE k) (a:=1) (lG k)
  rw[←hf] at hlen⊢;have HRL:=hid hlen;clear hf hlen)
 |skip
 go_wp2_with fail
 first
 |(
  cases mS;first
  |(cases bl;go_loopw [10] (fun i wr=>Ns w0 bL bD bO bA bN bI o n c xs dep f nn (es++[aO (nn:Int)]) l1 i wr) (fun i _=>nn- (intOf i).toNat))
  |go_loopw [8] (fun i wr=>Ns w0 bL bD bO bA bN bI o n c xs dep f nn (es++[aN (nn:Int)]) l1 i wr) (fun i _=>nn- (intOf i).toNat)
  case atStart=>exact⟨0,at_+1,_,Nat.zero_le _,rfl,Rk.out.symm,by simp[rep];omega,by simpa[rep] using HP.out⟩
  case round=>
   obtain⟨j,yp,v',hj,rfl,Cf,Zd,hD⟩:=hrel;obtain⟨q1,q2,q3,q4,q5,q6,q7⟩:=ed hD;have H4:=hid hD;have hl4:=HRL.out j l1;have Se:=ac4.out;have hu4:=Zc.out;have uL:=hid Cf;have HAT:=hid Zd;have hD':=hD;clear hD Cf Zd;first
   |(
    cases bl;have hle:(es++[aO (nn:Int)]++(rep f j l1).1).length≤5000:=by rw[List.length_append,List.length_append,List.length_singleton];omega
    have qx:=hid hle)
   |skip
   by_cases dD:j<nn
   ·first
    |(
     cases bl;have iy:=jU (H4.out.aI ((I.refl [] _).drew)) (by have:=HAT.out;omega);obtain⟨y,hy⟩: ∃y,(nx (xs.drop yp)).1=y:=⟨_,rfl⟩
     rw[hy] at iy;have V0:=hid iy;have HY:=hid hy;have FM:=uM (l:=xs.drop yp);have UI:(xs.drop yp).length=(rep f j l1).2.length:=by rw[uL.out]
     have HB:Hid ((es++[aO (nn:Int)]++(rep f j l1).1++[ah (cF y)]).length+1+8*(nx (xs.drop yp)).2.length≤2000):=hid (by rw[List.length_append,List.length_append,List.length_append,List.length_singleton,List.length_singleton];omega)
     have ac9:Hid (yp+1≤(es++[aO (nn:Int)]++(rep f j l1).1++[ah (cF y)]).length):=hid (by have:=HAT.out;rw[List.length_append,List.length_singleton];omega)
     clear hD' hl4 Se hu4 hle iy hy FM UI)
    |(have lH:=HIH.out (d+1) wr yp _ v' (by have:=HDK.out;omega) (by omega) hD' HAT.out (by rw[uL.out,List.length_append,List.length_append,List.length_singleton];omega);rw[uL.out,←HFF.out] at lH;have Nt:=hid lH;clear lH hD' hl4 Se hu4)
    go_wp2_with fail
    first
    |(
     cases bl;go_region_law (first|(rw[if_pos (by rfl)];refine jK _ _ rfl (bI+1) v' _ rfl (ab H6.out.own ((I.refl [] _).alloc _) (by simp)) ⟨_,0,none⟩ (ah (cF y)) rfl (iO (ah (cF y)) (by simp)) (by have:=qx.out;omega) (by simp;omega) ?_;intro v2 w2 cI iA Kf;obtain⟨o2,l2,c2,rfl⟩:=V4 cI;have eH:=H6.out.push cI (((I.refl _ _).alloc _).trans iA);have qh:=(H6.out.out.keeps ((I.refl [] _).alloc _) (by simp)).keeps iA (fun hm=>by have:=H6.out.az _ hm;have:=H6.out.lay.h3;have:=H6.out.lay.h4;have:=H6.out.lay.h5;omega);have q2:=qh.cell 0;have q3:=qh.free 0;have HP6:=hid eH;clear eH cI iA Kf qh)|(go_simp;go_at_call 21;refine(sP y _).mono ?_;rintro e w6 ⟨rfl,k6⟩;have H6:=hid (H5.out.aI k6);obtain⟨q1,q2,q3,q4,q5,q6,q7⟩:=ed H6.out;clear k6;try go_simp)|(go_simp;go_at_call 19;refine V0.out.mono ?_;rintro e w5 ⟨rfl,h5,Ze⟩;have H5:=hid h5;have Zf:=hid Ze;obtain⟨q1,q2,q3,q4,q5,q6,q7⟩:=ed H5.out;clear h5 Ze;try go_simp))
     all_goals
      have lH:=HIH.out (d+1) _ (yp+1) _ _ (by have:=HDK.out;omega) (by omega) HP6.out ac9.out (by rw[←Zf.out];exact HB.out);rw[←Zf.out] at lH;obtain⟨q1,q2',q3',q4,q5,q6,q7⟩:=ed HP6.out;have Nt:=hid lH;clear lH;go_wp2_with fail
      refine Nt.out.mono ?_;rintro e w7 ⟨rfl,UJ,v7,hd7,ha7,h7⟩;have HD7:=hid hd7;have HA7:=hid ha7;have H7:=hid h7;clear hd7 ha7 h7;go_wp2_with fail
      go_roundw;case rel=>
       have hff:(f (rep f j l1).2).1=ah (cF y)::(aE k (nx (xs.drop yp)).2).1∧(f (rep f j l1).2).2=(aE k (nx (xs.drop yp)).2).2:=by rw[HFF.out];rw[HFF.out] at uL;rw[←uL.out];simp[cx,HY.out]
       refine⟨j+1,UJ,v7,by omega,by go_num,?_,?_,?_⟩
       ·rw[HD7.out,kQ,hff.2]
       ·have:=HA7.out;rw[kQ,hff.1];simpa using this
       ·have:=H7.out;rw[kQ,hff.1];simpa using this
      case measure=>simp[intOf];omega)
    |(
     refine Nt.out.mono ?_;rintro e w5 ⟨rfl,UJ,v5,hd5,ha5,h5⟩;have HD5:=hid hd5;have HA5:=hid ha5;have H5:=hid h5;clear hd5 ha5 h5;go_wp2_with fail
     go_roundw;case rel=>
      refine⟨j+1,UJ,v5,by omega,by go_num,?_,?_,?_⟩
      ·rw[HD5.out,kQ]
      ·have:=HA5.out;rw[kQ];simpa using this
      ·have:=H5.out;rw[kQ];simpa using this
     case measure=>simp[intOf];omega)
   ·obtain rfl:j=nn:=by omega
    first
    |(cases bl)
    |(
     have hle:(es++[aN (j:Int)]++(rep f j l1).1).length≤5000:=by rw[List.length_append,List.length_append,List.length_singleton];omega
     have qx:=hid hle)
    clear hD' hl4 Se hu4 hle;go_wp2_with (at_builtin;go_must (refine mV rfl _ _ rfl (bI+1) _ _ rfl (ab H4.out.own ((I.refl [] _).alloc _) (by simp)) ⟨_,0,none⟩ 1 1 [aL] rfl rfl (iO aL rfl) (by have:=qx.out;omega) (by simp;omega) ?_))
    intro v2 w2 cI iA my Kf;obtain⟨o2,c2,rfl⟩:=cI.shape;have eH:=H4.out.push cI (((I.refl _ _).alloc _).trans iA);have qh:=(H4.out.out.alloc _).keeps iA (fun hm=>by have:=H4.out.az _ hm;have:=H4.out.lay.h3;have:=H4.out.lay.h4;have:=H4.out.lay.h5;omega);have q2':=qh.cell 0;have q3':=qh.free 0;have HP4:=hid eH;clear eH cI iA my Kf qh q2 q3;go_wp2_with fail
    go_end0;have hf:=HFF.out;subst hf;first
    |(cases bl;refine⟨rfl,yp,.slice o2 (es.length+((rep (cx (aE k)) j l1).1.length+1+1)) c2,uL.out,?_,?_⟩)
    |refine⟨rfl,yp,.slice o2 (es.length+((rep (aE k) j l1).1.length+1+1)) c2,uL.out,?_,?_⟩
    ·have:=HAT.out;simp only[List.length_append,List.length_cons,List.length_nil] at this⊢;omega
    ·simpa using HP4.out)
 |(go_end0;exact⟨rfl,at_+1,_,Rk.out.symm,by simp;omega,HP.out⟩)):p:=h
theorem q6 {p:Prop} (h:p:=by
 have HR:=hid (fun W=>rL s hs W);obtain⟨qg,pe,hd,gp,hli⟩:=lI hs;first
 |((first|cases bl|cases eW|cases iH);have HN:=hid (fun W=>Kg s.depth hd W))
 |have HN:=hid (fun W=>FN s.depth hd W)
 have HB:=hid hB;have HT:=hid hT;have HS:=hid gp;have HD:=hid hd;obtain⟨f,t2,d,st,li⟩:=s;simp only at hf ht;subst hf ht;simp only[cp] at HR⊢;clear hs qg pe hd gp hli hB hT;go_enter func87,ntmps87;go_wp2_with fail
 first
 |(cases bl;have Rl:=Has.aC w #[.int .i64 2,.int .i64 3,.int .i64 d,.int .i64 st,.int .i64 li] 25 rfl)
 |(cases lD;have Rl:=Has.aC w #[.int .i64 1,.int .i64 3,.int .i64 d,.int .i64 st,.int .i64 li] 25 rfl)
 |(cases eW;have Rl:=Has.aC w #[.int .i64 2,.int .i64 2,.int .i64 d,.int .i64 st,.int .i64 li] 25 rfl)
 |(cases iH;have Rl:=Has.aC w #[.int .i64 2,.int .i64 1,.int .i64 d,.int .i64 st,.int .i64 li] 25 rfl)
 |(cases jn;have Rl:=Has.aC w #[.int .i64 1,.int .i64 2,.int .i64 d,.int .i64 st,.int .i64 li] 25 rfl)
 |have Rl:=Has.aC w #[.int .i64 1,.int .i64 1,.int .i64 d,.int .i64 st,.int .i64 li] 25 rfl
 refine(HR.out _).mono ?_;rintro e w1 ⟨rfl,k1⟩;have Fx:=Rl.keeps k1 (by simp);first
 |(cases bl;have V5:=((I.refl [] w).alloc (.cells #[.int .i64 2,.int .i64 3,.int .i64 d,.int .i64 st,.int .i64 li] 25)).trans k1)
 |(cases lD;have V5:=((I.refl [] w).alloc (.cells #[.int .i64 1,.int .i64 3,.int .i64 d,.int .i64 st,.int .i64 li] 25)).trans k1)
 |(cases eW;have V5:=((I.refl [] w).alloc (.cells #[.int .i64 2,.int .i64 2,.int .i64 d,.int .i64 st,.int .i64 li] 25)).trans k1)
 |(cases iH;have V5:=((I.refl [] w).alloc (.cells #[.int .i64 2,.int .i64 1,.int .i64 d,.int .i64 st,.int .i64 li] 25)).trans k1)
 |(cases jn;have V5:=((I.refl [] w).alloc (.cells #[.int .i64 1,.int .i64 2,.int .i64 d,.int .i64 st,.int .i64 li] 25)).trans k1)
 |have V5:=((I.refl [] w).alloc (.cells #[.int .i64 1,.int .i64 1,.int .i64 d,.int .i64 st,.int .i64 li] 25)).trans k1
 have K1:=hid V5;have HH1:=hid Fx;first
 |(cases eW;have a0:w1.cell? ⟨w.heap.size,0,none⟩=some (.int .i64 2):=Fx.cell 0;have a1:w1.cell? ⟨w.heap.size,1,none⟩=some (.int .i64 2):=Fx.cell 1)
 |(cases iH;have a0:w1.cell? ⟨w.heap.size,0,none⟩=some (.int .i64 2):=Fx.cell 0;have a1:w1.cell? ⟨w.heap.size,1,none⟩=some (.int .i64 1):=Fx.cell 1)
 |(cases jn;have a0:w1.cell? ⟨w.heap.size,0,none⟩=some (.int .i64 1):=Fx.cell 0;have a1:w1.cell? ⟨w.heap.size,1,none⟩=some (.int .i64 2):=Fx.cell 1)
 |(cases l5;have a0:w1.cell? ⟨w.heap.size,0,none⟩=some (.int .i64 1):=Fx.cell 0;have a1:w1.cell? ⟨w.heap.size,1,none⟩=some (.int .i64 1):=Fx.cell 1)
 |(
  first
  |(cases bl;have a0:w1.cell? ⟨w.heap.size,0,none⟩=some (.int .i64 2):=Fx.cell 0)
  |have a0:w1.cell? ⟨w.heap.size,0,none⟩=some (.int .i64 1):=Fx.cell 0
  have a1:w1.cell? ⟨w.heap.size,1,none⟩=some (.int .i64 3):=Fx.cell 1)
 have a2:w1.cell? ⟨w.heap.size,2,none⟩=some (.int .i64 d):=Fx.cell 2;have a3:w1.cell? ⟨w.heap.size,3,none⟩=some (.int .i64 st):=Fx.cell 3;have al:=Fx.lt;obtain⟨pb,Zg⟩: ∃pb,w1.heap.size=pb:=⟨_,rfl⟩
 have Nk:w.heap.size<pb:=by rw[←Zg];exact al
 clear Rl k1 Fx V5;go_wp2_with fail
 refine(HN.out _).mono ?_;rintro e w2 ⟨rfl,hr,k2⟩;have mo:=Has.aC w1 #[.nilIface,.nilIface,.pointer none,.bool false,.int .i64 0] 143 (n:=pb) Zg.symm;have iP:=mo.keeps k2 (by simp);have V6:=(HH1.out.keeps ((I.refl [] w1).alloc (.cells #[.nilIface,.nilIface,.pointer none,.bool false,.int .i64 0] 143)) (by simp)).keeps k2 (by simp);have UK:=(K1.out.trans ((I.refl [] w1).alloc (.cells #[.nilIface,.nilIface,.pointer none,.bool false,.int .i64 0] 143))).trans k2;have hrb:(w1.alloc (.cells #[.nilIface,.nilIface,.pointer none,.bool false,.int .i64 0] 143)).heap.size=pb+1:=by rw[←Zg];simp
 rw[hrb] at hr⊢;have xt:=hid iP;have V7:=hid hr;have K2:=hid UK;have HRB:=hid hrb;have mT:=hid Zg;first
 |(cases mS;have b1:w2.cell? ⟨w.heap.size,1,none⟩=some (.int .i64 3):=V6.cell 1)
 |((first|cases eW|cases jn);have b1:w2.cell? ⟨w.heap.size,1,none⟩=some (.int .i64 2):=V6.cell 1)
 |have b1:w2.cell? ⟨w.heap.size,1,none⟩=some (.int .i64 1):=V6.cell 1
 have b3:w2.cell? ⟨w.heap.size,3,none⟩=some (.int .i64 st):=V6.cell 3;have p0:w2.cell? ⟨pb,0,none⟩=some .nilIface:=iP.cell 0;have p1:w2.cell? ⟨pb,1,none⟩=some .nilIface:=iP.cell 1;have p2:w2.cell? ⟨pb,2,none⟩=some (.pointer none):=iP.cell 2;have pf0:=iP.free 0;have pf1:=iP.free 1;have pf2:=iP.free 2;have pl:=iP.lt;have al2:=V6.lt;have fX:pb≠w.heap.size:=by omega
 have FH:w.heap.size≠pb:=by omega
 obtain⟨rb,V8⟩: ∃rb,pb+1=rb:=⟨_,rfl⟩
 rw[V8] at V7⊢;obtain⟨ob,Zh⟩: ∃ob,w2.heap.size=ob:=⟨_,rfl⟩
 have hpo:pb<ob:=by rw[←Zh];exact pl
 have hwo:w.heap.size<ob:=by omega
 have Sf:=hid Zh;have mW:=hid V8;clear mo iP V6 UK hrb hr k2 a0 a1 a2 a3 al Zg V8;go_wp2_with fail
 first
 |(
  cases mS;first
  |(cases bl;have HSN:=Ja st ((w2.setCell ⟨pb,0,none⟩ (.iface 150 (.pointer (some ⟨rb,0,none⟩)))).alloc (.cells #[.slice none 0 0,.bool false] 170)))
  |have HSN:=Ja st ((w2.setCell ⟨pb,0,none⟩ (.iface 144 (.pointer (some ⟨rb,0,none⟩)))).alloc (.cells #[.slice none 0 0,.bool false] 170))
  refine HSN.mono ?_;rintro e w3 ⟨rfl,Fv,k3⟩;first
  |(cases bl;have V9:((w2.setCell ⟨pb,0,none⟩ (.iface 150 (.pointer (some ⟨rb,0,none⟩)))).alloc (.cells #[.slice none 0 0,.bool false] 170)).heap.size=ob+1:=by rw[←Sf.out];simp[World.setCell])
  |have V9:((w2.setCell ⟨pb,0,none⟩ (.iface 144 (.pointer (some ⟨rb,0,none⟩)))).alloc (.cells #[.slice none 0 0,.bool false] 170)).heap.size=ob+1:=by rw[←Sf.out];simp[World.setCell]
  rw[V9] at Fv⊢;first
  |(cases bl;have oH:=(((xt.out.set 0 (.iface 150 (.pointer (some ⟨rb,0,none⟩)))).alloc (.cells #[.slice none 0 0,.bool false] 170)).keeps k3 (by simp)).conv (cs':=[(.iface 150 (.pointer (some ⟨rb,0,none⟩))),.nilIface,.pointer none,.bool false,.int .i64 0]) rfl)
  |have oH:=(((xt.out.set 0 (.iface 144 (.pointer (some ⟨rb,0,none⟩)))).alloc (.cells #[.slice none 0 0,.bool false] 170)).keeps k3 (by simp)).conv (cs':=[(.iface 144 (.pointer (some ⟨rb,0,none⟩))),.nilIface,.pointer none,.bool false,.int .i64 0]) rfl
  first
  |(cases bl;have Yw:=(Has.aC (w2.setCell ⟨pb,0,none⟩ (.iface 150 (.pointer (some ⟨rb,0,none⟩)))) #[.slice none 0 0,.bool false] 170 (n:=ob) (by rw[←Sf.out];simp[World.setCell])).keeps k3 (by simp))
  |have Yw:=(Has.aC (w2.setCell ⟨pb,0,none⟩ (.iface 144 (.pointer (some ⟨rb,0,none⟩)))) #[.slice none 0 0,.bool false] 170 (n:=ob) (by rw[←Sf.out];simp[World.setCell])).keeps k3 (by simp)
  have kw:I [pb] w2 w3:=(((I.refl [pb] w2).ax _).alloc _).trans (k3.mono (by simp));have Sg:min (max st 0) 2000=st:=by have:=HS.out;omega
  rw[Sg] at Fv;have p1:w3.cell? ⟨pb,1,none⟩=some .nilIface:=oH.cell 1;have p2:w3.cell? ⟨pb,2,none⟩=some (.pointer none):=oH.cell 2;have pf1:=oH.free 1;have pf2:=oH.free 2;have pl3:=oH.lt;have Yx:=hid oH;have Zi:=hid Yw;have KW:=hid kw;have Cc:=hid Fv;clear oH Yw kw Fv k3 V9 Sg p0 pf0 pl b1 b3 HSN;go_wp2_with fail)
 |skip
 go_ret;first
 |(
  cases eW;have MY:=(((xt.out.set 0 (.iface 150 (.pointer (some ⟨rb,0,none⟩)))).set 1 (.iface 163 (.pointer (some ⟨ob,0,none⟩)))).alloc (.cells #[.slice none 0 0,.bool false] 166)).conv (cs':=[(.iface 150 (.pointer (some ⟨rb,0,none⟩))),(.iface 163 (.pointer (some ⟨ob,0,none⟩))),.pointer none,.bool false,.int .i64 0]) rfl
  have UL:=Has.aC ((w2.setCell ⟨pb,0,none⟩ (.iface 150 (.pointer (some ⟨rb,0,none⟩)))).setCell ⟨pb,1,none⟩ (.iface 163 (.pointer (some ⟨ob,0,none⟩)))) #[.slice none 0 0,.bool false] 166 (n:=ob) (by rw[←Sf.out];simp[World.setCell]);have jV:I [pb] w2 (((w2.setCell ⟨pb,0,none⟩ (.iface 150 (.pointer (some ⟨rb,0,none⟩)))).setCell ⟨pb,1,none⟩ (.iface 163 (.pointer (some ⟨ob,0,none⟩)))).alloc (.cells #[.slice none 0 0,.bool false] 166)):=(((I.refl [pb] w2).ax _).ax _).alloc _;have Cg:jt (((w2.setCell ⟨pb,0,none⟩ (.iface 150 (.pointer (some ⟨rb,0,none⟩)))).setCell ⟨pb,1,none⟩ (.iface 163 (.pointer (some ⟨ob,0,none⟩)))).alloc (.cells #[.slice none 0 0,.bool false] 166)) w.heap.size (ob+1) (.slice none 0 0) (.slice none 0 0) none:=trivial;have lq:=V7.out;have oG:zq w2 w.heap.size rb (.slice none 0 0) (.slice none 0 0) (Cb.new d):=⟨lq.az,jL lq.bu (by have:=mW.out;omega),jL lq.s (by have:=mW.out;omega),lq.bo,lq.bs,lq.os⟩
  have Nu:rb<w2.heap.size:=oG.az.lt;have pj:yq 0 w2 w.heap.size rb [rb] (.cb (Cb.new d)):=⟨_,_,⟨oG,Cb.eS HD.out,⟨by decide,by decide⟩,by have:=mW.out;omega⟩,by simp[cz,aR],fun i hi=>by rw[List.mem_singleton] at hi;have:=mW.out;omega⟩
  have Yy:aw.new ⟨2,2,d,st,li⟩=⟨.cb (Cb.new d),.cb Wr.new,none,false,0⟩:=rfl)
 |(
  cases iH;have MY:=(((xt.out.set 0 (.iface 150 (.pointer (some ⟨rb,0,none⟩)))).set 1 (.iface 159 (.pointer (some ⟨ob,0,none⟩)))).alloc (.cells #[.slice none 0 0,.bool false] 162)).conv (cs':=[(.iface 150 (.pointer (some ⟨rb,0,none⟩))),(.iface 159 (.pointer (some ⟨ob,0,none⟩))),.pointer none,.bool false,.int .i64 0]) rfl
  have UL:=Has.aC ((w2.setCell ⟨pb,0,none⟩ (.iface 150 (.pointer (some ⟨rb,0,none⟩)))).setCell ⟨pb,1,none⟩ (.iface 159 (.pointer (some ⟨ob,0,none⟩)))) #[.slice none 0 0,.bool false] 162 (n:=ob) (by rw[←Sf.out];simp[World.setCell]);have jV:I [pb] w2 (((w2.setCell ⟨pb,0,none⟩ (.iface 150 (.pointer (some ⟨rb,0,none⟩)))).setCell ⟨pb,1,none⟩ (.iface 159 (.pointer (some ⟨ob,0,none⟩)))).alloc (.cells #[.slice none 0 0,.bool false] 162)):=(((I.refl [pb] w2).ax _).ax _).alloc _;have Cg:jt (((w2.setCell ⟨pb,0,none⟩ (.iface 150 (.pointer (some ⟨rb,0,none⟩)))).setCell ⟨pb,1,none⟩ (.iface 159 (.pointer (some ⟨ob,0,none⟩)))).alloc (.cells #[.slice none 0 0,.bool false] 162)) w.heap.size (ob+1) (.slice none 0 0) (.slice none 0 0) none:=trivial;have lq:=V7.out;have oG:zq w2 w.heap.size rb (.slice none 0 0) (.slice none 0 0) (Cb.new d):=⟨lq.az,jL lq.bu (by have:=mW.out;omega),jL lq.s (by have:=mW.out;omega),lq.bo,lq.bs,lq.os⟩
  have Nu:rb<w2.heap.size:=oG.az.lt;have pj:yq 0 w2 w.heap.size rb [rb] (.cb (Cb.new d)):=⟨_,_,⟨oG,Cb.eS HD.out,⟨by decide,by decide⟩,by have:=mW.out;omega⟩,by simp[cz,aR],fun i hi=>by rw[List.mem_singleton] at hi;have:=mW.out;omega⟩
  have Yy:aw.new ⟨2,1,d,st,li⟩=⟨.cb (Cb.new d),.js Wr.new,none,false,0⟩:=rfl)
 |(
  cases jn;have MY:=(((xt.out.set 0 (.iface 144 (.pointer (some ⟨rb,0,none⟩)))).set 1 (.iface 163 (.pointer (some ⟨ob,0,none⟩)))).alloc (.cells #[.slice none 0 0,.bool false] 166)).conv (cs':=[(.iface 144 (.pointer (some ⟨rb,0,none⟩))),(.iface 163 (.pointer (some ⟨ob,0,none⟩))),.pointer none,.bool false,.int .i64 0]) rfl
  have UL:=Has.aC ((w2.setCell ⟨pb,0,none⟩ (.iface 144 (.pointer (some ⟨rb,0,none⟩)))).setCell ⟨pb,1,none⟩ (.iface 163 (.pointer (some ⟨ob,0,none⟩)))) #[.slice none 0 0,.bool false] 166 (n:=ob) (by rw[←Sf.out];simp[World.setCell]);have jV:I [pb] w2 (((w2.setCell ⟨pb,0,none⟩ (.iface 144 (.pointer (some ⟨rb,0,none⟩)))).setCell ⟨pb,1,none⟩ (.iface 163 (.pointer (some ⟨ob,0,none⟩)))).alloc (.cells #[.slice none 0 0,.bool false] 166)):=(((I.refl [pb] w2).ax _).ax _).alloc _;have Cg:jt (((w2.setCell ⟨pb,0,none⟩ (.iface 144 (.pointer (some ⟨rb,0,none⟩)))).setCell ⟨pb,1,none⟩ (.iface 163 (.pointer (some ⟨ob,0,none⟩)))).alloc (.cells #[.slice none 0 0,.bool false] 166)) w.heap.size (ob+1) (.slice none 0 0) (.slice none 0 0) none:=trivial;have oG:dr w2 w.heap.size rb (.slice none 0 0) (Js.new d) [rb]:=dr.Wa V7.out (by have:=mW.out;omega);have Nu:rb<w2.heap.size:=oG.lex.1.2 rb (List.mem_singleton.2 rfl);have pj:yq 0 w2 w.heap.size rb [rb] (.js (Js.new d)):=⟨_,_,oG,⟨Js.eS HD.out,by simp[Js.new,Lex.new]⟩,by simp[aR],fun i hi=>by rw[List.mem_singleton] at hi;have:=mW.out;omega⟩
  have Yy:aw.new ⟨1,2,d,st,li⟩=⟨.js (Js.new d),.cb Wr.new,none,false,0⟩:=rfl)
 |(
  cases l5;have MY:=(((xt.out.set 0 (.iface 144 (.pointer (some ⟨rb,0,none⟩)))).set 1 (.iface 159 (.pointer (some ⟨ob,0,none⟩)))).alloc (.cells #[.slice none 0 0,.bool false] 162)).conv (cs':=[(.iface 144 (.pointer (some ⟨rb,0,none⟩))),(.iface 159 (.pointer (some ⟨ob,0,none⟩))),.pointer none,.bool false,.int .i64 0]) rfl
  have UL:=Has.aC ((w2.setCell ⟨pb,0,none⟩ (.iface 144 (.pointer (some ⟨rb,0,none⟩)))).setCell ⟨pb,1,none⟩ (.iface 159 (.pointer (some ⟨ob,0,none⟩)))) #[.slice none 0 0,.bool false] 162 (n:=ob) (by rw[←Sf.out];simp[World.setCell]);have jV:I [pb] w2 (((w2.setCell ⟨pb,0,none⟩ (.iface 144 (.pointer (some ⟨rb,0,none⟩)))).setCell ⟨pb,1,none⟩ (.iface 159 (.pointer (some ⟨ob,0,none⟩)))).alloc (.cells #[.slice none 0 0,.bool false] 162)):=(((I.refl [pb] w2).ax _).ax _).alloc _;have Cg:jt (((w2.setCell ⟨pb,0,none⟩ (.iface 144 (.pointer (some ⟨rb,0,none⟩)))).setCell ⟨pb,1,none⟩ (.iface 159 (.pointer (some ⟨ob,0,none⟩)))).alloc (.cells #[.slice none 0 0,.bool false] 162)) w.heap.size (ob+1) (.slice none 0 0) (.slice none 0 0) none:=trivial;have oG:dr w2 w.heap.size rb (.slice none 0 0) (Js.new d) [rb]:=dr.Wa V7.out (by have:=mW.out;omega);have Nu:rb<w2.heap.size:=oG.lex.1.2 rb (List.mem_singleton.2 rfl);have pj:yq 0 w2 w.heap.size rb [rb] (.js (Js.new d)):=⟨_,_,oG,⟨Js.eS HD.out,by simp[Js.new,Lex.new]⟩,by simp[aR],fun i hi=>by rw[List.mem_singleton] at hi;have:=mW.out;omega⟩
  have Yy:aw.new ⟨1,1,d,st,li⟩=⟨.js (Js.new d),.js Wr.new,none,false,0⟩:=rfl)
 |(
  first
  |(cases bl;have MY:=((Yx.out.set 1 (.iface 167 (.pointer (some ⟨ob,0,none⟩)))).set 2 (.pointer (some ⟨ob+1,0,none⟩))).conv (cs':=[(.iface 150 (.pointer (some ⟨rb,0,none⟩))),(.iface 167 (.pointer (some ⟨ob,0,none⟩))),.pointer (some ⟨ob+1,0,none⟩),.bool false,.int .i64 0]) rfl)
  |have MY:=((Yx.out.set 1 (.iface 167 (.pointer (some ⟨ob,0,none⟩)))).set 2 (.pointer (some ⟨ob+1,0,none⟩))).conv (cs':=[(.iface 144 (.pointer (some ⟨rb,0,none⟩))),(.iface 167 (.pointer (some ⟨ob,0,none⟩))),.pointer (some ⟨ob+1,0,none⟩),.bool false,.int .i64 0]) rfl
  have ke:I [pb] w3 ((w3.setCell ⟨pb,1,none⟩ (.iface 167 (.pointer (some ⟨ob,0,none⟩)))).setCell ⟨pb,2,none⟩ (.pointer (some ⟨ob+1,0,none⟩))):=((I.refl [pb] w3).ax _).ax _;have UL:=Zi.out.keeps ke (by simp;omega);have yr:=Cc.out.keeps ke (by simp;omega) (by simp[aR]) (by simp[aR]);have jV:=KW.out.trans ke;have Cg:jt ((w3.setCell ⟨pb,1,none⟩ (.iface 167 (.pointer (some ⟨ob,0,none⟩)))).setCell ⟨pb,2,none⟩ (.pointer (some ⟨ob+1,0,none⟩))) w.heap.size (ob+1) (.slice none 0 0) (.slice none 0 0) (some (St.new st)):=⟨⟨yr.az,jL yr.held (by omega),jL yr.bu (by omega),yr.bh,yr.bo,yr.ho⟩,eS HS.out⟩
  first
  |(
   cases bl;have lq:=V7.out;have oG:zq w2 w.heap.size rb (.slice none 0 0) (.slice none 0 0) (Cb.new d):=⟨lq.az,jL lq.bu (by have:=mW.out;omega),jL lq.s (by have:=mW.out;omega),lq.bo,lq.bs,lq.os⟩
   have Nu:rb<w2.heap.size:=oG.az.lt;have pj:yq 0 w2 w.heap.size rb [rb] (.cb (Cb.new d)):=⟨_,_,⟨oG,Cb.eS HD.out,⟨by decide,by decide⟩,by have:=mW.out;omega⟩,by simp[cz,aR],fun i hi=>by rw[List.mem_singleton] at hi;have:=mW.out;omega⟩
   have Yy:aw.new ⟨2,3,d,st,li⟩=⟨.cb (Cb.new d),.pk Wr.new,(some (St.new st)),false,0⟩:=rfl)
  |(
   have oG:dr w2 w.heap.size rb (.slice none 0 0) (Js.new d) [rb]:=dr.Wa V7.out (by have:=mW.out;omega);have Nu:rb<w2.heap.size:=oG.lex.1.2 rb (List.mem_singleton.2 rfl);have pj:yq 0 w2 w.heap.size rb [rb] (.js (Js.new d)):=⟨_,_,oG,⟨Js.eS HD.out,by simp[Js.new,Lex.new]⟩,by simp[aR],fun i hi=>by rw[List.mem_singleton] at hi;have:=mW.out;omega⟩
   have Yy:aw.new ⟨1,3,d,st,li⟩=⟨.js (Js.new d),.pk Wr.new,(some (St.new st)),false,0⟩:=rfl))
 unfold lJ;rw[Yy];have ajL:=mW.out;have ajM:rb<ob:=by have:=Sf.out;omega
 first
 |(
  cases jn;have Nv:cJ pb ob (ob+1) (.slice none 0 0) (.slice none 0 0) (.slice none 0 0) none= [pb,ob]:=by simp[cJ,fh,gP,bM,aR]
  refine⟨pb,_,rfl,⟨ob,ob+1,rb,.slice none 0 0,.slice none 0 0,.slice none 0 0,[rb],⟨MY,(⟨UL,ai.nil _ _ _,by simp[aR]⟩:eR _ w.heap.size ob (.slice none 0 0) Wr.new),Cg,(HT.out.keeps K2.out (by simp)).keeps jV (fun i hi=>by rw[List.mem_singleton] at hi;have:=HB.out;omega),⟨HB.out,by omega,by omega,by omega⟩⟩,pj.keeps jV (fun i hi hm=>by rw[List.mem_singleton] at hi hm;omega),fun i hi hm=> ?_,rfl,Nat.le_trans K2.out.size jV.size⟩,fun i hi=> ?_,K2.out.trans' jV (fun i hi=>inr (by rw[List.mem_singleton] at hi;omega))⟩)
 |(
  (first|cases iH|cases l5)
  have Nv:cJ pb ob (ob+1) (.slice none 0 0) (.slice none 0 0) (.slice none 0 0) none= [pb,ob]:=by simp[cJ,fh,gP,bM,aR]
  refine⟨pb,_,rfl,⟨ob,ob+1,rb,.slice none 0 0,.slice none 0 0,.slice none 0 0,[rb],⟨MY,(⟨UL,bE.nil _ _,by simp[aR]⟩:cV _ w.heap.size ob (.slice none 0 0) Wr.new),Cg,(HT.out.keeps K2.out (by simp)).keeps jV (fun i hi=>by rw[List.mem_singleton] at hi;have:=HB.out;omega),⟨HB.out,by omega,by omega,by omega⟩⟩,pj.keeps jV (fun i hi hm=>by rw[List.mem_singleton] at hi hm;omega),fun i hi hm=> ?_,rfl,Nat.le_trans K2.out.size jV.size⟩,fun i hi=> ?_,K2.out.trans' jV (fun i hi=>inr (by rw[List.mem_singleton] at hi;omega))⟩)
 |(
  first
  |(cases eW;have Nv:cJ pb ob (ob+1) (.slice none 0 0) (.slice none 0 0) (.slice none 0 0) none= [pb,ob]:=by simp[cJ,fh,gP,bM,aR])
  |have Nv:cJ pb ob (ob+1) (.slice none 0 0) (.slice none 0 0) (.slice none 0 0) (some (St.new st))= [pb,ob,ob+1]:=by simp[cJ,fh,gP,bM,aR]
  first
  |(cases eW;refine⟨pb,_,rfl,⟨ob,ob+1,rb,.slice none 0 0,.slice none 0 0,.slice none 0 0,[rb],⟨MY,(⟨UL,ai.nil _ _ _,by simp[aR]⟩:eR _ w.heap.size ob (.slice none 0 0) Wr.new),Cg,(HT.out.keeps K2.out (by simp)).keeps jV (fun i hi=>by rw[List.mem_singleton] at hi;have:=HB.out;omega),⟨HB.out,by omega,by omega,by omega⟩⟩,pj.keeps jV (fun i hi hm=>by rw[List.mem_singleton] at hi hm;omega),fun i hi hm=> ?_,rfl,Nat.le_trans K2.out.size jV.size⟩,fun i hi=> ?_,K2.out.trans' jV (fun i hi=>inr (by rw[List.mem_singleton] at hi;omega))⟩)
  |refine⟨pb,_,rfl,⟨ob,ob+1,rb,.slice none 0 0,.slice none 0 0,.slice none 0 0,[rb],⟨MY,(⟨UL,ai.nil _ _ _,by simp[aR]⟩:ff _ w.heap.size ob (.slice none 0 0) Wr.new),Cg,(HT.out.keeps K2.out (by simp)).keeps jV (fun i hi=>by rw[List.mem_singleton] at hi;have:=HB.out;omega),⟨HB.out,by omega,by omega,by omega⟩⟩,pj.keeps jV (fun i hi hm=>by rw[List.mem_singleton] at hi hm;omega),fun i hi hm=> ?_,rfl,Nat.le_trans K2.out.size jV.size⟩,fun i hi=> ?_,K2.out.trans' jV (fun i hi=>inr (by rw[List.mem_singleton] at hi;omega))⟩)
 ·rw[List.mem_singleton] at hi;rw[Nv] at hm;simp at hm;omega
 ·rw[Nv] at hi;simp at hi;omega):p:=h
theorem q7 {p:Prop} (h:p:=by
 first
 |(
  cases bl;have h7:p.kind≠7:=by intro e;simp[bQ,e] at xi
  have hs:s.step p=([],(St.hold {s with open_:=⟨s.held.length,0⟩::fC (c::r)} p).e,St.hold {s with open_:=⟨s.held.length,0⟩::fC (c::r)} p):=by unfold St.step;rw[if_neg (by simp[he]),jW];simp only[];rw[if_neg h7,if_pos xi])
 |(
  cases lD;have hs:s.step p=([],(St.hold {s with open_:=fC (c::r)} p).e,St.hold {s with open_:=fC (c::r)} p):=by unfold St.step;rw[if_neg (by simp[he]),jW];simp only[];rw[if_neg h7,xi];rfl)
 |have hs:s.step p=s.close c r:=by unfold St.step;rw[if_neg (by simp[he]),jW];simp only[];rw[if_pos h7]
 rw[hs];clear hs;have fj:=h.bu;rw[jW] at fj;obtain⟨og,mX,rfl,ob,ol,orr,om,oc1,oc2,of⟩:=cG.some_ fj;have hc:=hf.opens c (by rw[jW];exact ms);have Yz:r.length+1≤2000:=by have h8:=hf.cnt;have:=hf.size;have:=hf.lK;rw[jW] at h8;simp only[List.length_cons] at h8;omega
 have ajO:((r.length:Int)+1==0)=false:=beq_eq_false_iff_ne.2 (by omega);first
 |(cases eW)
 |(
  have ajP:0≤c.parts:=hc.2.1;have ajQ:c.parts≤2000:=by have:=hc.2.2;have:=hf.size;have:=hf.lK;omega
  have hlen:s.held.length≤2000:=by have:=hf.size;have:=hf.lK;omega)
 unfold maxLen at om;first
 |(cases eW)
 |clear hc
 clear fj;obtain⟨m,n,tb,tc,pJ⟩:=rM hp;have eI:=fun W=>aK p hp W;obtain⟨pv,oU⟩: ∃pv,p.part=pv:=⟨_,rfl⟩
 rw[oU] at eI tb tc⊢;have fX:(s.e != 0)=false:=by simpa using he
 obtain⟨g0,g1,g2,g3,g4⟩:=cC h.az;have H:=hid h;have cL:=hid eI;have Rm:=hid oU;have HE:=hid he;have HF:=hid hf;have Jb:=hid jW;clear h eI oU he hf jW;first
 |(cases eW;have xi:bQ p=false:=by simp[bQ,h7])
 |skip
 rw[xi] at tb;first
 |(cases eW;simp only[h7,decide_true] at tc)
 |simp only[h7,decide_false] at tc
 clear xi h7 pJ;go_enter func109,ntmps109;go_wp2_with fail
 refine(cL.out _).mono ?_;rintro e w1 ⟨rfl,k1⟩;have nH:=hid (H.out.aI k1);have K1:=hid k1;have gv:=k1.size;obtain⟨g0,g1,g2,g3,g4⟩:=cC nH.out.az;obtain⟨f0,f1,f2,f3,f4⟩:=eu nH.out.az;have Sh:=nH.out.ks;first
 |(cases eW)
 |(
  have Nw:=nH.out.bu;rw[Jb.out] at Nw;obtain⟨og',agI,e1,_,ol1,_,_,oc1,oc2,of1⟩:=cG.some_ Nw;simp only[Value.slice.injEq,Option.some.injEq,Addr.mk.injEq,and_true,true_and] at e1;obtain⟨rfl,rfl⟩:=e1;have ofz:=of1 (r.length*2+1);have rN:b<w1.heap.size+1:=by omega
  have Kh:b<w1.heap.size+1+1:=by omega
  have ol2:og<w1.heap.size+1:=by omega
  have ol3:og<w1.heap.size+1+1:=by omega
  clear of1 Nw)
 clear k1;simp only[Ev.val,Ev.cells];go_wp2_with fail
 first
 |(
  cases eW;refine(Ki s c r Jb.out _ base b _ _ (nH.out.aI (((I.refl [] _).alloc _).alloc _ |>.alloc _)) HF.out HE.out (Nat.le_trans ak (((K1.out.alloc _).alloc _).alloc _).size)).mono ?_;rintro e w2 ⟨v2,rfl,au,aM⟩;have cO:=hid au;have Kj:=hid aM;clear au aM;go_wp2_with fail
  go_ret2;exact⟨_,rfl,cO.out,fK.trans ((((K1.out.alloc _).alloc _).alloc _).mono (by simp)) (fun i hi=>inl hi) Kj.out⟩)
 |(
  have HX:=hid ((dR.fC nH.out Jb.out).aI (((I.refl [] _).alloc (.cells #[.int .i64 p.kind,.bool p.yes,.int .u64 p.jM,.string p.text,.int .i64 p.count] 34)).alloc (.cells #[.bool m,.int .i64 n] 215) |>.alloc (.cells #[] 218)));have KX:=hid (((((K1.out.mono (by simp)).setCell (F:=bM b hv (.slice (some ⟨og,0,none⟩) (r.length+1) mX)) (p:=⟨og,r.length*2+1,none⟩) (inl (List.mem_cons_of_mem _ (List.mem_append_right _ (by rw[aa];rfl)))) (.int .i64 (c.parts+1))).alloc (.cells #[.int .i64 p.kind,.bool p.yes,.int .u64 p.jM,.string p.text,.int .i64 p.count] 34)).alloc (.cells #[.bool m,.int .i64 n] 215)).alloc (.cells #[] 218));first
  |(
   cases bl;have SX:=hid (fun(i:Nat) (hi:i∈bM b hv (.slice (some ⟨og,0,none⟩) (r.length+1) mX))=>(inl hi:i∈bM b hv (.slice (some ⟨og,0,none⟩) (r.length+1) mX)∨w.heap.size≤i));obtain⟨UM,Nx,rfl⟩:=HX.out.held.shape;obtain⟨g0,g1,g2,g3,g4⟩:=cC HX.out.az;obtain⟨f0,f1,f2,f3,f4⟩:=eu HX.out.az;have adj:=HX.out.ks;have Wb:=KX.out.size;go_region_law (rw[if_pos (by rfl)];refine pn _ _ rfl base _ (fC (c::r)) rfl (ab HX.out.bu (((I.refl [] _).drew).alloc _) (by simp)) ⟨_,0,none⟩ ⟨s.held.length,0⟩ rfl (aA (mq.cells ⟨s.held.length,0⟩) (by simp)) (by rw[Ny];simp only[List.length_cons];omega) (Nat.le_trans ak ((KX.out.drew).alloc _).size) ?_;intro v9 w9 kR xu Si;obtain⟨o9,c9,Zj⟩:=kR.shape;subst Zj;have eH:=dR.Jc HX.out kR ((((I.refl _ _).drew).alloc _).trans xu) (Si.imp id (fun h=>⟨_,h,by simp⟩));have h9:=((HX.out.az.drew).alloc _).keeps xu HX.out.bo;obtain⟨g0,g1,g2,g3,g4⟩:=cC h9;obtain⟨f0,f1,f2,f3,f4⟩:=eu h9;have qy:=hid eH;clear eH h9 kR xu Si)
   all_goals
    have HX2:=hid qy.out.1;have Zk:=hid (KX.out.trans' qy.out.2.1 (by simpa using SX.out));have SX2:=hid (fun i hi=>(qy.out.2.2 i hi).elim (fun h=>SX.out i h) (fun h=>inr (Nat.le_trans Wb h)));clear qy g0 g1 g2 g3 g4 f0 f1 f2 f3 f4;go_wp2_with fail
    have gw:=mz {s with open_:=⟨s.held.length,0⟩::fC (c::r)} p hp lL _ base b _ _ HX2.out ⟨HE.out,by have:=HF.out.size;have:=HF.out.lK;simp only[];omega,HF.out.lK,by simp only[];omega,Nat.le_trans ak Zk.out.size⟩;rw[Rm.out] at gw;refine gw.mono ?_;clear gw;rintro e w5 ⟨rfl,aM⟩;have Kj:=hid aM;clear aM;go_wp2_with fail
    go_ret2;exact⟨_,rfl,aP.nil _ _,fK.trans Zk.out SX2.out Kj.out⟩)
  |(
   have gw:=mz {s with open_:=fC (c::r)} p hp lL _ base b _ _ HX.out ⟨HE.out,by have:=HF.out.size;have:=HF.out.lK;simp only[];omega,HF.out.lK,by simp only[];omega,Nat.le_trans ak KX.out.size⟩;rw[Rm.out] at gw;refine gw.mono ?_;clear gw;rintro e w5 ⟨rfl,aM⟩;have Kj:=hid aM;clear aM;go_wp2_with fail
   go_ret2;exact⟨_,rfl,aP.nil _ _,fK.trans KX.out (fun i hi=>inl hi) Kj.out⟩))):p:=h
theorem q8 {p:Prop} (h:p:=by
 have HM:=hid (fun W=>kr aL (inl (by decide)) W);obtain⟨g,cap,rfl,gb,gl,gr,gm,-,-,-,-⟩:=h.bu.some_;simp only[Ev.val,Ev.cells,aL,aY] at*;obtain⟨lq,oG⟩:=hr;have h1:(to==1)=false:=by rcases pe with rfl|rfl<;>decide
 have mx:(to != 1)=true:=by rcases pe with rfl|rfl<;>decide
 first
 |(cases bl;have xp:(2*cc).tmod 2=0:=by rw[Int.tmod_eq_emod_of_nonneg (by omega)];omega)
 |skip
 have R7:((s.length:Int)+1==0)=false:=by simp;omega
 have gq:((s.length:Int)+1==1)=s.isEmpty:=by
  cases s with
  |nil=>rfl
  |cons x r=>simp;omega
 have Nz: ¬cc<0:=by omega
 have H:=hid h;have HB:=hid ak;have bP:=h.az.lt;unfold maxLen at gm;clear h pe ak;go_enter func6,ntmps6;have aJ:=Has.aC w #[.int .i64 7,.bool false,.int .u64 0,.string ⟨#[]⟩,.int .i64 0] 34 rfl;have k0:=(I.refl [] w).alloc (.cells #[.int .i64 7,.bool false,.int .u64 0,.string ⟨#[]⟩,.int .i64 0] 34);obtain⟨w1,xq⟩: ∃w1,w.alloc (.cells #[.int .i64 7,.bool false,.int .u64 0,.string ⟨#[]⟩,.int .i64 0] 34)=w1:=⟨_,rfl⟩
 have H1:=hid (H.out.keeps (k0) (by simp) (by simp));rw[xq] at aJ k0 H1;obtain⟨g0,g1,g2⟩:=H1.out.cells;have e0:w1.cell? ⟨w.heap.size,0,none⟩=some (.int .i64 7):=aJ.cell 0;have e1:w1.cell? ⟨w.heap.size,1,none⟩=some (.bool false):=aJ.cell 1;have e2:w1.cell? ⟨w.heap.size,2,none⟩=some (.int .u64 0):=aJ.cell 2;have e3:w1.cell? ⟨w.heap.size,3,none⟩=some (.string ⟨#[]⟩):=aJ.cell 3;have e4:w1.cell? ⟨w.heap.size,4,none⟩=some (.int .i64 0):=aJ.cell 4;have K0:=hid k0;have HN:=hid aJ;clear aJ k0;go_wp2_with fail
 refine(HM.out _).mono ?_;rintro e w2 ⟨rfl,k2⟩;have H2:=hid (H1.out.keeps k2 (by simp) (by simp));have aJ:=HN.out.keeps k2 (by simp);have K2:=hid (K0.out.trans k2);clear g0 g1 g2 e0 e1 e2 e3 e4 xq;obtain⟨g0,g1,g2⟩:=H2.out.cells;obtain⟨g',fB,he,-,l8,-,-,q0,q1,q2,-⟩:=ai.some_ H2.out.bu;simp only[Value.slice.injEq,Option.some.injEq,Addr.mk.injEq,and_true,true_and] at he;obtain⟨rfl,rfl⟩:=he;have e0:w2.cell? ⟨w.heap.size,0,none⟩=some (.int .i64 7):=aJ.cell 0;have e1:w2.cell? ⟨w.heap.size,1,none⟩=some (.bool false):=aJ.cell 1;have e2:w2.cell? ⟨w.heap.size,2,none⟩=some (.int .u64 0):=aJ.cell 2;have e3:w2.cell? ⟨w.heap.size,3,none⟩=some (.string ⟨#[]⟩):=aJ.cell 3;have e4:w2.cell? ⟨w.heap.size,4,none⟩=some (.int .i64 0):=aJ.cell 4;have fT:=H2.out.az.lt;have um:w.heap.size<w2.heap.size:=aJ.lt;first
 |(cases bl;have k3:=(I.refl [] w2).alloc (.cells #[.bool true,.int .i64 cc,.int .i64 (2*cc)] 61))
 |have k3:=(I.refl [] w2).alloc (.cells #[.bool false,.int .i64 cc,.int .i64 (cc)] 61)
 first
 |(cases bl;obtain⟨w3,jN⟩: ∃w3,w2.alloc (.cells #[.bool true,.int .i64 cc,.int .i64 (2*cc)] 61)=w3:=⟨_,rfl⟩)
 |obtain⟨w3,jN⟩: ∃w3,w2.alloc (.cells #[.bool false,.int .i64 cc,.int .i64 (cc)] 61)=w3:=⟨_,rfl⟩
 rw[jN] at k3;have H3:=hid (H2.out.keeps k3 (by simp) (by simp));have K3:=hid (K2.out.trans k3);have HW3:=hid jN;have jx:base≤w3.heap.size:=Nat.le_trans HB.out K3.out.size;have Fu:w2.heap.size<w3.heap.size:=by rw[←jN];simp
 first
 |(cases bl;have b7:w3.cell? ⟨w2.heap.size,1,none⟩=some (.int .i64 cc):=by rw[←jN];exact(Has.aC w2 #[.bool true,.int .i64 cc,.int .i64 (2*cc)] 61 rfl).cell 1)
 |have b7:w3.cell? ⟨w2.heap.size,1,none⟩=some (.int .i64 cc):=by rw[←jN];exact(Has.aC w2 #[.bool false,.int .i64 cc,.int .i64 (cc)] 61 rfl).cell 1
 first
 |(cases bl;have b70:w3.cell? ⟨w2.heap.size,0,none⟩=some (.bool true):=by rw[←jN];exact(Has.aC w2 #[.bool true,.int .i64 cc,.int .i64 (2*cc)] 61 rfl).cell 0)
 |have b70:w3.cell? ⟨w2.heap.size,0,none⟩=some (.bool false):=by rw[←jN];exact(Has.aC w2 #[.bool false,.int .i64 cc,.int .i64 (cc)] 61 rfl).cell 0
 have ajR:w2.heap.size≠b:=by omega
 have agL:b≠w2.heap.size:=by omega
 clear aJ k2 K0 HN H1 k3 jN;go_wp2_with (at_builtin;rw[HW3.out];go_must (refine qo rfl _ _ rfl base (.slice none 0 0) [] rfl (ai.nil _ _ _) ⟨g,0,none⟩ s.length cap s rfl rfl ?_ (by simp;omega) jx ?_))
 ·exact World.ownsRow.cells (ai.pop H3.out.bu) (g:=g) rfl
 intro v6 w6 bx lE rH;rw[aR] at lE;try rw[List.append_nil] at bx
 have d7:=lE.cell b7 (by simp);have d70:=lE.cell b70 (by simp);have Sj:=lE.size;obtain⟨o6,c6,rfl⟩:=bx.shape;obtain⟨hW7,K7,hB7,r1,Q9,Ra⟩:=eJ.put H3.out bx lE (fun m hm=>by
  rcases rH with h|h
  ·rw[h] at hm;simp[Value.ownBlock] at hm
  ·rw[h] at hm;simp at hm;omega)
 have r2:=(H3.out.az.keeps lE (by simp)).cell 2;have rf2:=(H3.out.az.keeps lE (by simp)).free 2;have r0:=(H3.out.az.keeps lE (by simp)).cell 0;simp only[List.getElem?_cons_succ,List.getElem?_cons_zero] at r0 r2;have hW8:=hid (eJ.fin hW7 s.isEmpty);have K8:=hid ((K3.out.mono (G:=[b]) (by simp)).trans (K7.trans ((I.refl [b] _).ax (b:=b) (i:=2) (.bool s.isEmpty))));have HB7:=hid (fun i hi=>Nat.le_trans K3.out.size (hB7 i hi));clear bx lE rH hW7 K7 hB7 g0 g1 g2 q0 q1 q2 e0 e1 e2 e3 e4 b7 b70 H3 K3 H2 K2 HW3;go_wp2_with fail
 all_goals go_ret2;refine⟨rfl,_,hW8.out,K8.out.mono m1,fun i hi=>inr (HB7.out i hi)⟩):p:=h
theorem q9 {p:Prop} (h:p:=by
 obtain⟨g23,g24,zr,Kk,dD,ys⟩:=fl h;have H:=hid h;by_cases he:p.e=0
 ·first
  |(
   cases bl;obtain⟨R,hR⟩: ∃R,Js.parts {p with l:=p.l.fin.1} p.l.fin.2 p.l.fin.1.e=R:=⟨_,rfl⟩
   have hs:p.fin=if R.2.e=0∧R.2.next≠6 then(R.1,{R.2 with e:=3}) else R:=by unfold Js.fin;rw[if_neg (by simp[he]),hR])
  |have hs:p.step x=Js.parts {p with l:=(p.l.step x).1} (p.l.step x).2 (p.l.step x).1.e:=by unfold Js.step;rw[if_neg (by simp[he])]
  rw[hs];first
  |(
   cases bl;obtain⟨res,iI⟩: ∃res,(if R.2.e=0∧R.2.next≠6 then(R.1,{R.2 with e:=3}) else R)=res:=⟨_,rfl⟩
   rw[iI];have rO:=hid iI)
  |skip
  rw[he] at Kk;first
  |(
   cases bl;have HL:=hid (Sk base b (rP p mv) 185 p.l F w h.lex hf.l.1);have hlen:=Lex.zt p.l;obtain⟨L',ts,hr⟩: ∃L' ts,p.l.fin=(L',ts):=⟨_,_,rfl⟩
   have UN:L'.Fit∧L'.Sl:=by have h1:=Kl hf.l;rw[hr] at h1;exact h1
   have tM:({p with l:=L'}:Js).Fit:=⟨UN,hf.depth,hf.maps,hf.next,hf.more⟩
   rw[hr] at HL hlen hR)
  |(
   have HL:=hid (NA base b (rP p mv) 185 p.l x F w h.lex jsT hx dE ak hf.l.1);have hlen:=Lex.nQ p.l x;have tM:({p with l:=(p.l.step x).1}:Js).Fit:=⟨⟨Lex.dN hf.l.1 hf.l.2 x,Lex.Ch hf.l.2 x⟩,hf.depth,hf.maps,hf.next,hf.more⟩
   obtain⟨L',ts,hr⟩: ∃L' ts,p.l.step x=(L',ts):=⟨_,_,rfl⟩
   rw[hr] at HL hlen tM⊢)
  obtain⟨le,hle⟩: ∃le,L'.e=le:=⟨_,rfl⟩
  first
  |(cases bl;simp only at hlen hR)
  |simp only at hlen tM⊢
  first
  |(cases bl;rw[hle] at hR)
  |rw[hle]
  have hpa:=fun W mv1 F1 tv B=>Km base b mv1 {p with l:=L'} F1 tv ts B le W;first
  |(cases bl;rw[hR] at hpa)
  |skip
  have HPA:=hid hpa;have rQ:=hid tM;have uK:=hid hlen;have qx:=hid hle;have HPE:=hid he;first
  |(cases bl;clear h hf hs hr he hpa tM hlen hle hR iI UN)
  |clear h hf hs hr he hpa tM hlen hle
  first
  |(cases bl;go_enter func96,ntmps96)
  |go_enter func141,ntmps141
  go_wp2_with fail
  refine HL.out.mono ?_;rintro e w1 ⟨v,F1,rfl,pe,hli,hk,ef,Ci⟩;simp only[qx.out,uq];have hj:=NC H.out hli hk ef;have hta:=xv H.out pe Ci;have hz:=hk.size;have Rn:=HPA.out w1 mv F1 v w.heap.size hj rQ.out HPE.out (by omega) pe (by have:=uK.out;omega) hta;have HK:=hid hk;have nI:=hid ef;have Zl:=hid Rn;clear pe hli hk ef Ci hj hta Rn;go_wp2_with fail
  refine Zl.out.mono ?_;rintro e w2 ⟨v2,zu,F2,rfl,h2,h3,h4,h5,h6⟩;first
  |(cases bl;obtain⟨rl,rj⟩:=R;simp only at h2 h3 h4 h5 h6 rO;obtain⟨q23,q24,YA,q26,qlt,qbm⟩:=fl h3;obtain⟨f24,f25,f26⟩:=kt h3;have eA:=ku h3;have H3:=hid h3;have HB:=hid (fun(r:List Ev×Js) W (hw:fp w1 base b mv F1 r (.returned (.tuple #[v2,.int .i64 r.2.e])) W)=>fp.before (F:=F) HK.out nI.out hw);have H2:=hid h2;have H4:=hid h4;have H5:=hid h5;have H6:=hid h6)
  |have HP:=hid (fp.before (F:=F) (r:=Js.parts {p with l:=L'} ts le) (e:= .returned (.tuple #[v2,.int .i64 (Js.parts {p with l:=L'} ts le).2.e])) HK.out nI.out ⟨v2,zu,F2,rfl,h2,h3,h4,h5,h6⟩)
  clear h2 h3 h4 h5 h6;first
  |(cases bl;by_cases c1:rj.e=0)
  |go_wp2_with fail
  first
  |(
   cases bl
   ·rw[c1] at q26;simp only[c1];by_cases c2:rj.next=6
    ·have hx:(rl,rj)=res:=by rw[←rO.out,if_neg (by simp[c2])]
     have HX:=hid hx;rw[c2] at YA;have C1:=hid c1;clear hx c1 c2;go_wp2_with fail
     go_region;all_goals
      go_wp2_with fail
      go_ret2;rw[←HX.out];refine C1.out▸HB.out (rl,rj) _ ⟨v2,zu,F2,rfl,ab H2.out (I.refl [] _).drew (by simp),H3.out.aI (I.refl _ _).drew,H4.out.drew,H5.out,H6.out⟩
    ·have hx:(rl,{rj with e:=3})=res:=by rw[←rO.out,if_pos ⟨c1,c2⟩]
     have HX:=hid hx;have c3:(rj.next != 6)=true:=by simpa using c2
     clear hx c1 c2;go_wp2_with fail
     go_region;all_goals
      go_wp2_with fail
      go_ret2;rw[←HX.out];refine HB.out (rl,{rj with e:=3}) _ ⟨v2,zu,F2,rfl,ab H2.out ((I.refl [b] _).ax _).drew (fun i hi hm=>H6.out b eA (by rw[List.mem_singleton] at hm;exact hm▸aa.2 hi)),(H3.out.uN 3).aI (I.refl _ _).drew,(H4.out.setCell (H5.out b eA) _).drew,H5.out,H6.out⟩)
  |go_ret2
  first
  |(
   cases bl
   ·have hx:(rl,rj)=res:=by rw[←rO.out,if_neg (by simp[c1])]
    have HX:=hid hx;have c3:(rj.e==0)=false:=by simpa using c1
    clear hx c1;go_wp2_with fail
    go_region;all_goals
     go_wp2_with fail
     go_ret2;rw[←HX.out];refine HB.out (rl,rj) _ ⟨v2,zu,F2,rfl,ab H2.out (I.refl [] _).drew (by simp),H3.out.aI (I.refl _ _).drew,H4.out.drew,H5.out,H6.out⟩)
  |exact HP.out
 ·first
  |(cases bl;have hs:p.fin=([],p):=by unfold Js.fin;rw[if_pos he])
  |have hs:p.step x=([],p):=by unfold Js.step;rw[if_pos he]
  rw[hs];have UO:(p.e != 0)=true:=by simp[he]
  clear h hf hs he;first
  |(cases bl;go_enter func96,ntmps96)
  |go_enter func141,ntmps141
  go_wp2_with fail
  go_region;all_goals
   go_wp2_with fail
   go_ret2;exact Kn rfl (H.out.aI (I.refl _ _).drew) (I.refl _ _).drew):p:=h
theorem q10 {p:Prop} (h:p:=by
 first
 |(
  cases bl;obtain⟨hf,hx⟩:=h.first 195 (by omega);have UP:=h.lo (t.first 195/16) (by omega);have lx:s.size=r.length+2:=by have:=congrArg List.length hs;rw[Array.length_toList] at this;simpa using this
  have b0: ∀W,(Instr.index 9 (.string s) (.int .i64 0)).run prog W= .ok (.int .u8 195) W:=fun W=>byte_at hs 0 195 rfl .i64 W;have b1: ∀W,(Instr.index 9 (.string s) (.int .i64 1)).run prog W= .ok (.int .u8 169) W:=fun W=>byte_at hs 1 169 rfl .i64 W;obtain⟨N,hN⟩: ∃N,t.zv (r.length+2)=N:=⟨_,rfl⟩)
 |(
  obtain⟨hf,hx⟩:=h.first 240 (by omega);have UP:=h.lo (t.first 240/16) (by omega);have lx:s.size=r.length+4:=by have:=congrArg List.length hs;rw[Array.length_toList] at this;simpa using this
  have b0: ∀W,(Instr.index 9 (.string s) (.int .i64 0)).run prog W= .ok (.int .u8 240) W:=fun W=>byte_at hs 0 240 rfl .i64 W;have b1: ∀W,(Instr.index 9 (.string s) (.int .i64 1)).run prog W= .ok (.int .u8 157) W:=fun W=>byte_at hs 1 157 rfl .i64 W;have b2: ∀W,(Instr.index 9 (.string s) (.int .i64 2)).run prog W= .ok (.int .u8 132) W:=fun W=>byte_at hs 2 132 rfl .i64 W;have b3: ∀W,(Instr.index 9 (.string s) (.int .i64 3)).run prog W= .ok (.int .u8 158) W:=fun W=>byte_at hs 3 158 rfl .i64 W;obtain⟨N,hN⟩: ∃N,t.zw (r.length+4)=N:=⟨_,rfl⟩)
 rw[hN];first
 |(cases bl;unfold bq.zv at hN)
 |unfold bq.zw at hN
 first
 |(cases bl;obtain⟨x,oV⟩: ∃x,t.first 195=x:=⟨_,rfl⟩)
 |obtain⟨x,oV⟩: ∃x,t.first 240=x:=⟨_,rfl⟩
 rw[oV] at hf hx hN UP;by_cases h1:240≤x
 ·rw[if_pos h1] at hN;subst hN;have Ft:(240:Int)≤x:=by omega
  first
  |(cases bl;clear hr h oV h1 UP)
  |clear h oV h1 UP
  go_enter func215,ntmps215;go_wp2_with fail
  go_ret2;exact⟨⟨_,rfl⟩,(I.refl _ _)⟩
 ·rw[if_neg h1] at hN;have Ft: ¬ (240:Int)≤x:=by omega
  have hand:=adp x hx;obtain⟨z,hz⟩: ∃z,x % 8=z:=⟨_,rfl⟩
  obtain⟨k,hk⟩: ∃k,x/16=k:=⟨_,rfl⟩
  have hdiv:(x:Int)/16=k:=by omega
  have hz8:(z:Int)<8:=by omega
  have Zm:IntKind.i64.wrap (z:Int)=z:=by rw[IntKind.wrap_i64];omega
  have ajX:(k:Int)<16:=by omega
  have agQ:k<16:=by omega
  obtain⟨lo,mY⟩: ∃lo,t.lo k=lo:=⟨_,rfl⟩
  obtain⟨hi,mZ⟩: ∃hi,t.hi k=hi:=⟨_,rfl⟩
  rw[hk,mY,mZ] at UP;rw[hz,hk,mY,mZ] at hN;rw[hz] at hand;obtain⟨l0,l1⟩:=UP;first
  |(cases bl;by_cases h2:r.length+2<z)
  |by_cases h2:r.length+4<z
  ·rw[if_pos h2] at hN;subst hN;first
   |(cases bl;have YB:(r.length:Int)+2<z:=by omega)
   |have YB:(r.length:Int)+4<z:=by omega
   first
   |(cases bl;clear hr h oV h1 hz hk mY mZ hx h2)
   |clear h oV h1 hz hk mY mZ hx h2
   go_enter func215,ntmps215;go_wp2_with fail
   go_ret2;exact⟨⟨_,rfl⟩,((I.refl _ _).alloc _)⟩
  ·rw[if_neg h2] at hN;first
   |(cases bl;have YB: ¬ (r.length:Int)+2<z:=by omega)
   |have YB: ¬ (r.length:Int)+4<z:=by omega
   first
   |(cases bl;by_cases h3:169<lo)
   |by_cases h3:157<lo
   ·rw[if_pos (inl h3)] at hN;subst hN;first
    |(cases bl;have h3i:(169:Int)<lo:=by omega)
    |have h3i:(157:Int)<lo:=by omega
    first
    |(cases bl;clear hr h oV h1 hz hk mY mZ hx h2 h3)
    |clear h oV h1 hz hk mY mZ hx h2 h3
    go_enter func215,ntmps215;go_wp2_with fail
    go_ret2;exact⟨⟨_,rfl⟩,((I.refl _ _).alloc _)⟩
   ·first
    |(cases bl;have h3i: ¬ (169:Int)<lo:=by omega)
    |have h3i: ¬ (157:Int)<lo:=by omega
    first
    |(cases bl;by_cases h4:hi<169)
    |by_cases h4:hi<157
    ·rw[if_pos (inr h4)] at hN;subst hN;first
     |(cases bl;have h4i:(hi:Int)<169:=by omega)
     |have h4i:(hi:Int)<157:=by omega
     first
     |(cases bl;clear hr h oV h1 hz hk mY mZ hx h2 h3 h4)
     |clear h oV h1 hz hk mY mZ hx h2 h3 h4
     go_enter func215,ntmps215;go_wp2_with fail
     go_ret2;exact⟨⟨_,rfl⟩,((I.refl _ _).alloc _)⟩
    ·first
     |(cases bl;have h4i: ¬ (hi:Int)<169:=by omega)
     |have h4i: ¬ (hi:Int)<157:=by omega
     rw[if_neg (by omega)] at hN;by_cases h5:z≤2
     ·rw[if_pos h5] at hN;subst hN;have h5i:(z:Int)≤2:=by omega
      first
      |(cases bl;clear hr h oV h1 hz hk mY mZ hx h2 h3 h4 h5)
      |clear h oV h1 hz hk mY mZ hx h2 h3 h4 h5
      go_enter func215,ntmps215;go_wp2_with fail
      go_ret2;exact⟨⟨_,rfl⟩,((I.refl _ _).alloc _)⟩
     ·rw[if_neg h5] at hN;first
      |(cases bl;subst hN)
      |skip
      have h5i: ¬ (z:Int)≤2:=by omega
      first
      |(
       cases bl;obtain⟨y,r2,rfl⟩: ∃y r2,r=y::r2:=by
        cases r with
        |nil=>simp at h2;omega
        |cons y r2=>exact⟨y,r2,rfl⟩
       have b2: ∀W,(Instr.index 9 (.string s) (.int .i64 2)).run prog W= .ok (.int .u8 (y.toNat:Int)) W:=fun W=>byte_at hs 2 y rfl .i64 W;have hy:=hr y rfl;obtain⟨Y,hY⟩: ∃Y,y.toNat=Y:=⟨_,rfl⟩
       rw[hY] at hy b2;simp only[List.length_cons] at lx YB hl;by_cases h6:Y<128)
      |by_cases h6:z≤3
      ·first
       |(
        cases bl;have h6i:(Y:Int)<128:=by omega
        clear hr h oV h1 hz hk mY mZ hx h2 h3 h4 h5 hy hY h6 hs)
       |(
        rw[if_pos h6] at hN;subst hN;have h6i:(z:Int)≤3:=by omega
        clear h oV h1 hz hk mY mZ hx h2 h3 h4 h5 h6 hs)
       go_enter func215,ntmps215;go_wp2_with fail
       go_ret2;exact⟨⟨_,rfl⟩,((I.refl _ _).alloc _)⟩
      ·first
       |(
        cases bl;have h6i: ¬ (Y:Int)<128:=by omega
        have h7i:(191:Int)<Y:=by omega
        clear hr h oV h1 hz hk mY mZ hx h2 h3 h4 h5 hy hY h6 hs)
       |(
        rw[if_neg h6] at hN;subst hN;have h6i: ¬ (z:Int)≤3:=by omega
        clear h oV h1 hz hk mY mZ hx h2 h3 h4 h5 h6 hs)
       go_enter func215,ntmps215;go_wp2_with fail
       go_ret2;exact⟨⟨_,rfl⟩,((I.refl _ _).alloc _)⟩):p:=h
theorem yt {p:Prop} (h:p:=by
 first
 |(cases zk;have cL:=hid (fun W=>aK aL (inr (inr (inr (inr (inr (inr (inr rfl))))))) W);have HF:=hid (fun W=>kM m n q hq W))
 |(cases zm;have jy:=uO eP;have HF:=hid (fun W=>kN m n q hq W))
 |(
  first
  |(cases l6;have cL:=hid (fun W=>aK (ay y m) (inr (inr (inl ⟨_,_,rfl⟩))) W);have ez:=hid (fun W=>nR y m hm W);unfold Jd at ez;obtain⟨out,di⟩: ∃out,bZ (ay y m)=out:=⟨_,rfl⟩)
  |(cases mu;have cL:=hid (fun W=>aK (ah s) (inr (inr (inr (inl ⟨_,rfl⟩)))) W);have ez:=hid (fun W=>kv s hs W);unfold Jd at ez;obtain⟨out,di⟩: ∃out,bZ (ah s)=out:=⟨_,rfl⟩)
  |(cases lv;have cL:=hid (fun W=>aK (aq y) (inr (inl ⟨_,rfl⟩)) W);have ez:=hid (fun W=>na y W);unfold Jd at ez;obtain⟨out,di⟩: ∃out,bZ (aq y)=out:=⟨_,rfl⟩)
  |(cases qn;have cL:=hid (fun W=>aK ar (inl rfl) W);have ez:=hid (fun W=>nb W);unfold Jd at ez;obtain⟨out,di⟩: ∃out,bZ ar=out:=⟨_,rfl⟩)
  |(
   (first|cases l5|cases uF)
   have cL:=hid (fun W=>aK (ay y m) (inr (inr (inl ⟨_,_,rfl⟩))) W);have ez:=hid (fun W=>sQ y m hm W);unfold Ko at ez;rw[cS] at ez;obtain⟨out,di⟩: ∃out,(aW (ay y m)).1=out:=⟨_,rfl⟩)
  |(
   (first|cases BD|cases zi)
   have cL:=hid (fun W=>aK (aq y) (inr (inl ⟨_,rfl⟩)) W);have ez:=hid (fun W=>qz y W);unfold Ko at ez;rw[cS] at ez;obtain⟨out,di⟩: ∃out,(aW (aq y)).1=out:=⟨_,rfl⟩)
  |(
   (first|cases zh|cases zj)
   have cL:=hid (fun W=>aK ar (inl rfl) W);have ez:=hid (fun W=>qA W);unfold Ko at ez;rw[cS] at ez;obtain⟨out,di⟩: ∃out,(aW ar).1=out:=⟨_,rfl⟩)
  |(
   (first|cases zf|cases MW|cases FG)
   have cL:=hid (fun W=>aK (ah s) (inr (inr (inr (inl ⟨_,rfl⟩)))) W);have ez:=hid (fun W=>qB s hs W);unfold Ko at ez;rw[cS] at ez;obtain⟨out,di⟩: ∃out,(aW (ah s)).1=out:=⟨_,rfl⟩)
  |(
   first
   |(cases eW;have cL:=hid (fun W=>aK (ah s) (inr (inr (inr (inl ⟨_,rfl⟩)))) W);have ez:=hid (fun W=>kv s hs W))
   |(cases iH;have cL:=hid (fun W=>aK (aq y) (inr (inl ⟨_,rfl⟩)) W);have ez:=hid (fun W=>na y W))
   |(cases jn;have cL:=hid (fun W=>aK ar (inl rfl) W);have ez:=hid (fun W=>nb W))
   |(
    first
    |(cases bl;have cL:=hid (fun W=>aK (ay y m) (inr (inr (inl ⟨_,_,rfl⟩))) W))
    |have cL:=hid (fun W=>aK (ah s) (inr (inr (inr (inl ⟨_,rfl⟩)))) W)
    first
    |(cases bl;have ez:=hid (fun W=>nR y m hm W))
    |have ez:=hid (fun W=>kv s hs W))
   unfold Jd at ez;first
   |(cases bl;obtain⟨out,di⟩: ∃out,bZ (ay y m)=out:=⟨_,rfl⟩)
   |(cases iH;obtain⟨out,di⟩: ∃out,bZ (aq y)=out:=⟨_,rfl⟩)
   |(cases jn;obtain⟨out,di⟩: ∃out,bZ ar=out:=⟨_,rfl⟩)
   |obtain⟨out,di⟩: ∃out,bZ (ah s)=out:=⟨_,rfl⟩)
  rw[di] at ez⊢;first
  |(cases Q6;have HF:=hid (fun W=>kN false n q hq W))
  |(cases Q7;have HF:=hid (fun W=>kM false n q hq W))
  |(cases R0;have HF:=hid (fun W=>kN true n q hq W))
  |have HF:=hid (fun W=>kM true n q hq W))
 rw[eP] at HF;first
 |(cases zm;have HB:=hid (fun W=>jJ m n q hq W);rw[jy] at HB)
 |((first|cases l6|cases mu|cases lv|cases qn|cases uF|cases FG|cases zi|cases zj|cases zk))
 |(
  first
  |(cases R0;have HB:=hid (fun W=>jJ true n q hq W))
  |have HB:=hid (fun W=>ma true n q hq W)
  rw[jy] at HB)
 obtain⟨g,cap,rfl,gb,gl,gr,gm,q0,q1,q2,qf⟩:=h.bu.some_;have H:=hid h;obtain⟨g0,g1⟩:=h.cells;have bP:=h.az.lt;unfold maxLen at gm;have lq:(r.length:Int)≤1000:=by omega
 first
 |(cases zk;rw[iQ] at cL⊢;simp only[Ev.val,Ev.cells,aL,aY] at cL)
 |(cases zm)
 |(
  have eK:=da (x:=q+1) (by omega);first
  |(
   cases mS;first
   |(cases bl;rw[fq] at cL ez⊢)
   |rw[fr] at cL ez⊢
   first
   |(cases bl;simp only[Ev.val,Ev.cells,ay,aY] at cL)
   |simp only[Ev.val,Ev.cells,ah] at cL)
  |(
   (first|cases l5|cases l6|cases uF)
   rw[fq] at cL ez⊢;simp only[Ev.val,Ev.cells,ay,aY] at cL)
  |(
   (first|cases iH|cases BD|cases lv|cases zi)
   rw[ft] at cL ez⊢;simp only[Ev.val,Ev.cells,aq,aY] at cL)
  |(
   (first|cases jn|cases zh|cases qn|cases zj)
   rw[fU] at cL ez⊢;simp only[Ev.val,Ev.cells,ar,aY] at cL)
  |(rw[fr] at cL ez⊢;simp only[Ev.val,Ev.cells,ah] at cL))
 obtain⟨Ys,VV⟩:=hq;first
 |(cases zk;clear h eP qf hr;go_enter func238,ntmps238)
 |(cases zm;clear h eP jy qf hr;go_enter func232,ntmps232)
 |(
  (first|cases zf|cases MW|cases BD|cases zh)
  clear h cS di eP jy qf hr;go_enter func238,ntmps238)
 |(cases Q6;clear h di eP qf hr;go_enter func231,ntmps231)
 |(cases Q7;clear h cS di eP qf hr;go_enter func238,ntmps238)
 |(
  first
  |(cases l5;clear h cS di eP jy qf hr)
  |clear h di eP jy qf hr
  first
  |(cases l5;go_enter func238,ntmps238)
  |go_enter func231,ntmps231)
 go_wp2_with fail
 first
 |(cases zm;refine(HB.out _).mono ?_)
 |refine(cL.out _).mono ?_
 rintro e w1 ⟨rfl,k1⟩;have H1:=hid (H.out.keeps k1 (by simp) (by simp));have K1:=hid k1;clear g0 g1 bP k1 H q0 q1 q2;obtain⟨g0,g1⟩:=H1.out.cells;have bP:=H1.out.az.lt;obtain⟨g',fB,he,-,l8,-,-,q0,q1,q2,-⟩:=H1.out.bu.some_;simp only[Value.slice.injEq,Option.some.injEq,Addr.mk.injEq,and_true,true_and] at he;obtain⟨rfl,rfl⟩:=he;first
 |(cases zm;go_wp2_with fail)
 |(
  first
  |(cases zk;go_wp2_with fail)
  |skip
  obtain⟨n1,ij⟩: ∃n1,w1.heap.size=n1:=⟨_,rfl⟩
  first
  |(cases zk)
  |(
   have Nh:b<n1:=by rw[←ij];exact bP
   have Sa:g<n1:=by rw[←ij];exact l8
   go_wp2_with fail))
 refine(HF.out _).mono ?_;rintro e w2 ⟨rfl,k2⟩;first
 |(cases zm;have H2:=hid (H1.out.keeps k2 (by simp) (by simp));have K2:=hid (K1.out.trans k2);clear g0 g1 bP k2 H1 K1 q0 q1 q2 l8)
 |(
  first
  |(cases zk;have jq:=(((I.refl [] w1).alloc (.cells #[.int .i64 7,.bool false,.int .u64 0,.string ⟨#[]⟩,.int .i64 0] 34)).alloc (.cells #[] 218)).trans k2;have H2:=hid (H1.out.keeps jq (by simp) (by simp));have K2:=hid (K1.out.trans jq))
  |(
   first
   |(cases eW;have jq:=(((I.refl [] w1).alloc (.cells #[.int .i64 3,.bool false,.int .u64 0,.string s,.int .i64 0] 34)).alloc (.cells #[] 218)).alloc (.cells #[.bool true,.int .i64 n,.int .i64 q] 299);have gJ:=(Has.aC ((w1.alloc (.cells #[.int .i64 3,.bool false,.int .u64 0,.string s,.int .i64 0] 34)).alloc (.cells #[] 218)) #[.bool true,.int .i64 n,.int .i64 q] 299 (n:=n1+1+1) (by rw[←ij];simp)).keeps k2 (by simp))
   |(cases iH;have jq:=(((I.refl [] w1).alloc (.cells #[.int .i64 1,.bool y,.int .u64 0,.string ⟨#[]⟩,.int .i64 0] 34)).alloc (.cells #[] 218)).alloc (.cells #[.bool true,.int .i64 n,.int .i64 q] 299);have gJ:=(Has.aC ((w1.alloc (.cells #[.int .i64 1,.bool y,.int .u64 0,.string ⟨#[]⟩,.int .i64 0] 34)).alloc (.cells #[] 218)) #[.bool true,.int .i64 n,.int .i64 q] 299 (n:=n1+1+1) (by rw[←ij];simp)).keeps k2 (by simp))
   |(cases jn;have jq:=(((I.refl [] w1).alloc (.cells #[.int .i64 0,.bool false,.int .u64 0,.string ⟨#[]⟩,.int .i64 0] 34)).alloc (.cells #[] 218)).alloc (.cells #[.bool true,.int .i64 n,.int .i64 q] 299);have gJ:=(Has.aC ((w1.alloc (.cells #[.int .i64 0,.bool false,.int .u64 0,.string ⟨#[]⟩,.int .i64 0] 34)).alloc (.cells #[] 218)) #[.bool true,.int .i64 n,.int .i64 q] 299 (n:=n1+1+1) (by rw[←ij];simp)).keeps k2 (by simp))
   |(cases l5;have jq:=(((I.refl [] w1).alloc (.cells #[.int .i64 2,.bool y,.int .u64 m,.string ⟨#[]⟩,.int .i64 0] 34)).alloc (.cells #[] 218)).alloc (.cells #[.bool true,.int .i64 n,.int .i64 q] 301);have gJ:=(Has.aC ((w1.alloc (.cells #[.int .i64 2,.bool y,.int .u64 m,.string ⟨#[]⟩,.int .i64 0] 34)).alloc (.cells #[] 218)) #[.bool true,.int .i64 n,.int .i64 q] 301 (n:=n1+1+1) (by rw[←ij];simp)).keeps k2 (by simp))
   |(cases BD;have jq:=(((I.refl [] w1).alloc (.cells #[.int .i64 1,.bool y,.int .u64 0,.string ⟨#[]⟩,.int .i64 0] 34)).alloc (.cells #[] 218)).alloc (.cells #[.bool true,.int .i64 n,.int .i64 q] 301);have gJ:=(Has.aC ((w1.alloc (.cells #[.int .i64 1,.bool y,.int .u64 0,.string ⟨#[]⟩,.int .i64 0] 34)).alloc (.cells #[] 218)) #[.bool true,.int .i64 n,.int .i64 q] 301 (n:=n1+1+1) (by rw[←ij];simp)).keeps k2 (by simp))
   |(cases zh;have jq:=(((I.refl [] w1).alloc (.cells #[.int .i64 0,.bool false,.int .u64 0,.string ⟨#[]⟩,.int .i64 0] 34)).alloc (.cells #[] 218)).alloc (.cells #[.bool true,.int .i64 n,.int .i64 q] 301);have gJ:=(Has.aC ((w1.alloc (.cells #[.int .i64 0,.bool false,.int .u64 0,.string ⟨#[]⟩,.int .i64 0] 34)).alloc (.cells #[] 218)) #[.bool true,.int .i64 n,.int .i64 q] 301 (n:=n1+1+1) (by rw[←ij];simp)).keeps k2 (by simp))
   |(cases l6;have jq:=(((I.refl [] w1).alloc (.cells #[.int .i64 2,.bool y,.int .u64 m,.string ⟨#[]⟩,.int .i64 0] 34)).alloc (.cells #[] 218)).alloc (.cells #[.bool false,.int .i64 n,.int .i64 q] 299);have gJ:=(Has.aC ((w1.alloc (.cells #[.int .i64 2,.bool y,.int .u64 m,.string ⟨#[]⟩,.int .i64 0] 34)).alloc (.cells #[] 218)) #[.bool false,.int .i64 n,.int .i64 q] 299 (n:=n1+1+1) (by rw[←ij];simp)).keeps k2 (by simp))
   |(cases mu;have jq:=(((I.refl [] w1).alloc (.cells #[.int .i64 3,.bool false,.int .u64 0,.string s,.int .i64 0] 34)).alloc (.cells #[] 218)).alloc (.cells #[.bool false,.int .i64 n,.int .i64 q] 299);have gJ:=(Has.aC ((w1.alloc (.cells #[.int .i64 3,.bool false,.int .u64 0,.string s,.int .i64 0] 34)).alloc (.cells #[] 218)) #[.bool false,.int .i64 n,.int .i64 q] 299 (n:=n1+1+1) (by rw[←ij];simp)).keeps k2 (by simp))
   |(cases lv;have jq:=(((I.refl [] w1).alloc (.cells #[.int .i64 1,.bool y,.int .u64 0,.string ⟨#[]⟩,.int .i64 0] 34)).alloc (.cells #[] 218)).alloc (.cells #[.bool false,.int .i64 n,.int .i64 q] 299);have gJ:=(Has.aC ((w1.alloc (.cells #[.int .i64 1,.bool y,.int .u64 0,.string ⟨#[]⟩,.int .i64 0] 34)).alloc (.cells #[] 218)) #[.bool false,.int .i64 n,.int .i64 q] 299 (n:=n1+1+1) (by rw[←ij];simp)).keeps k2 (by simp))
   |(cases qn;have jq:=(((I.refl [] w1).alloc (.cells #[.int .i64 0,.bool false,.int .u64 0,.string ⟨#[]⟩,.int .i64 0] 34)).alloc (.cells #[] 218)).alloc (.cells #[.bool false,.int .i64 n,.int .i64 q] 299);have gJ:=(Has.aC ((w1.alloc (.cells #[.int .i64 0,.bool false,.int .u64 0,.string ⟨#[]⟩,.int .i64 0] 34)).alloc (.cells #[] 218)) #[.bool false,.int .i64 n,.int .i64 q] 299 (n:=n1+1+1) (by rw[←ij];simp)).keeps k2 (by simp))
   |(cases uF;have jq:=(((I.refl [] w1).alloc (.cells #[.int .i64 2,.bool y,.int .u64 m,.string ⟨#[]⟩,.int .i64 0] 34)).alloc (.cells #[] 218)).alloc (.cells #[.bool false,.int .i64 n,.int .i64 q] 301);have gJ:=(Has.aC ((w1.alloc (.cells #[.int .i64 2,.bool y,.int .u64 m,.string ⟨#[]⟩,.int .i64 0] 34)).alloc (.cells #[] 218)) #[.bool false,.int .i64 n,.int .i64 q] 301 (n:=n1+1+1) (by rw[←ij];simp)).keeps k2 (by simp))
   |(cases FG;have jq:=(((I.refl [] w1).alloc (.cells #[.int .i64 3,.bool false,.int .u64 0,.string s,.int .i64 0] 34)).alloc (.cells #[] 218)).alloc (.cells #[.bool false,.int .i64 n,.int .i64 q] 301);have gJ:=(Has.aC ((w1.alloc (.cells #[.int .i64 3,.bool false,.int .u64 0,.string s,.int .i64 0] 34)).alloc (.cells #[] 218)) #[.bool false,.int .i64 n,.int .i64 q] 301 (n:=n1+1+1) (by rw[←ij];simp)).keeps k2 (by simp))
   |(cases zi;have jq:=(((I.refl [] w1).alloc (.cells #[.int .i64 1,.bool y,.int .u64 0,.string ⟨#[]⟩,.int .i64 0] 34)).alloc (.cells #[] 218)).alloc (.cells #[.bool false,.int .i64 n,.int .i64 q] 301);have gJ:=(Has.aC ((w1.alloc (.cells #[.int .i64 1,.bool y,.int .u64 0,.string ⟨#[]⟩,.int .i64 0] 34)).alloc (.cells #[] 218)) #[.bool false,.int .i64 n,.int .i64 q] 301 (n:=n1+1+1) (by rw[←ij];simp)).keeps k2 (by simp))
   |(cases zj;have jq:=(((I.refl [] w1).alloc (.cells #[.int .i64 0,.bool false,.int .u64 0,.string ⟨#[]⟩,.int .i64 0] 34)).alloc (.cells #[] 218)).alloc (.cells #[.bool false,.int .i64 n,.int .i64 q] 301);have gJ:=(Has.aC ((w1.alloc (.cells #[.int .i64 0,.bool false,.int .u64 0,.string ⟨#[]⟩,.int .i64 0] 34)).alloc (.cells #[] 218)) #[.bool false,.int .i64 n,.int .i64 q] 301 (n:=n1+1+1) (by rw[←ij];simp)).keeps k2 (by simp))
   |(
    cases mS;first
    |(cases bl;have jq:=(((I.refl [] w1).alloc (.cells #[.int .i64 2,.bool y,.int .u64 m,.string ⟨#[]⟩,.int .i64 0] 34)).alloc (.cells #[] 218)).alloc (.cells #[.bool true,.int .i64 n,.int .i64 q] 299))
    |have jq:=(((I.refl [] w1).alloc (.cells #[.int .i64 3,.bool false,.int .u64 0,.string s,.int .i64 0] 34)).alloc (.cells #[] 218)).alloc (.cells #[.bool true,.int .i64 n,.int .i64 q] 299)
    first
    |(cases bl;have gJ:=(Has.aC ((w1.alloc (.cells #[.int .i64 2,.bool y,.int .u64 m,.string ⟨#[]⟩,.int .i64 0] 34)).alloc (.cells #[] 218)) #[.bool true,.int .i64 n,.int .i64 q] 299 (n:=n1+1+1) (by rw[←ij];simp)).keeps k2 (by simp))
    |have gJ:=(Has.aC ((w1.alloc (.cells #[.int .i64 3,.bool false,.int .u64 0,.string s,.int .i64 0] 34)).alloc (.cells #[] 218)) #[.bool true,.int .i64 n,.int .i64 q] 299 (n:=n1+1+1) (by rw[←ij];simp)).keeps k2 (by simp))
   |(have jq:=(((I.refl [] w1).alloc (.cells #[.int .i64 3,.bool false,.int .u64 0,.string s,.int .i64 0] 34)).alloc (.cells #[] 218)).alloc (.cells #[.bool true,.int .i64 n,.int .i64 q] 301);have gJ:=(Has.aC ((w1.alloc (.cells #[.int .i64 3,.bool false,.int .u64 0,.string s,.int .i64 0] 34)).alloc (.cells #[] 218)) #[.bool true,.int .i64 n,.int .i64 q] 301 (n:=n1+1+1) (by rw[←ij];simp)).keeps k2 (by simp))
   have H2:=hid (H1.out.keeps (jq.trans k2) (by simp) (by simp));have K2:=hid (K1.out.trans (jq.trans k2)))
  clear g0 g1 bP q0 q1 q2 l8 jq k2 H1 K1)
 obtain⟨g0,g1⟩:=H2.out.cells;have bP:=H2.out.az.lt;first
 |(
  cases zk;have f0:=H2.out.az.free 0;have f1:=H2.out.az.free 1;have hz:((r.length:Int)==0)=decide (r= []):=by cases r<;>simp;omega
  have gW:=Sm r)
 |(cases zm;have f0:=H2.out.az.free 0;have f1:=H2.out.az.free 1;obtain⟨g',fB,he,-,l8,-,-,q0,q1,q2,-⟩:=H2.out.bu.some_;simp only[Value.slice.injEq,Option.some.injEq,Addr.mk.injEq,and_true,true_and] at he;obtain⟨rfl,rfl⟩:=he;have hz:((r.length:Int)==0)=decide (r= []):=by cases r<;>simp;omega)
 |(
  first
  |((first|cases l6|cases mu|cases lv|cases qn|cases uF|cases FG|cases zi|cases zj);have c0:w2.cell? ⟨n1+1+1,0,none⟩=some (.bool false):=gJ.cell 0)
  |have c0:w2.cell? ⟨n1+1+1,0,none⟩=some (.bool true):=gJ.cell 0
  have c1:w2.cell? ⟨n1+1+1,1,none⟩=some (.int .i64 n):=gJ.cell 1;have c2:w2.cell? ⟨n1+1+1,2,none⟩=some (.int .i64 q):=gJ.cell 2;clear gJ;first
  |(cases Q6;obtain⟨g',fB,he,-,l8,-,-,q0,q1,q2,qf⟩:=H2.out.bu.some_)
  |(
   cases Q7;go_wp2_with fail
   refine(ez.out _).mono ?_;rintro e w4 ⟨rfl,k4⟩;have H4:=hid (H2.out.keeps k4 (by simp) (by simp));have K4:=hid (K2.out.trans k4);clear g0 g1 bP c0 c1 c2 k4;obtain⟨g0,g1⟩:=H4.out.cells;have f1:=H4.out.az.free 1;have bP:=H4.out.az.lt;obtain⟨g',fB,he,-,l8,-,-,q0,q1,q2,qf⟩:=H4.out.bu.some_)
  |(
   go_wp2_with fail
   refine(HB.out _).mono ?_;rintro e w3 ⟨rfl,k3⟩;have H3:=hid (H2.out.keeps k3 (by simp) (by simp));have K3:=hid (K2.out.trans k3);clear g0 g1 bP c0 c1 c2 k3 H2 K2;obtain⟨g0,g1⟩:=H3.out.cells;have bP:=H3.out.az.lt;first
   |(cases R0;obtain⟨g',fB,he,-,l8,-,-,q0,q1,q2,qf⟩:=H3.out.bu.some_)
   |(
    go_wp2_with fail
    refine(ez.out _).mono ?_;rintro e w4 ⟨rfl,k4⟩;have H4:=hid (H3.out.keeps k4 (by simp) (by simp));have K4:=hid (K3.out.trans k4);clear g0 g1 bP k4;obtain⟨g0,g1⟩:=H4.out.cells;have f1:=H4.out.az.free 1;have bP:=H4.out.az.lt;obtain⟨g',fB,he,-,l8,-,-,q0,q1,q2,qf⟩:=H4.out.bu.some_))
  simp only[Value.slice.injEq,Option.some.injEq,Addr.mk.injEq,and_true,true_and] at he;obtain⟨rfl,rfl⟩:=he;have Ke:=qf (r.length*3+2);first
  |(cases Q6;have f1:=H2.out.az.free 1)
  |(cases R0;have f1:=H3.out.az.free 1)
  |skip
  clear qf)
 go_wp2_with fail
 first
 |(cases Q6;refine(ez.out _).mono ?_;rintro e w4 ⟨rfl,k4⟩;have kk:=((I.refl [] ((w2.setCell ⟨g,r.length*3+2,none⟩ (.int .i64 (q+1))).setCell ⟨b,1,none⟩ (.bool false))).alloc (.cells #[.bool false,.int .i64 0] 215)).trans k4;have H4:=hid (((H2.out.fC (q+1)).fin false).keeps kk (by simp) (by simp));have K4:=hid ((I.setCell (F:=b::ae (.slice (some ⟨g,0,none⟩) (r.length+1) cap)) (p:=⟨b,1,none⟩) (I.setCell (p:=⟨g,r.length*3+2,none⟩) (K2.out.mono nn) (inl (List.mem_cons_of_mem _ (aa.2 rfl))) (.int .i64 (q+1))) (inl ms) (.bool false)).trans (kk.mono nn));clear kk k4;go_wp2_with fail)
 |(cases R0;refine(ez.out _).mono ?_;rintro e w4 ⟨rfl,k4⟩;have kk:=((I.refl [] ((w3.setCell ⟨g,r.length*3+2,none⟩ (.int .i64 (q+1))).setCell ⟨b,1,none⟩ (.bool false))).alloc (.cells #[.bool false,.int .i64 0] 215)).trans k4;have H4:=hid (((H3.out.fC (q+1)).fin false).keeps kk (by simp) (by simp));have K4:=hid ((I.setCell (F:=b::ae (.slice (some ⟨g,0,none⟩) (r.length+1) cap)) (p:=⟨b,1,none⟩) (I.setCell (p:=⟨g,r.length*3+2,none⟩) (K3.out.mono nn) (inl (List.mem_cons_of_mem _ (aa.2 rfl))) (.int .i64 (q+1))) (inl ms) (.bool false)).trans (kk.mono nn));clear kk k4;go_wp2_with fail)
 |skip
 go_ret2;first
 |(cases zk;refine⟨rfl,_,H2.out.pop,?_,fun i hi=>inl hi⟩;exact I.setCell (p:=⟨b,1,none⟩) (I.setCell (p:=⟨b,0,none⟩) (K2.out.mono nn) (inl ms) _) (inl ms) _)
 |(cases zm;refine⟨rfl,_,H2.out.pop.keeps ((I.refl [] _).alloc _) (by simp) (by simp),?_,fun i hi=>inl hi⟩;exact(I.setCell (p:=⟨b,1,none⟩) (I.setCell (p:=⟨b,0,none⟩) (K2.out.mono nn) (inl ms) _) (inl ms) _).alloc _)
 |((first|cases bl|cases lD|cases eW|cases iH|cases jn|cases l6|cases mu|cases lv|cases qn);exact⟨rfl,_,H4.out,K4.out,fun i hi=>inl hi⟩)
 |(refine⟨rfl,_,((H4.out.fC (q+1)).fin false).keeps ((I.refl [] _).alloc _) (by simp) (by simp),?_,fun i hi=>inl hi⟩;refine I.alloc (I.setCell (p:=⟨b,1,none⟩) (I.setCell (p:=⟨g,r.length*3+2,none⟩) (K4.out.mono nn) (inl (List.mem_cons_of_mem _ (aa.2 rfl))) _) (inl ms) _) _)):p:=h
theorem BF {p:Prop} (h:p:=by
 first
 |((first|cases lD|cases zf|cases zh|cases uF);have cL:=hid (fun W=>aK (ay y m) (inr (inr (inl ⟨_,_,rfl⟩))) W))
 |((first|cases jn|cases BD|cases mu|cases zi);have cL:=hid (fun W=>aK (aq y) (inr (inl ⟨_,rfl⟩)) W))
 |((first|cases l5|cases lv|cases qn|cases zj);have cL:=hid (fun W=>aK ar (inl rfl) W))
 |have cL:=hid (fun W=>aK (ah s) (inr (inr (inr (inl ⟨_,rfl⟩)))) W)
 have ez:=hid eI;obtain⟨S2,iL⟩: ∃S,bytesOf out=S:=⟨_,rfl⟩
 rw[iL] at ez;have z2:S2.size≤100000:=by rw[←iL,an];exact mr
 first
 |(
  cases mS;first
  |(cases bl;have gq: ¬281474976710656<S2.size:=by omega)
  |have gq: ¬281474976710656<1+S2.size:=by omega
  first
  |(cases bl;have fD: ¬9223372036854775807<S2.size:=by omega)
  |have fD: ¬9223372036854775807<1+S2.size:=by omega
  first
  |(cases bl;have dq:=hid (aZ [] out))
  |have dq:=hid (aZ [58] out))
 |(
  (first|cases eW|cases jn|cases l5)
  have gq: ¬281474976710656<1+S2.size:=by omega
  have fD: ¬9223372036854775807<1+S2.size:=by omega
  have dq:=hid (aZ [58] out))
 |(
  cases J8;have gq: ¬281474976710656<1+S2.size:=by omega
  have fD: ¬9223372036854775807<1+S2.size:=by omega
  have dq:=hid (aZ [44] out))
 |(
  have gq: ¬281474976710656<S2.size:=by omega
  have fD: ¬9223372036854775807<S2.size:=by omega
  have dq:=hid (aZ [] out))
 rw[iL] at dq;first
 |((first|cases lD|cases eW|cases jn|cases l5);obtain⟨Nj,mj⟩: ∃t,[58]++out=t:=⟨_,rfl⟩)
 |(cases J8;obtain⟨Nj,mj⟩: ∃t,[44]++out=t:=⟨_,rfl⟩)
 |obtain⟨Nj,mj⟩: ∃t,[]++out=t:=⟨_,rfl⟩
 rw[mj] at dq⊢;first
 |(cases Q7;obtain⟨a,cap,rfl⟩:=h.bu.shape)
 |(
  first
  |(
   cases BV;first
   |(cases zf;have HB:=hid (fun W=>dy false n q hq W))
   |have HB:=hid (fun W=>dy true n q hq W)
   first
   |(cases zf;rw[show af.aj ⟨false,n,q⟩=false from rfl] at HB)
   |rw[jy] at HB)
  |(have HB:=hid (fun W=>dy false n q hq W);rw[show af.aj ⟨false,n,q⟩=false from rfl] at HB)
  obtain⟨g,cap,rfl,gb,gl,gr,gm,q0,q1,qf⟩:=h.bu.some_)
 have H:=hid h;obtain⟨g0,g1⟩:=h.cells;have bP:=h.az.lt;first
 |(cases uF;rw[fq] at cL ez⊢;simp only[Ev.val,Ev.cells,ay,aY] at cL;simp only[List.length_nil] at*;clear h iL z2 mr eI mj)
 |(cases FG;rw[fr] at cL ez⊢;simp only[Ev.val,Ev.cells,ah] at cL;simp only[List.length_nil] at*;clear h iL z2 mr eI mj)
 |(cases zi;rw[ft] at cL ez⊢;simp only[Ev.val,Ev.cells,aq,aY] at cL;simp only[List.length_nil] at*;clear h iL z2 mr eI mj)
 |(cases zj;rw[fU] at cL ez⊢;simp only[Ev.val,Ev.cells,ar,aY] at cL;simp only[List.length_nil] at*;clear h iL z2 mr eI mj)
 |(
  unfold maxLen at gm;have lq:(r.length:Int)≤1000:=by omega
  have eK:=da (x:=q+1) (by omega);first
  |(
   cases mS;first
   |(cases bl;rw[fr] at cL ez⊢)
   |rw[fq] at cL ez⊢
   first
   |(cases bl;simp only[Ev.val,Ev.cells,ah] at cL)
   |simp only[Ev.val,Ev.cells,ay,aY] at cL)
  |(
   (first|cases zf|cases zh)
   rw[fq] at cL ez⊢;simp only[Ev.val,Ev.cells,ay,aY] at cL)
  |(cases R2;rw[ft] at cL ez⊢;simp only[Ev.val,Ev.cells,aq,aY] at cL)
  |(cases R3;rw[fU] at cL ez⊢;simp only[Ev.val,Ev.cells,ar,aY] at cL)
  |(rw[fr] at cL ez⊢;simp only[Ev.val,Ev.cells,ah] at cL)
  obtain⟨Ys,VV⟩:=hq;first
  |(cases J9;subst eQ;simp only[Int.zero_add] at*;clear h iL z2 mr eI mj qf hr)
  |(cases Nf;clear h iL z2 mr eI mj qf hr)
  |(
   first
   |(cases bl;subst eQ;simp only[Int.zero_add] at*)
   |skip
   clear h iL z2 mr eI mj qf hr jy))
 go_enter func203,ntmps203;go_wp2_with fail
 refine(cL.out _).mono ?_;rintro e w1 ⟨rfl,k1⟩;have H1:=hid (H.out.keeps k1 (by simp) (by simp));have K1:=hid k1;first
 |(cases Q7;clear g0 g1 bP k1 H)
 |clear g0 g1 bP k1 H q0 q1
 obtain⟨g0,g1⟩:=H1.out.cells;have bP:=H1.out.az.lt;first
 |(
  (first|cases FG|cases zi|cases zj)
  have f1:=H1.out.az.free 1;have rN:b<w1.heap.size+1:=by omega
  have Kh:b<w1.heap.size+1+1:=by omega)
 |(
  first
  |(cases uF;have f1:=H1.out.az.free 1)
  |obtain⟨g',fB,he,-,l8,-,-,q0,q1,-⟩:=H1.out.bu.some_
  first
  |(cases uF;have rN:b<w1.heap.size+1:=by omega)
  |simp only[Value.slice.injEq,Option.some.injEq,Addr.mk.injEq,and_true,true_and] at he
  first
  |(cases uF;have Kh:b<w1.heap.size+1+1:=by omega)
  |obtain⟨rfl,rfl⟩:=he)
 go_wp2_with fail
 first
 |(cases uF;have kk:=(((I.refl [] (w1.setCell ⟨b,1,none⟩ (.bool true))).alloc (.cells #[.int .i64 2,.bool y,.int .u64 m,.string ⟨#[]⟩,.int .i64 0] 34)).alloc (.cells #[] 218)).alloc (.cells #[.bool false,.int .i64 0] 215);have KW:=(I.setCell (F:=b::ae (.slice a 0 cap)) (p:=⟨b,1,none⟩) (K1.out.mono nn) (inl ms) (.bool true)).trans (kk.mono nn))
 |(cases FG;have kk:=(((I.refl [] (w1.setCell ⟨b,1,none⟩ (.bool true))).alloc (.cells #[.int .i64 3,.bool false,.int .u64 0,.string s,.int .i64 0] 34)).alloc (.cells #[] 218)).alloc (.cells #[.bool false,.int .i64 0] 215);have KW:=(I.setCell (F:=b::ae (.slice a 0 cap)) (p:=⟨b,1,none⟩) (K1.out.mono nn) (inl ms) (.bool true)).trans (kk.mono nn))
 |(cases zi;have kk:=(((I.refl [] (w1.setCell ⟨b,1,none⟩ (.bool true))).alloc (.cells #[.int .i64 1,.bool y,.int .u64 0,.string ⟨#[]⟩,.int .i64 0] 34)).alloc (.cells #[] 218)).alloc (.cells #[.bool false,.int .i64 0] 215);have KW:=(I.setCell (F:=b::ae (.slice a 0 cap)) (p:=⟨b,1,none⟩) (K1.out.mono nn) (inl ms) (.bool true)).trans (kk.mono nn))
 |(cases zj;have kk:=(((I.refl [] (w1.setCell ⟨b,1,none⟩ (.bool true))).alloc (.cells #[.int .i64 0,.bool false,.int .u64 0,.string ⟨#[]⟩,.int .i64 0] 34)).alloc (.cells #[] 218)).alloc (.cells #[.bool false,.int .i64 0] 215);have KW:=(I.setCell (F:=b::ae (.slice a 0 cap)) (p:=⟨b,1,none⟩) (K1.out.mono nn) (inl ms) (.bool true)).trans (kk.mono nn))
 |(
  refine(HB.out _).mono ?_;rintro e w2 ⟨rfl,k2⟩;first
  |((first|cases lD|cases zf|cases zh);have jq:=(((I.refl [] w1).alloc (.cells #[.int .i64 2,.bool y,.int .u64 m,.string ⟨#[]⟩,.int .i64 0] 34)).alloc (.cells #[] 218)).trans k2)
  |(cases R2;have jq:=(((I.refl [] w1).alloc (.cells #[.int .i64 1,.bool y,.int .u64 0,.string ⟨#[]⟩,.int .i64 0] 34)).alloc (.cells #[] 218)).trans k2)
  |(cases R3;have jq:=(((I.refl [] w1).alloc (.cells #[.int .i64 0,.bool false,.int .u64 0,.string ⟨#[]⟩,.int .i64 0] 34)).alloc (.cells #[] 218)).trans k2)
  |have jq:=(((I.refl [] w1).alloc (.cells #[.int .i64 3,.bool false,.int .u64 0,.string s,.int .i64 0] 34)).alloc (.cells #[] 218)).trans k2
  have H2:=hid (H1.out.keeps jq (by simp) (by simp));have K2:=hid (K1.out.trans jq);clear g0 g1 bP q0 q1 l8 jq k2 H1 K1;obtain⟨g0,g1⟩:=H2.out.cells;have bP:=H2.out.az.lt;first
  |(
   (first|cases bl|cases lD|cases eW|cases iH|cases jn|cases l5)
   obtain⟨g',fB,he,-,l8,-,-,q0,q1,-⟩:=H2.out.bu.some_;simp only[Value.slice.injEq,Option.some.injEq,Addr.mk.injEq,and_true,true_and] at he;obtain⟨rfl,rfl⟩:=he;go_wp2_with fail
   refine(HB.out _).mono ?_;rintro e w3 ⟨rfl,k3⟩;have H3:=hid (H2.out.keeps k3 (by simp) (by simp));have K3:=hid (K2.out.trans k3);clear g0 g1 bP q0 q1 l8 k3 H2 K2;obtain⟨g0,g1⟩:=H3.out.cells;have bP:=H3.out.az.lt;obtain⟨g',fB,he,-,l8,-,-,q0,q1,qf⟩:=H3.out.bu.some_)
  |obtain⟨g',fB,he,-,l8,-,-,q0,q1,qf⟩:=H2.out.bu.some_
  simp only[Value.slice.injEq,Option.some.injEq,Addr.mk.injEq,and_true,true_and] at he;obtain⟨rfl,rfl⟩:=he;have Ke:=qf (r.length*2+1);first
  |(
   cases BV;first
   |(cases zf;have f1:=H2.out.az.free 1)
   |have f1:=H3.out.az.free 1
   first
   |(cases zf;have cY:b≠g:=fun e=>H2.out.bo (aa.2 (by rw[e];rfl)))
   |have cY:b≠g:=fun e=>H3.out.bo (aa.2 (by rw[e];rfl)))
  |(have f1:=H2.out.az.free 1;have cY:b≠g:=fun e=>H2.out.bo (aa.2 (by rw[e];rfl)))
  have lr:g≠b:=fun e=>cY e.symm;clear qf;go_wp2_with fail
  first
  |(
   cases mS;first
   |(cases bl;have kk:=(I.refl [] ((w3.setCell ⟨g,r.length*2+1,none⟩ (.int .i64 1)).setCell ⟨b,1,none⟩ (.bool false))).alloc (.cells #[.bool false,.int .i64 0] 215))
   |have kk:=(I.refl [] ((w3.setCell ⟨g,r.length*2+1,none⟩ (.int .i64 (q+1))).setCell ⟨b,1,none⟩ (.bool false))).alloc (.cells #[.bool false,.int .i64 0] 215)
   first
   |(cases bl;have KW:=(I.setCell (F:=b::ae (.slice (some ⟨g,0,none⟩) (r.length+1) cap)) (p:=⟨b,1,none⟩) (I.setCell (p:=⟨g,r.length*2+1,none⟩) (K3.out.mono nn) (inl (List.mem_cons_of_mem _ (aa.2 rfl))) (.int .i64 1)) (inl ms) (.bool false)).trans (kk.mono nn))
   |have KW:=(I.setCell (F:=b::ae (.slice (some ⟨g,0,none⟩) (r.length+1) cap)) (p:=⟨b,1,none⟩) (I.setCell (p:=⟨g,r.length*2+1,none⟩) (K3.out.mono nn) (inl (List.mem_cons_of_mem _ (aa.2 rfl))) (.int .i64 (q+1))) (inl ms) (.bool false)).trans (kk.mono nn))
  |(
   (first|cases eW|cases iH|cases jn|cases l5)
   have kk:=(I.refl [] ((w3.setCell ⟨g,r.length*2+1,none⟩ (.int .i64 (q+1))).setCell ⟨b,1,none⟩ (.bool false))).alloc (.cells #[.bool false,.int .i64 0] 215);have KW:=(I.setCell (F:=b::ae (.slice (some ⟨g,0,none⟩) (r.length+1) cap)) (p:=⟨b,1,none⟩) (I.setCell (p:=⟨g,r.length*2+1,none⟩) (K3.out.mono nn) (inl (List.mem_cons_of_mem _ (aa.2 rfl))) (.int .i64 (q+1))) (inl ms) (.bool false)).trans (kk.mono nn))
  |(cases J9;have kk:=(I.refl [] ((w2.setCell ⟨g,r.length*2+1,none⟩ (.int .i64 1)).setCell ⟨b,1,none⟩ (.bool false))).alloc (.cells #[.bool false,.int .i64 0] 215);have KW:=(I.setCell (F:=b::ae (.slice (some ⟨g,0,none⟩) (r.length+1) cap)) (p:=⟨b,1,none⟩) (I.setCell (p:=⟨g,r.length*2+1,none⟩) (K2.out.mono nn) (inl (List.mem_cons_of_mem _ (aa.2 rfl))) (.int .i64 1)) (inl ms) (.bool false)).trans (kk.mono nn))
  |(have kk:=(I.refl [] ((w2.setCell ⟨g,r.length*2+1,none⟩ (.int .i64 (q+1))).setCell ⟨b,1,none⟩ (.bool false))).alloc (.cells #[.bool false,.int .i64 0] 215);have KW:=(I.setCell (F:=b::ae (.slice (some ⟨g,0,none⟩) (r.length+1) cap)) (p:=⟨b,1,none⟩) (I.setCell (p:=⟨g,r.length*2+1,none⟩) (K2.out.mono nn) (inl (List.mem_cons_of_mem _ (aa.2 rfl))) (.int .i64 (q+1))) (inl ms) (.bool false)).trans (kk.mono nn)))
 refine(ez.out _ KW).mono ?_;rintro e w4 ⟨rfl,k4⟩;first
 |(cases bl;have H4:=hid (((H3.out.fC 1).fin false).keeps (kk.trans k4) (by simp) (by simp)))
 |(cases J9;have H4:=hid (((H2.out.fC 1).fin false).keeps (kk.trans k4) (by simp) (by simp)))
 |(cases Nf;have H4:=hid (((H2.out.fC (q+1)).fin false).keeps (kk.trans k4) (by simp) (by simp)))
 |(cases Q7;have H4:=hid ((H1.out.fin true).keeps (kk.trans k4) (by simp) (by simp)))
 |have H4:=hid (((H3.out.fC (q+1)).fin false).keeps (kk.trans k4) (by simp) (by simp))
 have K4:=hid (KW.trans (k4.mono nn));first
 |(cases Q7;clear kk k4 H1 K1 KW)
 |clear kk k4 KW
 go_wp2_with fail
 go_ret2;exact⟨by first|(rw[←dq.out];rfl)|(rw[←dq.out];simp[bytesOf];done),_,H4.out,K4.out,fun i hi=>inl hi⟩):p:=h
theorem Je {p:Prop} (h:p:=by
 subst Cj Ck;have:=km;have:=iR;first
 |(cases bl;rw[show Cb.told {p with h:=Hd.zero,begun:=false} 2 h'.v true=([],{({p with h:=Hd.zero,begun:=false}:Cb) with c:={p.c with chunks:=true,word:=false}}) from by unfold Cb.told;rw[if_neg (by decide),if_pos (by decide)];rfl])
 |(cases lD;rw[show Cb.told {p with h:=Hd.zero,begun:=false} 3 h'.v true=([],{({p with h:=Hd.zero,begun:=false}:Cb) with c:={p.c with chunks:=true,word:=true}}) from by unfold Cb.told;rw[if_neg (by decide),if_pos (by decide)];rfl])
 |(cases eW;rw[show Cb.told {p with h:=Hd.zero,begun:=false} 4 h'.v false=Cb.put {p with h:=Hd.zero,begun:=false} (p.c.begin false h'.v) from by unfold Cb.told;rw[if_neg (by decide),if_neg (by decide),if_neg (by decide),if_neg hg];rfl])
 |(cases iH;rw[show Cb.told {p with h:=Hd.zero,begun:=false} 5 h'.v false=Cb.put {p with h:=Hd.zero,begun:=false} (p.c.begin true h'.v) from by unfold Cb.told;rw[if_neg (by decide),if_neg (by decide),if_neg (by decide),if_neg hg];rfl])
 |(cases jn;rw[show Cb.told {p with h:=Hd.zero,begun:=false} 0 h'.v false=Cb.put {p with h:=Hd.zero,begun:=false} (p.c.value (ay false h'.v)) from by unfold Cb.told;rw[if_pos (by decide)];rfl])
 |(cases l5;rw[show Cb.told {p with h:=Hd.zero,begun:=false} 0 h'.v true=Cb.put {p with h:=Hd.zero,begun:=false} (p.c.value (ay false h'.v)) from by unfold Cb.told;rw[if_pos (by decide)];rfl])
 |(cases zf;rw[show Cb.told {p with h:=Hd.zero,begun:=false} 1 h'.v false=Cb.put {p with h:=Hd.zero,begun:=false} (p.c.value (ay true h'.v)) from by unfold Cb.told;rw[if_pos (by decide)];rfl])
 |(cases MW;rw[show Cb.told {p with h:=Hd.zero,begun:=false} 1 h'.v true=Cb.put {p with h:=Hd.zero,begun:=false} (p.c.value (ay true h'.v)) from by unfold Cb.told;rw[if_pos (by decide)];rfl])
 |(cases BD;rw[show Cb.told {p with h:=Hd.zero,begun:=false} 4 h'.v false=Cb.put {p with h:=Hd.zero,begun:=false} (p.c.fail 7) from by unfold Cb.told;rw[if_neg (by decide),if_neg (by decide),if_neg (by decide),if_pos hg]])
 |(cases zh;rw[show Cb.told {p with h:=Hd.zero,begun:=false} 5 h'.v false=Cb.put {p with h:=Hd.zero,begun:=false} (p.c.fail 7) from by unfold Cb.told;rw[if_neg (by decide),if_neg (by decide),if_neg (by decide),if_pos hg]])
 |(cases l6;rw[show Cb.told {p with h:=Hd.zero,begun:=false} 4 h'.v true=Cb.put {p with h:=Hd.zero,begun:=false} (p.c.begin false (-1)) from by unfold Cb.told;rw[if_neg (by decide),if_neg (by decide),if_pos rfl];rfl])
 |(cases mu;rw[show Cb.told {p with h:=Hd.zero,begun:=false} 2 h'.v false=Cb.put {p with h:=Hd.zero,begun:=false} (p.c.length false h'.v) from by unfold Cb.told;rw[if_neg (by decide),if_pos (by decide)];rfl])
 |(cases lv;rw[show Cb.told {p with h:=Hd.zero,begun:=false} 5 h'.v true=Cb.put {p with h:=Hd.zero,begun:=false} (p.c.begin true (-1)) from by unfold Cb.told;rw[if_neg (by decide),if_neg (by decide),if_pos rfl];rfl])
 |rw[show Cb.told {p with h:=Hd.zero,begun:=false} 3 h'.v false=Cb.put {p with h:=Hd.zero,begun:=false} (p.c.length true h'.v) from by unfold Cb.told;rw[if_neg (by decide),if_pos (by decide)];rfl]
 have eN:=hid cS;have lz:=hid gp;have bP:=cS.bG.az.lt;clear cS gp;go_enter func173,ntmps173;go_wp2_with fail
 refine lz.out.mono ?_;rintro e w1 ⟨rfl,oI,k1⟩;have gJ:=oI.db (i:=7) (u:= .bool false);have k2:=k1.dO (i:=19) (aD _ _ _) (.bool false);have Kp:a8 (w1.setCell ⟨b,19,none⟩ (.bool false)) base b 201 (h'.cells++[.bool false]) ov sv p.c:=gJ;have g19:w1.cell? ⟨b,19,none⟩=some (.bool p.begun):=oI.az.cell 19;have f19:=oI.az.free 19;have Sh:=oI.az.lt;have BG:=hid Kp;have K2:=hid k2;obtain⟨w2,gU⟩: ∃w2,w1.setCell ⟨b,19,none⟩ (.bool false)=w2:=⟨_,rfl⟩
 rw[gU] at BG K2;have HW2:=hid gU;have rN:=BG.out.az.lt;clear oI k1 gJ k2 Kp gU;first
 |(cases FF;have hg2:h'.v≤1000000:=by omega)
 |skip
 have HMJ:=hid (fun W (k:I [] w2 W)=>FO (BG.out.aI k) he);have HVA:=hid (fun W (k:I [] w2 W)=>FQ (BG.out.aI k) he eB);have Jb:=hid (fun W (k:I [] w2 W)=>Kq (BG.out.aI k) he);have qj:=hid (fun W (k:I [] w2 W)=>FR (BG.out.aI k));rw[hm] at HMJ;rw[hw] at Jb;clear he eB hm hw;go_wp2_with fail
 rw[HW2.out];go_region_with (first|(go_at_call 179;refine(HMJ.out _ ((I.refl _ _).drew)).mono ?_;rintro e w' ⟨rfl,rfl⟩)|(go_at_call 180;refine(HVA.out _ ((I.refl _ _).drew)).mono ?_;rintro e w' ⟨rfl,rfl⟩)|(go_at_call 181;refine(Jb.out _ ((I.refl _ _).drew)).mono ?_;rintro e w' ⟨rfl,rfl⟩))
 first
 |(
  cases bl;all_goals
   go_wp2_with fail
   refine(qj.out _ ((I.refl _ _).drew)).mono ?_;rintro e w4 ⟨⟨vv,rfl⟩,kn,k4⟩;have K4:=hid (K2.out.trans (((I.refl _ w2).drew).trans k4));have kc:=hid (show aG N w4 base b 201 (aQ {p with h:=Hd.zero,begun:=false}) ov sv p.c from⟨kn,eN.out.fit,eN.out.sR,Nat.le_trans eN.out.gQ K4.out.size⟩);have pK:=kn.az.lt;clear kn k4;obtain⟨g0,g1,g2,g3,g4,g5,g6,g7⟩:=bU kc.out.bG;obtain⟨f1,f2,f3,f4,f5,f6,f7,adv⟩:=fu kc.out.bG;go_wp2_with fail
   go_ret;refine⟨_,rfl,aP.nil _ _,ov,sv,?_,(K4.out.dO (aD _ _ _) _).dO (aD _ _ _) _,fun i hi=>inl hi⟩;exact(kc.out.bG.put (i:=5) (u:= .bool true) (k':={p.c with chunks:=true}) (by omega) rfl rfl rfl).put (i:=4) (u:= .bool false) (k':={p.c with chunks:=true,word:=false}) (by omega) rfl rfl rfl)
 |(
  cases lD;all_goals
   go_wp2_with fail
   refine(qj.out _ ((I.refl _ _).drew)).mono ?_;rintro e w4 ⟨⟨vv,rfl⟩,kn,k4⟩;have K4:=hid (K2.out.trans (((I.refl _ w2).drew).trans k4));have kc:=hid (show aG N w4 base b 201 (aQ {p with h:=Hd.zero,begun:=false}) ov sv p.c from⟨kn,eN.out.fit,eN.out.sR,Nat.le_trans eN.out.gQ K4.out.size⟩);have pK:=kn.az.lt;clear kn k4;obtain⟨g0,g1,g2,g3,g4,g5,g6,g7⟩:=bU kc.out.bG;obtain⟨f1,f2,f3,f4,f5,f6,f7,adv⟩:=fu kc.out.bG;go_wp2_with fail
   go_ret;refine⟨_,rfl,aP.nil _ _,ov,sv,?_,(K4.out.dO (aD _ _ _) _).dO (aD _ _ _) _,fun i hi=>inl hi⟩;exact(kc.out.bG.put (i:=5) (u:= .bool true) (k':={p.c with chunks:=true}) (by omega) rfl rfl rfl).put (i:=4) (u:= .bool true) (k':={p.c with chunks:=true,word:=true}) (by omega) rfl rfl rfl)
 |(
  cases eW;all_goals
   go_wp2_with fail
   refine(qj.out _ ((I.refl _ _).drew)).mono ?_;rintro e w4 ⟨⟨vv,rfl⟩,kn,k4⟩;have K4:=hid (K2.out.trans (((I.refl _ w2).drew).trans k4));have kc:=hid (show aG N w4 base b 201 (aQ {p with h:=Hd.zero,begun:=false}) ov sv p.c from⟨kn,eN.out.fit,eN.out.sR,Nat.le_trans eN.out.gQ K4.out.size⟩);have pK:=kn.az.lt;clear kn k4;go_wp2_with fail
   refine(oJ kc.out false h'.v).mono ?_;rintro e w5 hg;obtain⟨v,rfl,au,aM⟩:=aV.cb hg;obtain⟨av,cv,rfl⟩:=au.shape;have cO:=hid au;have cj:=hid aM;clear au aM hg;go_wp2_with fail
   go_ret;exact aF.trans K4.out (fun i hi=>inl hi) ⟨_,rfl,cO.out,cj.out⟩)
 |(
  cases iH;all_goals
   go_wp2_with fail
   refine(qj.out _ ((I.refl _ _).drew)).mono ?_;rintro e w4 ⟨⟨vv,rfl⟩,kn,k4⟩;have K4:=hid (K2.out.trans (((I.refl _ w2).drew).trans k4));have kc:=hid (show aG N w4 base b 201 (aQ {p with h:=Hd.zero,begun:=false}) ov sv p.c from⟨kn,eN.out.fit,eN.out.sR,Nat.le_trans eN.out.gQ K4.out.size⟩);have pK:=kn.az.lt;clear kn k4;go_wp2_with fail
   refine(oJ kc.out true h'.v).mono ?_;rintro e w5 hg;obtain⟨v,rfl,au,aM⟩:=aV.cb hg;obtain⟨av,cv,rfl⟩:=au.shape;have cO:=hid au;have cj:=hid aM;clear au aM hg;go_wp2_with fail
   go_ret;exact aF.trans K4.out (fun i hi=>inl hi) ⟨_,rfl,cO.out,cj.out⟩)
 |(
  cases l6;all_goals
   go_wp2_with fail
   refine(qj.out _ ((I.refl _ _).drew)).mono ?_;rintro e w4 ⟨⟨vv,rfl⟩,kn,k4⟩;have K4:=hid (K2.out.trans (((I.refl _ w2).drew).trans k4));have kc:=hid (show aG N w4 base b 201 (aQ {p with h:=Hd.zero,begun:=false}) ov sv p.c from⟨kn,eN.out.fit,eN.out.sR,Nat.le_trans eN.out.gQ K4.out.size⟩);have pK:=kn.az.lt;clear kn k4;go_wp2_with fail
   refine(oJ kc.out false (-1)).mono ?_;rintro e w5 hg;obtain⟨v,rfl,au,aM⟩:=aV.cb hg;obtain⟨av,cv,rfl⟩:=au.shape;have cO:=hid au;have cj:=hid aM;clear au aM hg;go_wp2_with fail
   go_ret;exact aF.trans K4.out (fun i hi=>inl hi) ⟨_,rfl,cO.out,cj.out⟩)
 |(
  cases mu;all_goals
   go_wp2_with fail
   refine(qj.out _ ((I.refl _ _).drew)).mono ?_;rintro e w4 ⟨⟨vv,rfl⟩,kn,k4⟩;have K4:=hid (K2.out.trans (((I.refl _ w2).drew).trans k4));have kc:=hid (show aG N w4 base b 201 (aQ {p with h:=Hd.zero,begun:=false}) ov sv p.c from⟨kn,eN.out.fit,eN.out.sR,Nat.le_trans eN.out.gQ K4.out.size⟩);have pK:=kn.az.lt;clear kn k4;go_wp2_with fail
   refine(uP kc.out false h'.v km iR).mono ?_;rintro e w5 hg;obtain⟨v,rfl,au,aM⟩:=aV.cb hg;obtain⟨av,cv,rfl⟩:=au.shape;have cO:=hid au;have cj:=hid aM;clear au aM hg;go_wp2_with fail
   go_ret;exact aF.trans K4.out (fun i hi=>inl hi) ⟨_,rfl,cO.out,cj.out⟩)
 |(
  cases lv;all_goals
   go_wp2_with fail
   refine(qj.out _ ((I.refl _ _).drew)).mono ?_;rintro e w4 ⟨⟨vv,rfl⟩,kn,k4⟩;have K4:=hid (K2.out.trans (((I.refl _ w2).drew).trans k4));have kc:=hid (show aG N w4 base b 201 (aQ {p with h:=Hd.zero,begun:=false}) ov sv p.c from⟨kn,eN.out.fit,eN.out.sR,Nat.le_trans eN.out.gQ K4.out.size⟩);have pK:=kn.az.lt;clear kn k4;go_wp2_with fail
   refine(oJ kc.out true (-1)).mono ?_;rintro e w5 hg;obtain⟨v,rfl,au,aM⟩:=aV.cb hg;obtain⟨av,cv,rfl⟩:=au.shape;have cO:=hid au;have cj:=hid aM;clear au aM hg;go_wp2_with fail
   go_ret;exact aF.trans K4.out (fun i hi=>inl hi) ⟨_,rfl,cO.out,cj.out⟩)
 |(
  cases qn;all_goals
   go_wp2_with fail
   refine(qj.out _ ((I.refl _ _).drew)).mono ?_;rintro e w4 ⟨⟨vv,rfl⟩,kn,k4⟩;have K4:=hid (K2.out.trans (((I.refl _ w2).drew).trans k4));have kc:=hid (show aG N w4 base b 201 (aQ {p with h:=Hd.zero,begun:=false}) ov sv p.c from⟨kn,eN.out.fit,eN.out.sR,Nat.le_trans eN.out.gQ K4.out.size⟩);have pK:=kn.az.lt;clear kn k4;go_wp2_with fail
   refine(uP kc.out true h'.v km iR).mono ?_;rintro e w5 hg;obtain⟨v,rfl,au,aM⟩:=aV.cb hg;obtain⟨av,cv,rfl⟩:=au.shape;have cO:=hid au;have cj:=hid aM;clear au aM hg;go_wp2_with fail
   go_ret;exact aF.trans K4.out (fun i hi=>inl hi) ⟨_,rfl,cO.out,cj.out⟩)
 |(
  cases yj;all_goals
   go_wp2_with fail
   refine(qj.out _ ((I.refl _ _).drew)).mono ?_;rintro e w4 ⟨⟨vv,rfl⟩,kn,k4⟩;have K4:=hid (K2.out.trans (((I.refl _ w2).drew).trans k4));have kc:=hid (show aG N w4 base b 201 (aQ {p with h:=Hd.zero,begun:=false}) ov sv p.c from⟨kn,eN.out.fit,eN.out.sR,Nat.le_trans eN.out.gQ K4.out.size⟩);have pK:=kn.az.lt;clear kn k4;go_wp2_with fail
   refine((fq false h'.v▸mA kc.out (ay false h'.v):Calls prog _ _ _ _)).mono ?_;rintro e w5 hg;obtain⟨v,rfl,au,aM⟩:=aV.cb hg;obtain⟨av,cv,rfl⟩:=au.shape;have cO:=hid au;have cj:=hid aM;clear au aM hg;go_wp2_with fail
   go_ret;exact aF.trans K4.out (fun i hi=>inl hi) ⟨_,rfl,cO.out,cj.out⟩)
 |(
  cases Nc;all_goals
   go_wp2_with fail
   refine(qj.out _ ((I.refl _ _).drew)).mono ?_;rintro e w4 ⟨⟨vv,rfl⟩,kn,k4⟩;have K4:=hid (K2.out.trans (((I.refl _ w2).drew).trans k4));have kc:=hid (show aG N w4 base b 201 (aQ {p with h:=Hd.zero,begun:=false}) ov sv p.c from⟨kn,eN.out.fit,eN.out.sR,Nat.le_trans eN.out.gQ K4.out.size⟩);have pK:=kn.az.lt;clear kn k4;go_wp2_with fail
   refine((fq true h'.v▸mA kc.out (ay true h'.v):Calls prog _ _ _ _)).mono ?_;rintro e w5 hg;obtain⟨v,rfl,au,aM⟩:=aV.cb hg;obtain⟨av,cv,rfl⟩:=au.shape;have cO:=hid au;have cj:=hid aM;clear au aM hg;go_wp2_with fail
   go_ret;exact aF.trans K4.out (fun i hi=>inl hi) ⟨_,rfl,cO.out,cj.out⟩)
 |(
  all_goals
   go_wp2_with fail
   refine(qj.out _ ((I.refl _ _).drew)).mono ?_;rintro e w4 ⟨⟨vv,rfl⟩,kn,k4⟩;have K4:=hid (K2.out.trans (((I.refl _ w2).drew).trans k4));have kc:=hid (show aG N w4 base b 201 (aQ {p with h:=Hd.zero,begun:=false}) ov sv p.c from⟨kn,eN.out.fit,eN.out.sR,Nat.le_trans eN.out.gQ K4.out.size⟩);have pK:=kn.az.lt;clear kn k4;go_wp2_with fail
   refine(gx 7 p.c w4 base b _ _ ov sv kc.out.bG).mono ?_;rintro e w5 hg;obtain⟨v,rfl,au,aM⟩:=aV.cb hg;obtain⟨av,cv,rfl⟩:=au.shape;have cO:=hid au;have cj:=hid aM;clear au aM hg;go_wp2_with fail
   go_ret;exact aF.trans K4.out (fun i hi=>inl hi) ⟨_,rfl,cO.out,cj.out⟩)):p:=h
theorem lM {p:Prop} (h:p:=by
 have bP:=h.bG.az.lt;have HH:=hid h;have HBG:=hid cY;have HZ:=hid hz;have HD:=hid (zx p.c w base b _ _ ov sv h.bG);have HA:=hid (Kr p.c w base b _ _ ov sv h.bG h.opens (fun c hc=>by have:=h.parts c hc;have:=h.sR;omega));have HFU:=hid (zy p.c w base b _ _ ov sv h.bG);have Zn:=hid (fun e W (k:I [] w W)=>gx e p.c W base b _ _ ov sv (h.aI k).bG);obtain⟨g0,g1,g2,g3,g4,g5,g6,g7⟩:=bU h.bG;have hand:=qC cy cQ;clear h cY hz;first
 |((first|cases R5|cases R6|cases VP|cases VQ|cases VR|cases VS|cases VT|cases VU);obtain⟨res,iI⟩: ∃res,p.chunk x=res:=⟨_,rfl⟩)
 |obtain⟨res,iI⟩: ∃res,p.item x=res:=⟨_,rfl⟩
 rw[iI];have HR:=hid iI;clear iI;first
 |(cases Y3;have HM:=hid (show p.item x=p.put p.c.Cl by unfold Cb.item;rw[if_neg (show¬p.c.done=true by rw[hd];simp),if_neg (by omega),if_pos hx]);subst hx;have HB:=hid (Sn HH.out);go_enter func175,ntmps175)
 |(
  cases VP;have HM:=hid (show p.chunk x=p.put (p.c.fail 2) by unfold Cb.chunk;rw[if_neg hx,if_pos (by rw[hw];exact inl hm)]);have MZ:(x==255)=false:=by simpa using hx
  have Wc:(x/32 != 3)=true:=by simpa using hm
  clear hx hm;rw[hw] at g4;go_enter func174,ntmps174)
 |(
  cases VQ;have HM:=hid (show p.chunk x=p.put (p.c.fail 2) by unfold Cb.chunk;rw[if_neg hx,if_pos (by rw[hw];exact inl hm)]);have MZ:(x==255)=false:=by simpa using hx
  have Wc:(x/32 != 2)=true:=by simpa using hm
  clear hx hm;rw[hw] at g4;go_enter func174,ntmps174)
 |(cases Y7;have HM:=hid (show p.item x=p.put (p.c.fail 2) by unfold Cb.item;rw[if_pos hd]);go_enter func175,ntmps175)
 |(
  (first|cases R5|cases R6)
  have HM:=hid (show p.chunk x=p.first x by unfold Cb.chunk;rw[if_neg (by omega),if_neg (by rw[hw];simp;exact⟨hm,hl⟩)]);have MZ:(x==255)=false:=by simp;omega
  have Ro:(x % 32==31)=false:=by simpa using hl
  clear hl;rw[hw] at g4;go_enter func174,ntmps174)
 |(
  (first|cases VR|cases VS)
  have HM:=hid (show p.chunk x=p.put (p.c.fail 2) by unfold Cb.chunk;rw[if_neg (by omega),if_pos (inr (by omega))]);subst hx;rw[hw] at g4;go_enter func174,ntmps174)
 |(
  (first|cases VT|cases VU)
  have HM:=hid (show p.chunk x=p.put p.c.text by unfold Cb.chunk;rw[if_pos hx]);subst hx;rw[hw] at g4;have HT:=hid (qD HH.out);go_enter func174,ntmps174)
 |(
  (first|cases Y4|cases Y5|cases Y6)
  have HM:=hid (show p.item x=p.put (p.c.fail 2) by unfold Cb.item;rw[if_neg (show¬p.c.done=true by rw[hd];simp),if_pos (inr (by omega))]);subst hx;go_enter func175,ntmps175)
 |(
  first
  |(
   cases lv;have HM:=hid (show p.item x=p.simple (x % 32) by unfold Cb.item;rw[if_neg (show¬p.c.done=true by rw[hd];simp),if_neg (by omega),if_neg (by omega),if_neg (show¬ (p.c.atKey=true∧x/32≠3∨x/32=6) by rw[hk];simp;omega),if_pos (by omega)]);have pg: ¬28≤x % 32:=by omega
   have nS:(x % 32==31)=false:=by simp;omega
   have MZ:(x==255)=false:=by simp;omega
   have HS:=hid (FT HH.out (x % 32) (by omega)))
  |(
   cases qn;have HM:=hid (show p.item x=p.first x by unfold Cb.item;rw[if_neg (show¬p.c.done=true by rw[hd];simp),if_neg (by omega),if_neg (by omega),if_neg (show¬ (p.c.atKey=true∧x/32≠3∨x/32=6) by omega),if_neg (by omega),if_neg (by omega)]);have pg: ¬28≤x % 32:=by omega
   have nS:(x % 32==31)=false:=by simp;omega
   have MZ:(x==255)=false:=by simp;omega)
  |(
   cases acP;have HM:=hid (show p.item x=p.put (p.c.fail 8) by unfold Cb.item;rw[if_neg (show¬p.c.done=true by rw[hd];simp),if_neg (by omega),if_neg (by omega),if_pos (inr (by omega))]);have pg: ¬28≤x % 32:=by omega
   have nS:(x % 32==31)=false:=by simp;omega
   have MZ:(x==255)=false:=by simp;omega)
  |(cases VO;have HM:=hid (show p.item x=p.first x by unfold Cb.item;rw[if_neg (show¬p.c.done=true by rw[hd];simp),if_neg (by omega),if_neg (by omega),if_neg (show¬ (p.c.atKey=true∧x/32≠3∨x/32=6) by omega),if_neg (by omega),if_neg (by omega)]);subst hx)
  |(cases yj;have HM:=hid (show p.item x=p.first x by unfold Cb.item;rw[if_neg (show¬p.c.done=true by rw[hd];simp),if_neg (by omega),if_neg (by omega),if_neg (show¬ (p.c.atKey=true∧x/32≠3∨x/32=6) by rw[hk];simp;omega),if_neg (by omega),if_neg (show¬ ((x/32=4∨x/32=5)∧p.c.full=true) by rw[hf];simp)]);subst hx)
  |(cases Nc;have HM:=hid (show p.item x=p.put (p.c.fail 4) by unfold Cb.item;rw[if_neg (show¬p.c.done=true by rw[hd];simp),if_neg (by omega),if_neg (by omega),if_neg (show¬ (p.c.atKey=true∧x/32≠3∨x/32=6) by rw[hk];simp;omega),if_neg (by omega),if_pos ⟨by omega,hf⟩]);subst hx)
  |(
   (first|cases VM|cases VN)
   have HM:=hid (show p.item x=p.first x by unfold Cb.item;rw[if_neg (show¬p.c.done=true by rw[hd];simp),if_neg (by omega),if_neg (by omega),if_neg (show¬ (p.c.atKey=true∧x/32≠3∨x/32=6) by rw[hk];simp;omega),if_neg (by omega),if_neg (by omega)]);subst hx)
  |(
   (first|cases acQ|cases acR|cases acS)
   have HM:=hid (show p.item x=p.put (p.c.fail 8) by unfold Cb.item;rw[if_neg (show¬p.c.done=true by rw[hd];simp),if_neg (by omega),if_neg (by omega),if_pos (inl ⟨hk,by omega⟩)]);subst hx)
  |(cases R4;have HM:=hid (show p.item x=p.put (p.c.fail 2) by unfold Cb.item;rw[if_neg (show¬p.c.done=true by rw[hd];simp),if_pos (inl (by omega))]);rw[hl] at hand;have MZ:(x==255)=false:=by simp;omega)
  |(
   cases R1;first
   |(cases mS;have HM:=hid (show p.item x=p.first x by unfold Cb.item;rw[if_neg (show¬p.c.done=true by rw[hd];simp),if_neg (by omega),if_neg (by omega),if_neg (show¬ (p.c.atKey=true∧x/32≠3∨x/32=6) by rw[hk];simp;omega),if_neg (by omega),if_neg (show¬ ((x/32=4∨x/32=5)∧p.c.full=true) by rw[hf];simp)]))
   |have HM:=hid (show p.item x=p.put (p.c.fail 4) by unfold Cb.item;rw[if_neg (show¬p.c.done=true by rw[hd];simp),if_neg (by omega),if_neg (by omega),if_neg (show¬ (p.c.atKey=true∧x/32≠3∨x/32=6) by rw[hk];simp;omega),if_neg (by omega),if_pos ⟨by omega,hf⟩])
   have pg: ¬28≤x % 32:=by omega
   have nS:(x % 32==31)=false:=by simp;omega
   have MZ:(x==255)=false:=by simp;omega)
  |(
   (first|cases BD|cases zh|cases l6|cases mu)
   have HM:=hid (show p.item x=p.first x by unfold Cb.item;rw[if_neg (show¬p.c.done=true by rw[hd];simp),if_neg (by omega),if_neg (by omega),if_neg (show¬ (p.c.atKey=true∧x/32≠3∨x/32=6) by rw[hk];simp;omega),if_neg (by omega),if_neg (by omega)]);have pg: ¬28≤x % 32:=by omega
   have nS:(x % 32==31)=false:=by simp;omega
   have MZ:(x==255)=false:=by simp;omega)
  |(
   have HM:=hid (show p.item x=p.put (p.c.fail 8) by unfold Cb.item;rw[if_neg (show¬p.c.done=true by rw[hd];simp),if_neg (by omega),if_neg (by omega),if_pos (inl ⟨hk,by omega⟩)]);have pg: ¬28≤x % 32:=by omega
   have nS:(x % 32==31)=false:=by simp;omega
   have MZ:(x==255)=false:=by simp;omega)
  go_enter func175,ntmps175)
 go_wp2_with fail
 first
 |(
  cases Y3;refine HD.out.mono ?_;rintro e w' ⟨rfl,rfl⟩;rw[hd];clear hd;go_wp2_with fail
  refine(HB.out).mono ?_)
 |((first|cases R5|cases R6);refine(gy HH.out HZ.out x (by omega) (by omega) (by omega)).mono ?_)
 |((first|cases VT|cases VU);refine(HT.out).mono ?_)
 |((first|cases VP|cases VQ|cases VR|cases VS);refine(Zn.out 2 w (I.refl _ _)).mono ?_)
 |(
  (first|cases Y4|cases Y5|cases Y6|cases Y7)
  refine HD.out.mono ?_;rintro e w' ⟨rfl,rfl⟩;rw[hd];clear hd;go_wp2_with fail
  refine(Zn.out 2 w (I.refl _ _)).mono ?_)
 |(
  refine HD.out.mono ?_;rintro e w' ⟨rfl,rfl⟩;rw[hd];clear hd;go_wp2_with fail
  first
  |(cases R4;refine(Zn.out 2 w (I.refl _ _)).mono ?_)
  |(
   refine HA.out.mono ?_;rintro e w' ⟨rfl,rfl⟩;rw[hk];clear hk;go_wp2_with fail
   first
   |(cases lv;refine(HS.out).mono ?_)
   |(cases VN;refine(gy HH.out HZ.out 95 (by omega) (by omega) (by omega)).mono ?_)
   |((first|cases VM|cases VO);refine(gy HH.out HZ.out 127 (by omega) (by omega) (by omega)).mono ?_)
   |((first|cases BD|cases zh|cases l6|cases mu|cases qn);refine(gy HH.out HZ.out x (by omega) (by omega) (by omega)).mono ?_)
   |(
    cases ze;refine HFU.out.mono ?_;rintro e w1 ⟨rfl,k1⟩;have K1:=hid k1;rw[hf];clear k1 hf;go_wp2_with fail
    first
    |(cases jn;refine(gy (HH.out.aI K1.out) HZ.out 159 (by omega) (by omega) (by omega)).mono ?_)
    |(cases l5;refine(gy (HH.out.aI K1.out) HZ.out 191 (by omega) (by omega) (by omega)).mono ?_)
    |(cases mS;refine(gy (HH.out.aI K1.out) HZ.out x (by omega) (by omega) (by omega)).mono ?_)
    |refine(Zn.out 4 w1 K1.out).mono ?_)
   |refine(Zn.out 8 w (I.refl _ _)).mono ?_))
 rintro e w9 Sp;first
 |((first|cases bl|cases lD|cases jn|cases l5|cases BD|cases zh|cases l6|cases mu|cases lv|cases qn|cases VM|cases VN|cases VO|cases R5|cases R6);skip)
 |have Sp:=aV.cb Sp
 obtain⟨v9,rfl,kR,ND⟩:=Sp;obtain⟨av9,cv9,rfl⟩:=kR.shape;have UQ:=hid kR;have NF:=hid ND;clear kR ND;go_wp2_with fail
 go_ret;rw[←HR.out,HM.out];first
 |(cases ze;exact aF.trans (K1.out.mono (by simp)) (fun i hi=>inl hi) ⟨_,rfl,UQ.out,NF.out⟩)
 |exact⟨_,rfl,UQ.out,NF.out⟩):p:=h
theorem q15 {p:Prop} (h:p:=by
 obtain⟨c0,c1,c2⟩:=h.facts;have H:=hid h;have hm:=h.many;clear h;first
 |(cases bl;go_enter func68,ntmps68)
 |go_enter func56,ntmps56
 go_wp2_with fail
 first
 |(cases bl;go_loopw [3,17] (fun f i wr=>Ks p w f i wr) (fun _ i _=>p.has.length- (intOf i).toNat))
 |go_loopw [3,13] (fun f i wr=>Wd p w f i wr) (fun _ i _=>p.has.length- (intOf i).toNat)
 case atStart=>exact⟨0,Nat.zero_le _,rfl,by simp,rfl⟩
 case round=>
  obtain⟨k,hk,rfl,rfl,rfl⟩:=hrel;by_cases dD:k<p.has.length
  ·have xw:(k:Int)<(p.has.length:Int):=by omega
   have BH:(0:Int)≤(k:Int):=by omega
   obtain⟨ch,BE,fT⟩:=H.out.yu dD;obtain⟨x,hx⟩: ∃x,p.has.getD k 0=x:=⟨_,rfl⟩
   have UR:=H.out.jA;first
   |(cases bl;have hs:=zz (p.has.take k) (fun y hy=>UR.2.2 y (List.mem_of_mem_take hy));have hox:=nc (x:=x) (by rw[←hx];exact⟨BE,fT⟩))
   |have hs:=uQ (p.has.take k) (fun y hy=>UR.2.2 y (List.mem_of_mem_take hy))
   have hlen:(p.has.take k).length≤8:=by rw[List.length_take];omega
   first
   |(cases bl;obtain⟨s,lA⟩: ∃s,((p.has.take k).map ovr).sum=s:=⟨_,rfl⟩)
   |obtain⟨s,lA⟩: ∃s,(p.has.take k).sum=s:=⟨_,rfl⟩
   rw[hx] at ch BE fT;rw[lA] at hs⊢;first
   |(
    cases bl;have hw:=da (x:=p.rest-s-ovr x) (by omega);have HOX:=hid (fun W=>zA x ⟨BE,by omega⟩ W);have HS:=hid (show((p.has.take (k+1)).map ovr).sum=s+ovr x by rw[List.take_succ_eq_append_getElem dD,List.map_append,List.sum_append,lA];simp only[List.map_cons,List.map_nil,List.sum_cons,List.sum_nil,Int.add_zero];rw[show p.has[k]=x by rw[←hx];simp[List.getD,dD]]))
   |(
    have hw:=da (x:=s+x) (by omega);have HS:=hid (show(p.has.take (k+1)).sum=s+x by rw[List.take_succ_eq_append_getElem dD,List.sum_append,lA];simp only[List.sum_cons,List.sum_nil,Int.add_zero];rw[show p.has[k]=x by rw[←hx];simp[List.getD,dD]]))
   clear lA hx hs;go_wp2_with fail
   first
   |(cases bl;refine(HOX.out _).mono ?_;rintro e w2 ⟨rfl,rfl⟩;go_wp2_with fail)
   |skip
   go_roundw;first
   |(cases bl;case rel=>exact⟨k+1,by omega,by go_num,by rw[HS.out];congr 1;omega,rfl⟩)
   |case rel=>exact⟨k+1,by omega,by go_num,by rw[HS.out],rfl⟩
   case measure=>simp[intOf];omega
  ·obtain rfl:k=p.has.length:=by omega
   have xw: ¬ ((p.has.length:Nat):Int)<(p.has.length:Int):=by omega
   rw[List.take_length];go_wp2_with fail
   go_ret;exact⟨rfl,rfl⟩):p:=h
theorem q16 {p:Prop} (h:p:=by
 first
 |(
  cases FE;have nf:=fun W hW hb=>FU base b mv p F t W hW hf hb;obtain⟨q,p',hr⟩: ∃q p',p.value t=(q,p'):=⟨_,_,rfl⟩
  rw[hr] at nf⊢)
 |skip
 obtain⟨kind,text,neg,jM⟩:=t;have eA:=ku h;first
 |(cases mS)
 |(obtain⟨o,c,Fy⟩:=h.maps.shape;rw[hm] at Fy;subst Fy)
 have xy:=h.aI (((I.refl [] w).alloc (.cells #[.int .u8 kind,.string text,.bool neg,.int .u64 jM] 209)));first
 |(cases mS;obtain⟨g,cap,rfl,gb,gl,gr,gm,gc,gne⟩:=NG xy hm;have Sq:r.length+1≤16:=by have:=hf.maps;have:=hf.depth;rw[hm] at*;simp only[List.length_cons] at*;omega)
 |skip
 obtain⟨g23,g24,zr,Kk,dD,ys⟩:=fl xy;obtain⟨f24,f25,f26⟩:=kt xy;first
 |(cases eW)
 |(cases iH;have hn:=hf.next)
 |(
  first
  |(cases bl)
  |have hn:=hf.next
  have US: ¬ (decide (kind=93∧m=false∧(p.next=1∨p.next=5)∨kind=125∧m=true∧(p.next=2∨p.next=5))=true):=by intro hc;apply hC;unfold Js.ends;rw[hm];exact hc)
 obtain⟨x,hx⟩: ∃x,p.next=x:=⟨_,rfl⟩
 first
 |(cases bl;rw[hx] at zr hE US)
 |(cases lD;rw[hx] at zr hA hB hD hE hn US;obtain⟨n,Jf⟩: ∃n:Nat,r.length=n:=⟨_,rfl⟩)
 |(cases eW;rw[hx] at zr hE)
 |rw[hx] at zr hA hB hD hE hn
 have H:=hid xy;first
 |(cases lD;rw[Jf] at g24 gr gc Sq H eA ys;have hx':x=2∨x=3∨x=4∨x=5∨x=6:=by omega)
 |(cases iH;have hx':x=2∨x=3∨x=4∨x=5∨x=6:=by omega)
 |skip
 have xj:kind=58∨kind=44∨kind=93∨kind=125∨kind=115∨((kind==58)=false∧(kind==44)=false∧(kind==93)=false∧(kind==125)=false∧(kind==115)=false):=by simp only[beq_eq_false_iff_ne];omega
 first
 |(
  cases eW;clear h xy hf hm hx hr;simp only[ew,ej.cells] at nf⊢;rcases hE with rfl|rfl<;>rcases xj with rfl|rfl|rfl|rfl|rfl|⟨k1,k2,k3,k4,k5⟩;all_goals
   go_enter func114,ntmps114;go_wp2_with fail
   refine(nf _ H.out (by simp;omega)).mono ?_;rintro e w1 ⟨rfl,h1⟩;have H1:=hid h1;clear h1;cases q<;>(
    simp only[rR];go_wp2_with fail
    go_ret2;exact⟨rfl,pL.trans ((I.refl _ w).alloc _) (fun _ hi=>inl hi) H1.out⟩))
 |(
  cases iH;clear h xy hf hm hE hn hx;simp only[ew,ej.cells];rcases hx' with rfl|rfl|rfl|rfl|rfl<;>rcases xj with rfl|rfl|rfl|rfl|rfl|⟨k1,k2,k3,k4,k5⟩;any_goals (solve|exact absurd ⟨rfl,rfl⟩ hA|exact absurd ⟨rfl,rfl⟩ hB|exact absurd ⟨rfl,inl rfl⟩ hD|exact absurd ⟨rfl,inr rfl⟩ hD)
  all_goals
   clear hA hB hD;go_enter func114,ntmps114;go_wp2_with fail
   go_ret2;exact⟨rfl,eT (H.out.uN 2) ((((I.refl _ _).alloc _)).setCell (inl eA) _)⟩)
 |(
  first
  |(
   cases bl;obtain⟨n,Jf⟩: ∃n:Nat,r.length=n:=⟨_,rfl⟩
   rw[Jf] at g24 gr gc Sq H eA ys nf)
  |skip
  rw[Jf];first
  |(cases bl;clear h xy hf hm hx hr Jf hC)
  |clear h xy hf hm hE hn hx hC Jf
  first
  |(cases bl;simp only[ew,ej.cells] at nf⊢)
  |simp only[ew,ej.cells]
  first
  |(cases bl;rcases hE with rfl|rfl<;>rcases xj with rfl|rfl|rfl|rfl|rfl|⟨k1,k2,k3,k4,k5⟩<;>cases m)
  |rcases hx' with rfl|rfl|rfl|rfl|rfl<;>rcases xj with rfl|rfl|rfl|rfl|rfl|⟨k1,k2,k3,k4,k5⟩<;>cases m
  first
  |(cases bl;any_goals (solve|(refine absurd ?_ US;decide)))
  |any_goals (solve|exact absurd ⟨rfl,rfl⟩ hA|exact absurd ⟨rfl,rfl⟩ hB|exact absurd ⟨rfl,inl rfl⟩ hD|exact absurd ⟨rfl,inr rfl⟩ hD|(refine absurd ?_ US;decide))
  first
  |(
   cases bl;all_goals
    clear US;go_enter func114,ntmps114;go_wp2_with fail
    refine(nf _ H.out (by simp;omega)).mono ?_;rintro e w1 ⟨rfl,h1⟩;have H1:=hid h1;clear h1;cases q<;>(
     simp only[rR];go_wp2_with fail
     go_ret2;exact⟨rfl,pL.trans ((I.refl _ w).alloc _) (fun _ hi=>inl hi) H1.out⟩))
  |(
   all_goals
    clear hA hB hD US;go_enter func114,ntmps114;go_wp2_with fail
    go_ret2;exact⟨rfl,eT (H.out.uN 2) ((((I.refl _ _).alloc _)).setCell (inl eA) _)⟩))):p:=h
theorem q17 {p:Prop} (h:p:=by
 obtain⟨l,hl,-,-⟩:=h.slot a.s_;have dU:=fv a.s_;rw[h.lens.1] at dU;obtain⟨-,-,-,-,-,bP,-⟩:=h.cells;first
 |(
  cases bl;have HF:=hid (fun W (kk:I [] w W)=>We ((h.aI kk).se k s l a.s_ hl));obtain⟨s2,fD⟩: ∃s2,(if(s.half||s.ended)=true then s else{s with half:=true})=s2:=⟨_,rfl⟩
  obtain⟨B,hB⟩: ∃B,(!(s.half||s.ended))=B:=⟨_,rfl⟩
  rw[fD,hB] at HF;rw[fD] at hf;rw[fD,hB])
 |(
  have HF:=hid (fun W (kk:I [] w W)=>Wf ((h.aI kk).se k s l a.s_ hl) he 13 (by omega) hq);obtain⟨s2,fD⟩: ∃s2,s.end_ 13 s.told=s2:=⟨_,rfl⟩
  rw[fD] at HF hf⊢)
 have HO:=hid (Sr h a.s_ hl id a.i_ a.m_ a.b_);have HH:=hid h;have HA:=hid a;have UT:=hid hf;have zB:=hid hl;first
 |(cases bl;clear h a hf fD hB hl)
 |clear h a hf fD hl
 first
 |(cases bl;go_enter func15,ntmps15)
 |go_enter func14,ntmps14
 go_wp2_with fail
 refine HO.out.mono ?_;rintro e1 w1 ⟨rfl,k1⟩;have K1:=hid k1;clear k1;go_wp2_with fail
 refine(HF.out w1 K1.out).mono ?_;first
 |(cases bl;rintro e3 w3 ⟨rfl,g3,k3⟩)
 |rintro e3 w3 ⟨rfl,mB,NH,xk,g3,k3,FK⟩
 have h2:=HH.out.aI K1.out;first
 |(
  cases bl;have hF: ∀i∈ [l.sb],i∈sB l:=fun i hi=>by rw[List.mem_singleton] at hi;rw[hi];exact nO ..
  have h3:=h2.Zo HA.out.s_ zB.out (l':=l) rfl g3 k3 hF (fun i hi=>inl hi) ⟨hN.1,Int.le_refl _,hN.2⟩)
 |have h3:=h2.Zo HA.out.s_ zB.out (l':=⟨l.sb,l.rb,l.rg,mB,NH,xk⟩) rfl g3 k3 (fun i hi=>hi) FK ⟨hN.1,Int.le_refl _,hN.2⟩
 have Kt:=HA.out.xz (s':=s2);have HC:=hid (kS hN.1 h3 (k:=k) (s:=s2) Kt.s_ Kt.o_ UT.out.1 UT.out.2);first
 |(cases bl;have B3:=hid ((HH.out.fw K1.out).trans (qE h2 k3 HA.out.s_ zB.out hF)))
 |have B3:=hid ((HH.out.fw K1.out).trans (qE h2 k3 HA.out.s_ zB.out (fun i hi=>hi)))
 have H3:=hid h3;first
 |(cases bl;clear h2 h3 Kt g3 k3 hF)
 |clear h2 h3 Kt g3 k3 FK
 go_wp2_with fail
 refine HC.out.mono ?_;rintro e4 w4 ⟨rfl,g4,k4⟩;have B4:=hid (B3.out.trans (kT H3.out k4));have G4:=hid g4;clear g4 k4;go_wp2_with fail
 go_ret;exact⟨rfl,_,G4.out,rfl,B4.out⟩):p:=h
theorem q18 {p:Prop} (h:p:=by
 first
 |(cases eW;have cL:=hid (fun W=>aK (aq y) (inr (inl ⟨_,rfl⟩)) W);have ez:=hid (fun W=>qz y W))
 |(cases iH;have cL:=hid (fun W=>aK ar (inl rfl) W);have ez:=hid (fun W=>qA W))
 |(
  first
  |(cases bl;have cL:=hid (fun W=>aK (ay y m) (inr (inr (inl ⟨_,_,rfl⟩))) W))
  |have cL:=hid (fun W=>aK (ah s) (inr (inr (inr (inl ⟨_,rfl⟩)))) W)
  first
  |(cases bl;have ez:=hid (fun W=>sQ y m hm W))
  |have ez:=hid (fun W=>qB s hs W))
 unfold Ko at ez;rw[cS] at ez;first
 |(cases bl;obtain⟨out,di⟩: ∃out,(aW (ay y m)).1=out:=⟨_,rfl⟩)
 |(cases lD;obtain⟨out,di⟩: ∃out,(aW (ah s)).1=out:=⟨_,rfl⟩)
 |(cases eW;obtain⟨out,di⟩: ∃out,(aW (aq y)).1=out:=⟨_,rfl⟩)
 |obtain⟨out,di⟩: ∃out,(aW ar).1=out:=⟨_,rfl⟩
 rw[di] at ez⊢;obtain⟨a,cap,rfl⟩:=h.bu.shape;have H:=hid h;obtain⟨g0,g1⟩:=h.cells;have bP:=h.az.lt;first
 |(cases eW;rw[ft] at cL ez⊢;simp only[Ev.val,Ev.cells,aq,aY] at cL)
 |(cases iH;rw[fU] at cL ez⊢;simp only[Ev.val,Ev.cells,ar,aY] at cL)
 |(
  first
  |(cases bl;rw[fq] at cL ez⊢)
  |rw[fr] at cL ez⊢
  first
  |(cases bl;simp only[Ev.val,Ev.cells,ay,aY] at cL)
  |simp only[Ev.val,Ev.cells,ah] at cL)
 simp only[List.length_nil] at*;have hnz:=hid (Has.aC w #[.int .i64 0,.bool false,.int .u64 0,.string ⟨#[]⟩,.int .i64 0] 34 rfl);clear h cS di;go_enter func238,ntmps238;go_wp2_with fail
 refine(cL.out _).mono ?_;rintro e w1 ⟨rfl,k1⟩;have H1:=hid (H.out.keeps k1 (by simp) (by simp));have K1:=hid k1;clear g0 g1 bP k1 H hnz;obtain⟨g0,g1⟩:=H1.out.cells;have bP:=H1.out.az.lt;go_wp2_with fail
 refine(ez.out _).mono ?_;rintro e w2 ⟨rfl,k2⟩;first
 |(cases bl;have Rp:=((((I.refl [] w1).alloc (.cells #[.int .i64 2,.bool y,.int .u64 m,.string ⟨#[]⟩,.int .i64 0] 34)).alloc (.cells #[] 218)).trans k2))
 |(cases lD;have Rp:=((((I.refl [] w1).alloc (.cells #[.int .i64 3,.bool false,.int .u64 0,.string s,.int .i64 0] 34)).alloc (.cells #[] 218)).trans k2))
 |(cases eW;have Rp:=((((I.refl [] w1).alloc (.cells #[.int .i64 1,.bool y,.int .u64 0,.string ⟨#[]⟩,.int .i64 0] 34)).alloc (.cells #[] 218)).trans k2))
 |have Rp:=((((I.refl [] w1).alloc (.cells #[.int .i64 0,.bool false,.int .u64 0,.string ⟨#[]⟩,.int .i64 0] 34)).alloc (.cells #[] 218)).trans k2)
 have H2:=hid (H1.out.keeps Rp (by simp) (by simp));have K2:=hid (K1.out.trans Rp);clear g0 g1 bP k2 Rp H1 K1;obtain⟨g0,g1⟩:=H2.out.cells;have f1:=H2.out.az.free 1;have bP:=H2.out.az.lt;go_wp2_with fail
 go_ret2;refine⟨rfl,_,(H2.out.fin true).keeps ((I.refl [] _).alloc _) (by simp) (by simp),?_,fun i hi=>inl hi⟩;exact((K2.out.mono nn).setCell (p:=⟨b,1,none⟩) (inl ms) _).alloc _):p:=h
theorem q19 {p:Prop} (h:p:=by
 first
 |(cases eW;have cL:=hid (fun W=>aK (aq y) (inr (inl ⟨_,rfl⟩)) W);have ez:=hid (fun W=>na y W))
 |(cases iH;have cL:=hid (fun W=>aK ar (inl rfl) W);have ez:=hid (fun W=>nb W))
 |(
  first
  |(cases bl;have cL:=hid (fun W=>aK (ay y m) (inr (inr (inl ⟨_,_,rfl⟩))) W))
  |have cL:=hid (fun W=>aK (ah s) (inr (inr (inr (inl ⟨_,rfl⟩)))) W)
  first
  |(cases bl;have ez:=hid (fun W=>nR y m hm W))
  |have ez:=hid (fun W=>kv s hs W))
 unfold Jd at ez;first
 |(cases bl;obtain⟨out,di⟩: ∃out,bZ (ay y m)=out:=⟨_,rfl⟩)
 |(cases lD;obtain⟨out,di⟩: ∃out,bZ (ah s)=out:=⟨_,rfl⟩)
 |(cases eW;obtain⟨out,di⟩: ∃out,bZ (aq y)=out:=⟨_,rfl⟩)
 |obtain⟨out,di⟩: ∃out,bZ ar=out:=⟨_,rfl⟩
 rw[di] at ez⊢;obtain⟨a,cap,rfl⟩:=h.bu.shape;have H:=hid h;obtain⟨g0,g1⟩:=h.cells;have bP:=h.az.lt;first
 |(cases eW;rw[ft] at cL ez⊢;simp only[Ev.val,Ev.cells,aq,aY] at cL)
 |(cases iH;rw[fU] at cL ez⊢;simp only[Ev.val,Ev.cells,ar,aY] at cL)
 |(
  first
  |(cases bl;rw[fq] at cL ez⊢)
  |rw[fr] at cL ez⊢
  first
  |(cases bl;simp only[Ev.val,Ev.cells,ay,aY] at cL)
  |simp only[Ev.val,Ev.cells,ah] at cL)
 simp only[List.length_nil] at*;clear h di;go_enter func231,ntmps231;go_wp2_with fail
 refine(cL.out _).mono ?_;rintro e w1 ⟨rfl,k1⟩;have H1:=hid (H.out.keeps k1 (by simp) (by simp));have K1:=hid k1;clear g0 g1 bP k1 H;obtain⟨g0,g1⟩:=H1.out.cells;have f1:=H1.out.az.free 1;have bP:=H1.out.az.lt;have rN:b<w1.heap.size+1:=by omega
 have Kh:b<w1.heap.size+1+1:=by omega
 go_wp2_with fail
 refine(ez.out _).mono ?_;rintro e w4 ⟨rfl,k4⟩;first
 |(cases bl;have kk:=((((I.refl [] (w1.setCell ⟨b,1,none⟩ (.bool true))).alloc (.cells #[.int .i64 2,.bool y,.int .u64 m,.string ⟨#[]⟩,.int .i64 0] 34)).alloc (.cells #[] 218)).alloc (.cells #[.bool false,.int .i64 0] 215)).trans k4)
 |(cases lD;have kk:=((((I.refl [] (w1.setCell ⟨b,1,none⟩ (.bool true))).alloc (.cells #[.int .i64 3,.bool false,.int .u64 0,.string s,.int .i64 0] 34)).alloc (.cells #[] 218)).alloc (.cells #[.bool false,.int .i64 0] 215)).trans k4)
 |(cases eW;have kk:=((((I.refl [] (w1.setCell ⟨b,1,none⟩ (.bool true))).alloc (.cells #[.int .i64 1,.bool y,.int .u64 0,.string ⟨#[]⟩,.int .i64 0] 34)).alloc (.cells #[] 218)).alloc (.cells #[.bool false,.int .i64 0] 215)).trans k4)
 |have kk:=((((I.refl [] (w1.setCell ⟨b,1,none⟩ (.bool true))).alloc (.cells #[.int .i64 0,.bool false,.int .u64 0,.string ⟨#[]⟩,.int .i64 0] 34)).alloc (.cells #[] 218)).alloc (.cells #[.bool false,.int .i64 0] 215)).trans k4
 have H4:=hid ((H1.out.fin true).keeps kk (by simp) (by simp));have K4:=hid ((I.setCell (F:=b::ae (.slice a 0 cap)) (p:=⟨b,1,none⟩) (K1.out.mono nn) (inl ms) (.bool true)).trans (kk.mono nn));clear kk k4 H1 K1;go_wp2_with fail
 go_ret2;exact⟨rfl,_,H4.out,K4.out,fun i hi=>inl hi⟩):p:=h
theorem q20 {p:Prop} (h:p:=by
 obtain⟨kind,text,neg,jM⟩:=t;have eA:=ku h;have xy:=h.aI (((I.refl [] w).alloc (.cells #[.int .u8 kind,.string text,.bool neg,.int .u64 jM] 209)));obtain⟨g,cap,rfl,gb,gl,gr,gm,gc,gne⟩:=NG xy hm;have Sq:r.length+1≤16:=by have:=hf.maps;have:=hf.depth;rw[hm] at*;simp only[List.length_cons] at*;omega
 obtain⟨g23,g24,zr,Kk,dD,ys⟩:=fl xy;obtain⟨f24,f25,f26⟩:=kt xy;first
 |(cases bl)
 |(simp only at hA;obtain⟨rfl,hx⟩:=hA;rw[hx] at zr;obtain⟨n,Jf⟩: ∃n:Nat,r.length=n:=⟨_,rfl⟩)
 have H:=hid xy;first
 |(cases bl;have HM:=hid hm)
 |rw[Jf] at g24 gr gc Sq H eA ys
 first
 |(cases bl;have Wg:=fun W yv p' hW=>yw base b yv p' F W hW)
 |rw[Jf]
 first
 |(cases bl;clear h xy hf hm)
 |clear h xy hf hm hx Jf
 simp only[ew,ej.cells];first
 |(
  cases bl;simp only at hC;have US:(kind=93∧m=false∧p.next=1)∨(kind=93∧m=false∧p.next=5)∨(kind=125∧m=true∧p.next=2)∨(kind=125∧m=true∧p.next=5):=by rcases hC with⟨h1,h2,h3|h3⟩|⟨h1,h2,h3|h3⟩<;>simp[h1,h2,h3]
  clear hC;rcases US with⟨rfl,rfl,hx⟩|⟨rfl,rfl,hx⟩|⟨rfl,rfl,hx⟩|⟨rfl,rfl,hx⟩;all_goals
   rw[hx] at zr;clear hx;go_enter func114,ntmps114;go_wp2_with fail
   refine(Wg _ _ _ (H.out.Jg (I.refl _ _) (dY.pop (HM.out▸H.out.maps)) (fun i hi=>inl hi))).mono ?_;rintro e w1 ⟨rfl,h1,k1⟩;have H1:=hid h1;have K1:=hid (NI eA k1);clear h1 k1;go_wp2_with fail
   go_ret2;exact⟨rfl,_,F,H1.out,((((I.refl _ w).alloc _).setCell (inl eA) _).trans K1.out),fun i hi=>inl hi⟩)
 |(
  cases m
  ·go_enter func114,ntmps114;go_wp2_with fail
   go_ret2;exact⟨rfl,eT (H.out.iS 0) ((((I.refl _ _).alloc _)).setCell (inl eA) _)⟩
  ·go_enter func114,ntmps114;go_wp2_with fail
   go_ret2;exact⟨rfl,eT ((H.out.iS 0).iS 3) (((((I.refl _ _).alloc _)).setCell (inl eA) _).setCell (inl eA) _)⟩)):p:=h
theorem q21 {p:Prop} (h:p:=by
 first
 |(cases bl;have HBT:=hid (fun W=>ma m n p hp W))
 |have HBT:=hid (fun W=>jJ m n p hp W)
 have hdiv:p.tdiv 2=p/2:=Int.tdiv_eq_ediv_of_nonneg hp.1;have hw:=da (x:=p/2) (by omega);unfold af.filled;cases m with
 |false=>
  first
  |(cases bl;go_enter func239,ntmps239)
  |go_enter func233,ntmps233
  go_wp2_with fail
  go_ret;exact⟨by first|rfl|exact dA (by simp),(I.refl _ _).alloc _⟩
 |true=>
  first
  |(cases bl;have aJ:=Has.aC w #[.bool true,.int .i64 n,.int .i64 p] 301 rfl)
  |have aJ:=Has.aC w #[.bool true,.int .i64 n,.int .i64 p] 299 rfl
  obtain⟨bt,jy⟩: ∃bt,af.aj ⟨true,n,p⟩=bt:=⟨_,rfl⟩
  rw[jy] at HBT⊢;cases bt with
  |true=>
   clear jy aJ;first
   |(cases bl;go_enter func239,ntmps239)
   |go_enter func233,ntmps233
   go_wp2_with fail
   refine(HBT.out _).mono ?_;rintro e w1 ⟨rfl,k1⟩;first
   |(cases bl;have K1:=hid (((I.refl [] w).alloc (.cells #[.bool true,.int .i64 n,.int .i64 p] 301)).trans k1))
   |have K1:=hid (((I.refl [] w).alloc (.cells #[.bool true,.int .i64 n,.int .i64 p] 299)).trans k1)
   clear k1;go_wp2_with fail
   go_ret;exact⟨by first|rfl|exact dA (by simp),K1.out⟩
  |false=>
   have HN:=hid aJ;clear jy aJ;first
   |(cases bl;go_enter func239,ntmps239)
   |go_enter func233,ntmps233
   go_wp2_with fail
   refine(HBT.out _).mono ?_;rintro e w1 ⟨rfl,k1⟩;have ij:=HN.out.keeps k1 (by simp);have c1:w1.cell? ⟨w.heap.size,1,none⟩=some (.int .i64 n):=ij.cell 1;have c2:w1.cell? ⟨w.heap.size,2,none⟩=some (.int .i64 p):=ij.cell 2;first
   |(cases bl;have K1:=hid (((I.refl [] w).alloc (.cells #[.bool true,.int .i64 n,.int .i64 p] 301)).trans k1))
   |have K1:=hid (((I.refl [] w).alloc (.cells #[.bool true,.int .i64 n,.int .i64 p] 299)).trans k1)
   clear k1 ij;go_wp2_with fail
   go_ret;exact⟨by first|rfl|exact dA (by simp),K1.out⟩):p:=h
theorem q22 {p:Prop} (h:p:=by
 have cL:=hid (fun W=>aK aL (inr (inr (inr (inr (inr (inr (inr rfl))))))) W);have H:=hid h;first
 |(cases bl;have HC:=hid (fun W (hW:cV W base b ov ⟨⟨m,n,q⟩::r,false⟩)=>NJ m hq hr jy hW))
 |have HC:=hid (fun W (hW:eR W base b ov ⟨⟨m,n,q⟩::r,false⟩)=>NK hn hq hr eP hW)
 obtain⟨a,cap,rfl⟩:=h.bu.shape;obtain⟨g0,g1⟩:=h.cells;have bP:=h.az.lt;rw[iQ] at cL⊢;simp only[Ev.val,Ev.cells,aL,aY] at cL;first
 |(
  cases bl;obtain⟨Nj,mj⟩: ∃t:List UInt8,[if m then 125 else 93]=t:=⟨_,rfl⟩
  rw[mj] at HC⊢;clear h jy hr hq mj;go_enter func203,ntmps203)
 |(clear h eP hr hq hn;go_enter func231,ntmps231)
 go_wp2_with fail
 refine(cL.out _).mono ?_;rintro e w1 ⟨rfl,k1⟩;have H1:=hid (H.out.keeps k1 (by simp) (by simp));have K1:=hid k1;clear g0 g1 bP k1 H;obtain⟨g0,g1⟩:=H1.out.cells;have bP:=H1.out.az.lt;go_wp2_with fail
 have kk:=((I.refl [] w1).alloc (.cells #[.int .i64 7,.bool false,.int .u64 0,.string ⟨#[]⟩,.int .i64 0] 34)).alloc (.cells #[] 218);refine(HC.out _ (H1.out.keeps kk (by simp) (by simp))).mono ?_;rintro e w2 ⟨rfl,oW,h2,k2,fT⟩;have K2:=hid ((K1.out.trans kk).mono (G:=b::ae (.slice a (r.length+1) cap)) nn |>.trans k2);have H2:=hid h2;have sS:=hid fT;have HS:=hid (K1.out.trans kk).size;clear h2 k2 fT kk g0 g1;go_wp2_with fail
 go_ret2;exact⟨rfl,_,H2.out,K2.out,fun i hi=>(sS.out i hi).imp id (fun h=>Nat.le_trans HS.out h)⟩):p:=h
theorem q23 {p:Prop} (h:p:=by
 first
 |(cases bl;simp only[Ev.val,Ev.cells,dv])
 |simp only[Ev.val,Ev.cells,ah]
 first
 |(cases bl;have H:=hid (fun W=>jS 2 t.size (by omega) (by omega) W))
 |have H:=hid (fun W=>jS 3 t.size (by omega) (by omega) W)
 have hw:IntKind.u64.wrap (t.size:Int)=t.size:=by simp[IntKind.wrap,IntKind.bits,IntKind.signed];omega
 first
 |(cases bl;have lx:(bytesOf (aU 2 t.size)).size≤9:=by rw[an];exact(dd 2 t.size).2)
 |have lx:(bytesOf (aU 3 t.size)).size≤9:=by rw[an];exact(dd 3 t.size).2
 first
 |(cases bl;obtain⟨hb,hhb⟩: ∃hb,bytesOf (aU 2 t.size)=hb:=⟨_,rfl⟩)
 |obtain⟨hb,hhb⟩: ∃hb,bytesOf (aU 3 t.size)=hb:=⟨_,rfl⟩
 rw[hhb] at lx H⊢;clear hhb;go_enter func25,ntmps25;go_wp2_with fail
 first
 |(cases bl;have aJ:=Has.aC w #[.int .i64 4,.bool false,.int .u64 0,.string t,.int .i64 0] 34 rfl)
 |have aJ:=Has.aC w #[.int .i64 3,.bool false,.int .u64 0,.string t,.int .i64 0] 34 rfl
 first
 |(cases bl;have k0:=(I.refl [] w).alloc (.cells #[.int .i64 4,.bool false,.int .u64 0,.string t,.int .i64 0] 34))
 |have k0:=(I.refl [] w).alloc (.cells #[.int .i64 3,.bool false,.int .u64 0,.string t,.int .i64 0] 34)
 first
 |(cases bl;obtain⟨w1,eK⟩: ∃w1,w.alloc (.cells #[.int .i64 4,.bool false,.int .u64 0,.string t,.int .i64 0] 34)=w1:=⟨_,rfl⟩)
 |obtain⟨w1,eK⟩: ∃w1,w.alloc (.cells #[.int .i64 3,.bool false,.int .u64 0,.string t,.int .i64 0] 34)=w1:=⟨_,rfl⟩
 rw[eK] at aJ k0;rw[eK];have c3:w1.cell? ⟨w.heap.size,3,none⟩=some (.string t):=aJ.cell 3;have K0:=hid k0;clear eK aJ k0;go_region_held (fun W=>W.cell? ⟨w.heap.size,3,none⟩=some (.string t)) (go_keep) ((go_at_call 23;refine(H.out _).mono ?_;rintro e w4 ⟨rfl,k4⟩;have d3:=k4.cell (p:=⟨w.heap.size,3,none⟩) c3 (by simp)))
 all_goals
  have K4:=hid (K0.out.drew.trans k4);go_wp2_with fail
  go_ret2;exact⟨rfl,K4.out⟩):p:=h
theorem q24 {p:Prop} (h:p:=by
 subst Cj Ck;have eN:=hid cS;have lz:=hid gp;have bP:=cS.bG.az.lt;clear cS gp;go_enter func173,ntmps173;go_wp2_with fail
 refine lz.out.mono ?_;rintro e w1 ⟨rfl,oI,k1⟩;have gJ:=oI.db (i:=7) (u:= .bool true);have k2:=k1.dO (i:=19) (aD _ _ _) (.bool true);have Kp:a8 (w1.setCell ⟨b,19,none⟩ (.bool true)) base b 201 (h'.cells++[.bool true]) ov sv p.c:=gJ;have g19:w1.cell? ⟨b,19,none⟩=some (.bool p.begun):=oI.az.cell 19;have f19:=oI.az.free 19;have Sh:=oI.az.lt;have BG:=hid Kp;have K2:=hid k2;obtain⟨w2,gU⟩: ∃w2,w1.setCell ⟨b,19,none⟩ (.bool true)=w2:=⟨_,rfl⟩
 rw[gU] at BG K2;have HW2:=hid gU;have rN:=BG.out.az.lt;clear oI k1 gJ k2 Kp gU;first
 |(cases bl;have hf:=gx 2 p.c w2 base b 201 _ ov sv BG.out;have HF:=hid hf;clear hf)
 |skip
 go_wp2_with fail
 rw[HW2.out];first
 |(cases bl;refine HF.out.mono ?_;rintro e w3 hg;obtain⟨v,rfl,au,aM⟩:=aV.cb (p:={p with h:=h',begun:=true}) hg;obtain⟨av,cv,rfl⟩:=au.shape;have cO:=hid au;have cj:=hid aM;clear au aM hg;go_wp2_with fail)
 |skip
 go_ret;first
 |(cases bl;exact aF.trans K2.out (fun i hi=>inl hi) ⟨_,rfl,cO.out,cj.out⟩)
 |exact⟨_,rfl,aP.nil _ _,ov,sv,BG.out,K2.out,fun i hi=>inl hi⟩):p:=h
theorem YA {p:Prop} (h:p:=by
 first
 |(cases eW;rw[show p.step x=p.more x by unfold Cb.step;rw[if_neg (by simp[he]),if_neg hl,if_pos cY]];have uR:=FV h.core (h.fit.head he cY).1 (h.fit.head he cY).2 x cy cQ)
 |(cases iH;rw[show p.step x=p.put (p.c.byte x) by unfold Cb.step;rw[if_neg (by simp[he]),if_pos hl]];have uR:=NL h.core x cy cQ hl)
 |(
  first
  |(cases bl;rw[show p.step x=p.item x by unfold Cb.step;rw[if_neg (by simp[he]),if_neg hl,if_neg (by simp[cY]),if_neg (by simp[Wh])]])
  |rw[show p.step x=p.chunk x by unfold Cb.step;rw[if_neg (by simp[he]),if_neg hl,if_neg (by simp[cY]),if_pos Wh]]
  first
  |(cases bl;have uR:=Ku h.core cY (h.fit.none_ he cY) x cy cQ)
  |have uR:=FW h.core cY (h.fit.none_ he cY) x cy cQ)
 have hlk:=Kv p.c w base b _ _ ov sv h.bG;obtain⟨g0,g1,g2,g3,g4,g5,g6,g7⟩:=bU h.bG;first
 |(cases iH)
 |have q0:w.cell? ⟨b,19,none⟩=some (.bool p.begun):=h.bG.az.cell 19
 have bP:=h.bG.az.lt;have fX:(p.c.e != 0)=false:=by simp[he]
 have HB:=hid uR;have HL:=hid hlk;first
 |(cases iH)
 |(
  rw[cY] at q0;first
  |(cases eW)
  |rw[Wh] at g5)
 clear h he uR hlk;go_enter func169,ntmps169;go_wp2_with fail
 refine HL.out.mono ?_;rintro e w' ⟨rfl,rfl⟩;first
 |(cases iH;rw[decide_eq_true hl])
 |rw[decide_eq_false (show¬0<p.c.aT by omega)]
 go_wp2_with fail
 refine HB.out.mono ?_;rintro e w2 hg;first
 |(cases iH;have hg:=aV.cb hg)
 |skip
 obtain⟨v,rfl,au,nL,xl,iT,iA,fT⟩:=hg;obtain⟨av,cv,rfl⟩:=au.shape;have cO:=hid au;have Ss:=hid iT;have HK:=hid iA;have sS:=hid fT;obtain⟨g0,g1,g2,g3,g4,g5,g6,g7⟩:=bU iT;clear au iT iA fT;go_wp2_with fail
 go_quiet (fail)
 go_wp2_with fail
 go_ret2;exact⟨_,rfl,ab cO.out ((I.refl [] _).drewN _) (by simp),nL,xl,a8.aI Ss.out ((I.refl _ _).drewN _),HK.out.drewN _,sS.out⟩):p:=h
theorem q26 {p:Prop} (h:p:=by
 first
 |(cases bl;have hv: ∀q,(p.c.value q).1.length≤18:=fun q=>Nat.le_trans (oK h.core q) (by omega))
 |skip
 unfold Cb.step;by_cases he:p.c.e≠0
 ·rw[if_pos he];simp
 rw[if_neg he];have qk:p.c.e=0:=by omega
 split
 ·first
  |(cases bl;rename_i hl;exact Nat.le_trans (NM h.core hl b) (by omega))
  |exact FX b
 split
 ·rename_i cY;first
  |(cases bl;exact NN h.core (h.head qk cY).1 hb)
  |exact FY (h.head qk cY).1 hb
 split
 ·unfold Cb.chunk;split
  ·first
   |(cases bl;exact Nat.le_trans (uS h.core) (by omega))
   |exact nT
  by_cases h2:b/32≠(if p.c.word=true then 3 else 2)∨b % 32=31
  ·rw[if_pos h2];simp[Cb.put,Core.fail]
  ·first
   |(cases bl;rw[if_neg h2];exact yx h.core)
   |rw[if_neg h2];exact sT
 ·unfold Cb.item;split
  ·simp[Cb.put,Core.fail]
  split
  ·simp[Cb.put,Core.fail]
  split
  ·first
   |(cases bl;exact Su h.core)
   |exact Kw
  split
  ·simp[Cb.put,Core.fail]
  split
  ·unfold Cb.simple;split
   ·first
    |(cases bl;exact hv _)
    |exact fF (inr (inl ⟨_,rfl⟩))
   split
   ·first
    |(cases bl;exact hv _)
    |exact fF (inl rfl)
   split
   ·simp[Cb.put,Core.fail]
   ·simp[Cb.put,Core.fail]
  split
  ·simp[Cb.put,Core.fail]
  ·first
   |(cases bl;exact yx h.core)
   |exact sT):p:=h
theorem YC {p:Prop} (h:p:=by
 first
 |(
  cases l5;have hs:strOfNums [(v:Int)]=bytesOf [UInt8.ofNat (0+v)]:=by rw[Nat.zero_add];rfl
  have aH:=fun(W:World) (n:Nat) (hn:n=W.heap.size)=>jO (P:=prog) 63 9 5 underlying63 underlying5 underlying9 [(v:Int)] W n hn)
 |(
  first
  |(
   cases eW;obtain⟨x,hx⟩: ∃x:Int,x=32+(v:Int):=⟨_,rfl⟩
   have hs:strOfNums [x]=bytesOf [UInt8.ofNat (32+v)]:=by rw[show x=((32+v:Nat):Int) by omega];rfl)
  |(
   cases iH;obtain⟨x,hx⟩: ∃x:Int,x=64+(v:Int):=⟨_,rfl⟩
   have hs:strOfNums [x]=bytesOf [UInt8.ofNat (64+v)]:=by rw[show x=((64+v:Nat):Int) by omega];rfl)
  |(
   cases jn;obtain⟨x,hx⟩: ∃x:Int,x=96+(v:Int):=⟨_,rfl⟩
   have hs:strOfNums [x]=bytesOf [UInt8.ofNat (96+v)]:=by rw[show x=((96+v:Nat):Int) by omega];rfl)
  |(
   first
   |(cases bl;obtain⟨x,hx⟩: ∃x:Int,x=128+(v:Int):=⟨_,rfl⟩)
   |obtain⟨x,hx⟩: ∃x:Int,x=160+(v:Int):=⟨_,rfl⟩
   first
   |(
    cases bl;have hs:strOfNums [x]=bytesOf [UInt8.ofNat (128+v)]:=by rw[show x=((128+v:Nat):Int) by omega];rfl)
   |(
    have hs:strOfNums [x]=bytesOf [UInt8.ofNat (160+v)]:=by rw[show x=((160+v:Nat):Int) by omega];rfl))
  have aH:=fun(W:World) (n:Nat) (hn:n=W.heap.size)=>jO (P:=prog) 63 9 5 underlying63 underlying5 underlying9 [x] W n hn)
 simp only[List.length_cons,List.length_nil,List.map_cons,List.map_nil,Nat.zero_add] at aH;have HC:=aH w w.heap.size rfl;have eK:IntKind.u8.wrap (v:Int)=v:=by simp[IntKind.wrap,IntKind.bits,IntKind.signed];omega
 first
 |(cases bl;have gU:IntKind.u8.wrap (128+(v:Int))=x:=by rw[hx];simp[IntKind.wrap,IntKind.bits,IntKind.signed];omega)
 |(cases lD;have gU:IntKind.u8.wrap (160+(v:Int))=x:=by rw[hx];simp[IntKind.wrap,IntKind.bits,IntKind.signed];omega)
 |(cases eW;have gU:IntKind.u8.wrap (32+(v:Int))=x:=by rw[hx];simp[IntKind.wrap,IntKind.bits,IntKind.signed];omega)
 |(cases iH;have gU:IntKind.u8.wrap (64+(v:Int))=x:=by rw[hx];simp[IntKind.wrap,IntKind.bits,IntKind.signed];omega)
 |(cases jn;have gU:IntKind.u8.wrap (96+(v:Int))=x:=by rw[hx];simp[IntKind.wrap,IntKind.bits,IntKind.signed];omega)
 |skip
 have HS:=hid hs;have jz:(v:Int)<24:=by omega
 first
 |(cases l5;clear hs aH h2)
 |clear hx hs aH h2
 go_enter func23,ntmps23;go_wp2_with fail
 go_ret;exact⟨by first|rfl|(rw[←HS.out]<;>rfl)|(rw[HS.out]<;>rfl),(I.refl [] w).alloc _⟩):p:=h
theorem q28 {p:Prop} (h:p:=by
 first
 |(cases bl;obtain⟨c0,c1,f1⟩:=h.facts ho)
 |skip
 have xA:=hid (Cm w b pre post T now mv n M G h off ho key hk);have H:=hid h;have bP:=h.az.lt;first
 |(cases bl;clear h ho c1 f1;go_enter func40,ntmps40)
 |(
  have Wi: ¬lK<0:=by omega
  clear h ho;go_enter func47,ntmps47)
 go_wp2_with fail
 refine xA.out.mono ?_;rintro e w1 ⟨rfl|⟨g,hg,rfl⟩,rfl⟩
 ·go_wp2_with fail
  go_ret;exact⟨⟨_,rfl⟩,H.out,I.refl _ _⟩
 ·have Wj:lN w g:=by
   rcases H.out.map with⟨_,_,h3⟩|⟨mb,D,h1,h2,h3,h4,h5,h6,h7⟩
   ·subst h3;cases hg
   ·exact h6 g hg
  obtain⟨x,y,z,UM⟩:=Wj;first
  |(cases bl;have d2:w.cell? ⟨g,2,none⟩=some (.int .i64 z):=UM.cell 2)
  |have d0:w.cell? ⟨g,0,none⟩=some (.int .i64 x):=UM.cell 0
  first
  |(cases bl;have e2:=UM.free 2)
  |have e0:=UM.free 0
  have hgl:=UM.lt;clear UM;go_wp2_with fail
  go_ret;first
  |(cases bl;exact⟨⟨_,rfl⟩,H.out.NO hg (by omega) _,(I.refl _ _).setCell (p:=⟨g,2,none⟩) (inl hg) _⟩)
  |exact⟨⟨_,rfl⟩,H.out.NO hg (by omega) _,(I.refl _ _).setCell (p:=⟨g,0,none⟩) (inl hg) _⟩):p:=h
theorem q29 {p:Prop} (h:p:=by
 rcases h with⟨h,_⟩|⟨g',o',c',cur,hv,hg,hn,hm,hs,ht⟩
 ·cases h
 ·injection hv with e1 e2 e3;injection e1 with e1;injection e1 with e1 e4;subst e1 e2 e3 e4;first
  |(cases bl;refine inr ⟨g,o,c,cur.setIfInBounds o (.string (bytesOf y)),rfl,heap_setCell_same w g o cur _ _ hg,hn,hm,by simpa using hs,?_⟩;simp only[List.length_cons] at ht hn⊢;rw[Array.toList_setIfInBounds,List.drop_set,if_neg (by omega),Nat.sub_self])
  |(simp only[List.length_cons] at hn ht;refine inr ⟨g,o+1,c-1,cur,rfl,hg,by omega,by omega,by omega,?_⟩)
  have hd: ∃z r,cur.toList.drop o=z::r:=by
   cases yo:cur.toList.drop o with
   |nil=>rw[yo] at ht;simp[fL] at ht
   |cons z r=>exact⟨z,r,rfl⟩
  obtain⟨z,r,hd⟩:=hd;first
  |(cases bl;rw[hd] at ht⊢;simp only[List.take_succ_cons,fL,List.map_cons,List.set_cons_zero,List.cons.injEq] at ht⊢;exact⟨trivial,ht.2⟩)
  |(
   have Zp:cur.toList.drop (o+1)=r:=by rw[←List.drop_drop,hd];rfl
   rw[hd] at ht;rw[Zp];simp only[List.take_succ_cons,fL,List.map_cons,List.cons.injEq] at ht;exact ht.2)):p:=h
theorem q30 {p:Prop} (h:p:=by
 obtain⟨kind,text,neg,jM⟩:=t;have eA:=ku h;obtain⟨o,c,Fy⟩:=h.maps.shape;obtain⟨n,Jf⟩: ∃n:Nat,p.maps.length=n:=⟨_,rfl⟩
 rw[Jf] at Fy;subst Fy;have xy:=h.aI (((I.refl [] w).alloc (.cells #[.int .u8 kind,.string text,.bool neg,.int .u64 jM] 209)));obtain⟨g23,g24,zr,Kk,dD,ys⟩:=fl xy;obtain⟨f24,f25,f26⟩:=kt xy;simp only at hA;obtain⟨rfl,hx⟩:=hA;first
 |(cases bl)
 |rw[hx] at zr
 have H:=hid xy;first
 |(cases bl;clear h xy Jf)
 |clear h xy hx Jf
 simp only[ew,ej.cells];first
 |(
  cases bl;rcases hx with hx|hx;all_goals
   rw[hx] at zr;clear hx;go_enter func114,ntmps114;go_wp2_with fail
   go_ret2;exact⟨rfl,eT (H.out.iS 4) ((((I.refl _ _).alloc _)).setCell (inl eA) _)⟩)
 |(
  go_enter func114,ntmps114;go_wp2_with fail
  go_ret2;exact⟨rfl,eT (H.out.iS 0) ((((I.refl _ _).alloc _)).setCell (inl eA) _)⟩)):p:=h
theorem q31 {p:Prop} (h:p:=by
 obtain⟨g0,g1,g2,g3,g4,g5,g6⟩:=jX hc;obtain⟨f0,f1,f2,f3,f4,f5,f6,f7,bP⟩:=qF hc;simp only[Hd.zero] at g0 g1 g2 g3 g4 g5 g6;have HC:=hid hc;have hand:=qC cy cQ;first
 |(cases bl;rw[hl] at hand;clear hc hl)
 |clear hc
 go_enter func178,ntmps178;go_wp2_with fail
 go_quiet (fail)
 go_wp2_with fail
 go_ret2;refine⟨rfl,a8.aI ?_ ((I.refl [] _).drewN _),I.drewN ?_ _⟩
 ·first
  |(cases bl;exact(((HC.out.db (i:=0) (u:= .bool true)).db (i:=3) (u:= .int .i64 (x/32))).db (i:=2) (u:= .bool true)).db (i:=1) (u:= .bool true))
  |exact(((HC.out.db (i:=0) (u:= .bool true)).db (i:=3) (u:= .int .i64 (x/32))).db (i:=5) (u:= .int .u64 (x % 32))).db (i:=1) (u:= .bool true)
 ·exact((((I.refl _ _).dO (aD _ _ _) _).dO (aD _ _ _) _).dO (aD _ _ _) _).dO (aD _ _ _) _):p:=h
theorem q32 {p:Prop} (h:p:=by
 first
 |(cases bl;have k:I [pb] w (w.setCell ⟨pb,4,none⟩ (.int .i64 e)):=(I.refl [pb] _).ax _)
 |have k:I [pb] w (w.setCell ⟨pb,3,none⟩ (.bool true)):=(I.refl [pb] _).ax _
 first
 |(cases bl;refine⟨(h.az.set 4 (.int .i64 e)).conv rfl,h.out.keeps k ?_ ?_,h.hold.keeps k ?_,h.sO.keeps k ?_,h.low⟩)
 |refine⟨(h.az.set 3 (.bool true)).conv rfl,h.out.keeps k ?_ ?_,h.hold.keeps k ?_,h.sO.keeps k ?_,h.low⟩
 ·intro hm;rw[List.mem_singleton] at hm;exact h.uT.1 (hm▸ms)
 ·intro i hi hm;rw[List.mem_singleton] at hm;exact h.uT.1 (hm▸List.mem_cons_of_mem _ hi)
 ·intro i hi hm;rw[List.mem_singleton] at hm;exact h.uT.2 (hm▸hi)
 ·intro i hi;rw[List.mem_singleton] at hi;rw[hi];exact Nat.lt_of_lt_of_le h.low.1 h.low.2.1):p:=h
theorem q33 {p:Prop} (h:p:=by
 unfold Core.byte;have hc:(if k.word then k.c.step b else k.c).Fit:=by
  split
  ·exact cm.dN h.FZ b
  ·exact h.FZ
 generalize (if k.word then k.c.step b else k.c)=c' at hc;have hk:Core.Fit N {k with s:=k.s++[UInt8.ofNat b.toNat],aT:=k.aT-1,c:=c'}:=⟨h.depth,h.opens,h.parts,by have:=h.aT;simp only[List.length_append,List.length_singleton];omega,hc⟩
 simp only[];split
 ·first
  |(cases bl;exact(Core.fx hk 9).mono (by omega))
  |simp[Core.fail]
 ·split
  ·first
   |(cases bl;exact hk.mono (by omega))
   |simp
  ·first
   |(cases bl;exact Core.nU hk)
   |exact uS hk):p:=h
theorem q34 {p:Prop} (h:p:=by
 first
 |(cases bl;have HS:=hid (Kx t s r hs hr hl w h))
 |have HS:=hid (Ky t s r hs w h)
 first
 |(cases bl;have b0: ∀W,(Instr.index 9 (.string s) (.int .i64 0)).run prog W= .ok (.int .u8 195) W:=fun W=>byte_at hs 0 195 rfl .i64 W)
 |have b0: ∀W,(Instr.index 9 (.string s) (.int .i64 0)).run prog W= .ok (.int .u8 240) W:=fun W=>byte_at hs 0 240 rfl .i64 W
 have fX:s.toList.isEmpty=false:=by rw[ByteArray.toList_eq,hs];rfl
 first
 |(cases bl;clear hs hr h)
 |clear hs h
 go_enter func211,ntmps211;go_wp2_with fail
 refine HS.out.mono ?_;rintro e w1 ⟨⟨v,rfl⟩,k1⟩;have K1:=hid k1;clear k1;go_wp2_with fail
 go_ret2;exact⟨⟨_,rfl⟩,K1.out⟩):p:=h
theorem q35 {p:Prop} (h:p:=by
 obtain⟨p,v,h1,h2,h3⟩:=h;refine(rS b [] [] 132 p v B l s w (by simpa using h1) 0 rfl h2 lbT h3 hlen hB).mono ?_;rintro e w' ⟨rfl,v',g1,g2,g3,_⟩;refine⟨rfl,⟨_,v',by simpa using g1,inr rfl,g2⟩,_,g3,fun i hi=> ?_⟩;rcases List.mem_cons.1 hi with rfl|hi
 ·first
  |(cases bl;exact⟨inl rfl,inl (iU h1)⟩)
  |exact inl rfl
 ·first
  |(cases bl;exact⟨inr (World.ownsRow.lt h3 i (aa.1 hi)).1,inr (ng h3 i hi)⟩)
  |exact inr (World.ownsRow.lt h3 i (aa.1 hi)).1):p:=h
end Go.Tru
