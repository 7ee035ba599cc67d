/- cborin.Core's Byte; head.Head's methods; cborin.Parser's head; cborin.Parser's head -/
import Derived.Test.YthffblhdjjbkaaaGreatM23
set_option maxHeartbeats 100000000
set_option maxRecDepth 1000000
open Go.Lib (hid)
open Go.Proofs.Tryz
open Or (inl inr)
namespace Go.Tru
theorem AX {x:Int} (h0:0≤x) (h1:x≤255):bS [UInt8.ofNat x.toNat]= [.int .u8 x]:=by
 have h2:(UInt8.ofNat x.toNat).toNat=x.toNat:=by simp;omega
 simp only[bS,List.map_cons,List.map_nil,h2];congr 2;omega
end Go.Tru
namespace Go.Proofs.YthffblhdjjbkaaaGreat
open Go.RowKit Go.Tru
theorem a8.Xx {w w':World} {base b:Nat} {T:TypeId} {rest:List Value} {ov sv:Value} {k:Core} {c':cm} (h:a8 w base b T rest ov sv k) (hp:uu w b (zJ k ov sv) rest T c' w'):a8 w' base b T rest ov sv {k with c:=c'}:=by obtain⟨h1,kp⟩:=hp;exact⟨h1,ab h.bu kp (fun i hi hm=>h.bo (by rw[List.mem_singleton] at hm;exact hm▸aa.2 hi)),ab h.s kp (fun i hi hm=>h.bs (by rw[List.mem_singleton] at hm;exact hm▸aa.2 hi)),h.bo,h.bs,h.os⟩
theorem NL {N:Int} {w:World} {base b:Nat} {T:TypeId} {rest:List Value} {ov sv:Value} {k:Core} (h:aG N w base b T rest ov sv k) (x:Int) (cy:0≤x) (cQ:x≤255) (hlk:0<k.aT):Calls prog 172 #[.pointer (some ⟨b,0,none⟩),.int .u8 x] w (aV w base b T rest ov sv (k.byte x)):=by
 have hs:=h.text;have ahO:=h.fit.aT;obtain⟨oo,oc,rfl⟩:=h.bG.bu.shape;obtain⟨so,sc,rfl⟩:=bz.shape h.bG.s;obtain⟨g0,g1,g2,g3,g4,g5,g6,g7⟩:=bU h.bG;obtain⟨f1,f2,f3,f4,f5,f6,f7,bP⟩:=fu h.bG;have rN:b<w.heap.size+1:=by omega
 have hb:=h.gQ;have eN:=hid h;clear h;obtain⟨res,iI⟩: ∃res,k.byte x=res:=⟨_,rfl⟩
 rw[iI];have HR:=hid iI;clear iI;obtain⟨k1,dU⟩: ∃k1:Core,k1={k with s:=k.s++[UInt8.ofNat x.toNat],aT:=k.aT-1}:=⟨_,rfl⟩
 obtain⟨k2,iA⟩: ∃k2:Core,k2={k1 with c:=k.c.step x}:=⟨_,rfl⟩
 have hm:k.word=false→k.byte x=if 0<k.aT-1∨k.chunks=true then([],k1) else k1.text:=by intro hw;subst dU;unfold Core.byte;simp only[hw,Bool.false_eq_true,if_false,false_and]
 have hm9:k.word=true→(k.c.step x).bad=true∨k.aT-1=0∧(k.c.step x).whole=false→k.byte x=k2.fail 9:=by intro hw h9;subst iA dU;unfold Core.byte;simp only[hw,if_true,true_and];rw[if_pos h9]
 have ly:k.word=true→¬ ((k.c.step x).bad=true∨k.aT-1=0∧(k.c.step x).whole=false)→k.byte x=if 0<k.aT-1∨k.chunks=true then([],k2) else k2.text:=by intro hw h9;subst iA dU;unfold Core.byte;simp only[hw,if_true,true_and];rw[if_neg h9]
 have HM:=hid hm;have HM9:=hid hm9;have HM2:=hid ly;have wo:=hid dU;have LB:=hid iA;clear hm hm9 ly dU iA;go_enter func172,ntmps172;go_wp2_with (at_builtin;go_must (refine Of rfl _ _ rfl base _ k.s rfl (ab eN.out.bG.s ((I.refl [] _).alloc _) (by simp)) ⟨_,0,none⟩ 1 1 [UInt8.ofNat x.toNat] rfl rfl (by rw[AX cy cQ];exact aA [.int .u8 x] (by simp)) (by omega) (by simp;omega) ?_))
 intro v2 w2 cI iA _ fT;obtain⟨a2,c2,rfl⟩:=bz.shape cI;have jq:=((I.refl (ae (.slice so k.s.length sc)) w).alloc (.cells #[.int .u8 x] 5)).trans iA;have bn:=a8.Zx eN.out.bG cI jq (fT.imp id (fun h=>inr ⟨_,h,by omega⟩));have jF:=eN.out.bG.az.keeps jq eN.out.bG.bs;have pK:=jF.lt;have g6:w2.cell? ⟨b,6,none⟩=some (.int .i64 k.aT):=jF.cell 6;have g7:w2.cell? ⟨b,7,none⟩=some (.slice so k.s.length sc):=jF.cell 7;have g4:w2.cell? ⟨b,4,none⟩=some (.bool k.word):=jF.cell 4;have g5:w2.cell? ⟨b,5,none⟩=some (.bool k.chunks):=jF.cell 5;have f6:=jF.free 6;have f7:=jF.free 7;have lB:=bn.1.put (i:=6) (u:= .int .i64 (k.aT-1)) (k':={k with s:=k.s++[UInt8.ofNat x.toNat],aT:=k.aT-1}) (by omega) rfl rfl rfl;rw[←wo.out] at lB;have hkp:=bn.2.1.dO (i:=6) (aD _ _ _) (.int .i64 (k.aT-1));have Ve:=bn.2.2;clear bn cI iA fT jq jF g0 g1 g2 g3 f1 f2 f3 f4 f5;have rQ:=hid (show k1.Fit N by rw[wo.out];exact⟨eN.out.fit.depth,eN.out.fit.opens,eN.out.fit.parts,by simp only[List.length_append,List.length_singleton];omega,eN.out.fit.FZ⟩)
 have JM:=hid (show k2.Fit N by rw[LB.out];exact⟨rQ.out.depth,rQ.out.opens,rQ.out.parts,rQ.out.aT,cm.dN eN.out.fit.FZ x⟩)
 simp only[List.length_append,List.length_singleton] at*;have It:=hid lB;have RG:=hid hkp;have RF:=hid Ve;clear lB hkp Ve;cases hw:k.word with
 |false=>
  have HW:=hid hw;rw[hw] at g4;clear hw;rcases(show 0<k.aT-1∨¬0<k.aT-1∧k.chunks=true∨¬0<k.aT-1∧k.chunks=false by cases k.chunks<;>simp<;>omega) with hl|⟨hl,hc⟩|⟨hl,hc⟩
  ·go_wp2_with fail
   go_ret;rw[←HR.out,HM.out HW.out,if_pos (inl hl)];exact⟨_,rfl,aP.nil _ _,_,_,It.out,RG.out,RF.out⟩
  ·have HC:=hid hc;rw[hc] at g5;clear hc;go_wp2_with fail
   go_ret;rw[←HR.out,HM.out HW.out,if_pos (inr HC.out)];exact⟨_,rfl,aP.nil _ _,_,_,It.out,RG.out,RF.out⟩
  ·have HC:=hid hc;rw[hc] at g5;clear hc;have hv:=qD (N:=N) (⟨It.out,rQ.out,eN.out.sR,Nat.le_trans hb (I.size RG.out)⟩:aG N _ base b T rest _ _ k1);go_wp2_with fail
   refine hv.mono ?_;rintro e w9 ⟨v,rfl,au,aM⟩;obtain⟨av,cv,rfl⟩:=au.shape;have cO:=hid au;have cj:=hid aM;clear au aM hv;go_wp2_with fail
   go_ret;rw[←HR.out,HM.out HW.out,if_neg (by rw[HC.out];simp;omega)];exact aV.trans RG.out RF.out ⟨_,rfl,cO.out,cj.out⟩
 |true=>
  have HW:=hid hw;rw[hw] at g4;clear hw;go_wp2_with fail
  have tN:=vw b (zJ k1 _ _) rest T k1.c x _ It.out.az 8 rfl cy cQ rQ.out.FZ;rw[show k1.c=k.c by rw[wo.out]] at tN;refine tN.mono ?_;clear tN;rintro e w4 ⟨rfl,Se⟩;have Mb:=a8.Xx It.out Se;rw[←LB.out] at Mb;have aaf:=RG.out.trans (Se.2.mono (fun i hi=>by rw[List.mem_singleton] at hi;exact hi▸aD _ _ _));obtain⟨g0,g1,g2,g3,g4,g5,g6,g7⟩:=bU Mb;obtain⟨f1,f2,f3,f4,f5,f6,f7,bP⟩:=fu Mb;rw[show k2.chunks=k.chunks by rw[LB.out,wo.out]] at g5;rw[show k2.aT=k.aT-1 by rw[LB.out,wo.out]] at g6;have hcw:=sY b (zJ k2 _ _) rest T k2.c w4 Mb.az 8 rfl;rw[show k2.c=k.c.step x by rw[LB.out]] at hcw;have HC4:=hid Mb;have Mc:=hid aaf;have HCW:=hid hcw;clear Se Mb aaf hcw;cases oY:(k.c.step x).bad with
  |true=>
   go_wp2_with fail
   refine(gx 9 k2 w4 base b T rest _ _ HC4.out).mono ?_;rintro e w5 ⟨v,rfl,au,aM⟩;obtain⟨av,cv,rfl⟩:=au.shape;have cO:=hid au;have cj:=hid aM;clear au aM;go_wp2_with fail
   go_ret;rw[←HR.out,HM9.out HW.out (inl oY)];exact aV.trans Mc.out RF.out ⟨_,rfl,cO.out,cj.out⟩
  |false=>
   have Xy:=hid oY;by_cases To:k.aT-1=0
   ·have pg:(k.aT-1==0)=true:=by simp[To]
    have HL0:=hid To;go_wp2_with fail
    refine HCW.out.mono ?_;rintro e w5 ⟨rfl,rfl⟩;cases M7:(k.c.step x).whole with
    |false=>
     have HWH:=hid M7;go_wp2_with fail
     refine(gx 9 k2 w4 base b T rest _ _ HC4.out).mono ?_;rintro e w5 ⟨v,rfl,au,aM⟩;obtain⟨av,cv,rfl⟩:=au.shape;have cO:=hid au;have cj:=hid aM;clear au aM;go_wp2_with fail
     go_ret;rw[←HR.out,HM9.out HW.out (inr ⟨HL0.out,HWH.out⟩)];exact aV.trans Mc.out RF.out ⟨_,rfl,cO.out,cj.out⟩
    |true=>
     have HWH:=hid M7;have hl: ¬0<k.aT-1:=by omega
     rcases(show k.chunks=true∨k.chunks=false by cases k.chunks<;>simp) with hc|hc
     ·have HC:=hid hc;rw[hc] at g5;clear hc;go_wp2_with fail
      go_ret;rw[←HR.out,HM2.out HW.out (by rw[Xy.out,HWH.out];simp),if_pos (inr HC.out)];exact⟨_,rfl,aP.nil _ _,_,_,HC4.out,Mc.out,RF.out⟩
     ·have HC:=hid hc;rw[hc] at g5;clear hc;have hv:=qD (N:=N) (⟨HC4.out,JM.out,eN.out.sR,Nat.le_trans hb (I.size Mc.out)⟩:aG N _ base b T rest _ _ k2);go_wp2_with fail
      refine hv.mono ?_;rintro e w9 ⟨v,rfl,au,aM⟩;obtain⟨av,cv,rfl⟩:=au.shape;have cO:=hid au;have cj:=hid aM;clear au aM hv;go_wp2_with fail
      go_ret;rw[←HR.out,HM2.out HW.out (by rw[Xy.out,HWH.out];simp),if_neg (by rw[HC.out];simp;omega)];exact aV.trans Mc.out RF.out ⟨_,rfl,cO.out,cj.out⟩
   ·have pg:(k.aT-1==0)=false:=by simp[To]
    have HL0:=hid To;have hl:0<k.aT-1:=by omega
    go_wp2_with fail
    go_ret;rw[←HR.out,HM2.out HW.out (by rw[Xy.out];simp[HL0.out]),if_pos (inl hl)];exact⟨_,rfl,aP.nil _ _,_,_,HC4.out,Mc.out,RF.out⟩
end Go.Proofs.YthffblhdjjbkaaaGreat
namespace Go.Tru
theorem TS {v x:Int} (hv:0≤v) (cy:0≤x) (cQ:x≤255) (h:v*256+x≤18446744073709551615):bits .or .u64 (v*256) x=v*256+x:=by
 rw[u64_or _ _ (by omega) (by omega) cy (by omega)];have h1:(v*256).toNat=v.toNat<<<8:=by rw[Nat.shiftLeft_eq];omega
 rw[h1,←Nat.shiftLeft_add_eq_or_of_lt (by omega:x.toNat<2^8),←h1];omega
theorem qC {n:Int} (h0:0≤n) (h1:n≤255):bits .and .u8 n 31=n % 32:=by rw[u8_and _ _ h0 (by omega) (by omega) (by omega),show(31:Int).toNat=2^5-1 from rfl,Nat.and_two_pow_sub_one_eq_mod];omega
theorem jX {w:World} {base b:Nat} {T:TypeId} {post:List Value} {ov sv:Value} {h:Hd} {k:Core} (hc:a8 w base b T (h.cells++post) ov sv k):w.cell? ⟨b,12,none⟩=some (.bool h.begun)∧w.cell? ⟨b,13,none⟩=some (.bool h.end_)∧w.cell? ⟨b,14,none⟩=some (.bool h.open_)∧w.cell? ⟨b,15,none⟩=some (.int .i64 h.major)∧w.cell? ⟨b,16,none⟩=some (.int .i64 h.aT)∧w.cell? ⟨b,17,none⟩=some (.int .u64 h.v)∧w.cell? ⟨b,18,none⟩=some (.int .i64 h.e):=⟨hc.az.cell 12,hc.az.cell 13,hc.az.cell 14,hc.az.cell 15,hc.az.cell 16,hc.az.cell 17,hc.az.cell 18⟩
theorem qF {w:World} {base b:Nat} {T:TypeId} {rest:List Value} {ov sv:Value} {k:Core} (hc:a8 w base b T rest ov sv k):w.frozen? ⟨b,12,none⟩=false∧w.frozen? ⟨b,13,none⟩=false∧w.frozen? ⟨b,14,none⟩=false∧w.frozen? ⟨b,15,none⟩=false∧w.frozen? ⟨b,16,none⟩=false∧w.frozen? ⟨b,17,none⟩=false∧w.frozen? ⟨b,18,none⟩=false∧w.frozen? ⟨b,19,none⟩=false∧b<w.heap.size:=⟨hc.az.free 12,hc.az.free 13,hc.az.free 14,hc.az.free 15,hc.az.free 16,hc.az.free 17,hc.az.free 18,hc.az.free 19,hc.az.lt⟩
def eG (w:World) (base b:Nat) (T:TypeId) (post:List Value) (ov sv:Value) (k:Core) (h':Hd) (w':World):Prop:=
 a8 w' base b T (h'.cells++post) ov sv k∧I (cz b ov sv) w w'
end Go.Tru
namespace Go.Proofs.YthffblhdjjbkaaaGreat
open Go.RowKit Go.Tru
open Go.K1 in
theorem Md {w:World} {base b:Nat} {T:TypeId} {post:List Value} {ov sv:Value} {k:Core} (hc:a8 w base b T (Hd.zero.cells++post) ov sv k) (x:Int) (cy:0≤x) (cQ:x≤255) (hl:x % 32<24):Calls prog 178 #[.pointer (some ⟨b,12,none⟩),.int .u8 x] w fun r w'=>r= .returned (.tuple #[.bool true,.int .i64 0])∧eG w base b T post ov sv k ⟨true,true,false,x/32,0,x % 32,0⟩ w':=q31
theorem Me {w:World} {base b:Nat} {T:TypeId} {post:List Value} {ov sv:Value} {k:Core} (hc:a8 w base b T (Hd.zero.cells++post) ov sv k) (x:Int) (cy:0≤x) (cQ:x≤255) (hl:24≤x % 32) (nS:x % 32<28):Calls prog 178 #[.pointer (some ⟨b,12,none⟩),.int .u8 x] w fun r w'=>r= .returned (.tuple #[.bool false,.int .i64 0])∧eG w base b T post ov sv k ⟨true,false,false,x/32,2^(x % 32-24).toNat,0,0⟩ w':=by
 obtain⟨g0,g1,g2,g3,g4,g5,g6⟩:=jX hc;obtain⟨f0,f1,f2,f3,f4,f5,f6,f7,bP⟩:=qF hc;simp only[Hd.zero] at g0 g1 g2 g3 g4 g5 g6;have HC:=hid hc;have hand:=qC cy cQ;clear hc;rcases(show x % 32=24∨x % 32=25∨x % 32=26∨x % 32=27 by omega) with e|e|e|e;all_goals
  rw[e] at hand⊢;have HEE:=hid e;clear hl nS e;go_enter func178,ntmps178;go_wp2_with fail
  go_quiet (fail)
  go_wp2_with fail
  go_ret2;refine⟨rfl,a8.aI ?_ ((I.refl [] _).drewN _),I.drewN ?_ _⟩
  ·exact((HC.out.db (i:=0) (u:= .bool true)).db (i:=3) (u:= .int .i64 (x/32))).db (i:=4)
  ·exact(((I.refl _ _).dO (aD _ _ _) _).dO (aD _ _ _) _).dO (aD _ _ _) _
open Go.K0 in
theorem Iu {w:World} {base b:Nat} {T:TypeId} {post:List Value} {ov sv:Value} {k:Core} (hc:a8 w base b T (Hd.zero.cells++post) ov sv k) (x:Int) (cy:0≤x) (cQ:x≤255) (hl:x % 32=31):Calls prog 178 #[.pointer (some ⟨b,12,none⟩),.int .u8 x] w fun r w'=>r= .returned (.tuple #[.bool true,.int .i64 0])∧eG w base b T post ov sv k ⟨true,true,true,x/32,0,0,0⟩ w':=q31
theorem Mf {w:World} {base b:Nat} {T:TypeId} {post:List Value} {ov sv:Value} {k:Core} (hc:a8 w base b T (Hd.zero.cells++post) ov sv k) (x:Int) (cy:0≤x) (cQ:x≤255) (hl:28≤x % 32) (nS:x % 32<31):Calls prog 178 #[.pointer (some ⟨b,12,none⟩),.int .u8 x] w fun r w'=>r= .returned (.tuple #[.bool false,.int .i64 2])∧eG w base b T post ov sv k ⟨true,false,false,x/32,0,0,2⟩ w':=by
 obtain⟨g0,g1,g2,g3,g4,g5,g6⟩:=jX hc;obtain⟨f0,f1,f2,f3,f4,f5,f6,f7,bP⟩:=qF hc;simp only[Hd.zero] at g0 g1 g2 g3 g4 g5 g6;have HC:=hid hc;have hand:=qC cy cQ;clear hc;rcases(show x % 32=28∨x % 32=29∨x % 32=30 by omega) with e|e|e;all_goals
  rw[e] at hand;clear hl nS e;go_enter func178,ntmps178;go_wp2_with fail
  go_quiet (fail)
  go_wp2_with fail
  go_ret2;refine⟨rfl,a8.aI ?_ ((I.refl [] _).drewN _),I.drewN ?_ _⟩
  ·exact((HC.out.db (i:=0) (u:= .bool true)).db (i:=3) (u:= .int .i64 (x/32))).db (i:=6) (u:= .int .i64 2)
  ·exact(((I.refl _ _).dO (aD _ _ _) _).dO (aD _ _ _) _).dO (aD _ _ _) _
theorem Iv {w:World} {base b:Nat} {T:TypeId} {post:List Value} {ov sv:Value} {k:Core} {h:Hd} (hc:a8 w base b T (h.cells++post) ov sv k) (hf:h.Fit) (x:Int) (cy:0≤x) (cQ:x≤255):Calls prog 178 #[.pointer (some ⟨b,12,none⟩),.int .u8 x] w fun r w'=>r= .returned (.tuple #[.bool (decide (h.aT-1=0)),.int .i64 0])∧eG w base b T post ov sv k {h with v:=h.v*256+x,aT:=h.aT-1,end_:=decide (h.aT-1=0)} w':=by
 obtain⟨g0,g1,g2,g3,g4,g5,g6⟩:=jX hc;obtain⟨f0,f1,f2,f3,f4,f5,f6,f7,bP⟩:=qF hc;rw[hf.begun] at g0;rw[hf.end_] at g1;rw[hf.e] at g6;have hv:=hf.v;have hl:=hf.aT;have tx:h.v*256+x≤18446744073709551615:=by
  have h9:(256:Int)^(8-h.aT).toNat≤72057594037927936:=by
   have:(8-h.aT).toNat≤7:=by omega
   generalize (8-h.aT).toNat=j at this;rcases(show j=0∨j=1∨j=2∨j=3∨j=4∨j=5∨j=6∨j=7 by omega) with rfl|rfl|rfl|rfl|rfl|rfl|rfl|rfl<;>simp
  omega
 have aah:=TS hv.1 cy cQ tx;have WS:h.v*256≤18446744073709551615:=by omega
 have km:=hv.1;have HC:=hid hc;have aai:(h.aT-1==0)=decide (h.aT-1=0):=rfl;have HBE:=hid aai;clear hc hv aai;have HF:=hid hf;clear hf;obtain⟨y,hy⟩: ∃y,h.v*256+x=y:=⟨_,rfl⟩
 rw[hy] at aah tx⊢;have hy0:0≤y:=by omega
 clear hy;go_enter func178,ntmps178;go_wp2_with fail
 go_ret2;refine⟨rfl,?_,?_⟩
 ·exact((HC.out.db (i:=5) (u:= .int .u64 y)).db (i:=4) (u:= .int .i64 (h.aT-1))).db (i:=1) (u:= .bool (h.aT-1==0))
 ·exact(((I.refl _ _).dO (aD _ _ _) _).dO (aD _ _ _) _).dO (aD _ _ _) _
theorem FO {w:World} {base b:Nat} {T:TypeId} {post:List Value} {ov sv:Value} {k:Core} {h:Hd} (hc:a8 w base b T (h.cells++post) ov sv k) (he:h.e=0):Calls prog 179 #[.pointer (some ⟨b,12,none⟩)] w fun r w'=>r= .returned (.int .i64 h.major)∧w=w':=by obtain⟨g0,g1,g2,g3,g4,g5,g6⟩:=jX hc;rw[he] at g6;have bP:=hc.az.lt;clear hc he;go_enter func179,ntmps179;go_wp2;go_ret;exact⟨rfl,rfl⟩
theorem FQ {w:World} {base b:Nat} {T:TypeId} {post:List Value} {ov sv:Value} {k:Core} {h:Hd} (hc:a8 w base b T (h.cells++post) ov sv k) (he:h.e=0) (hn:h.end_=true):Calls prog 180 #[.pointer (some ⟨b,12,none⟩)] w fun r w'=>r= .returned (.int .u64 h.v)∧w=w':=by obtain⟨g0,g1,g2,g3,g4,g5,g6⟩:=jX hc;rw[he] at g6;rw[hn] at g1;have bP:=hc.az.lt;clear hc he hn;go_enter func180,ntmps180;go_wp2;go_ret;exact⟨rfl,rfl⟩
theorem Kq {w:World} {base b:Nat} {T:TypeId} {post:List Value} {ov sv:Value} {k:Core} {h:Hd} (hc:a8 w base b T (h.cells++post) ov sv k) (he:h.e=0):Calls prog 181 #[.pointer (some ⟨b,12,none⟩)] w fun r w'=>r= .returned (.bool h.open_)∧w=w':=by obtain⟨g0,g1,g2,g3,g4,g5,g6⟩:=jX hc;rw[he] at g6;have bP:=hc.az.lt;clear hc he;go_enter func181,ntmps181;go_wp2;go_ret;exact⟨rfl,rfl⟩
theorem FR {w:World} {base b:Nat} {T:TypeId} {post:List Value} {ov sv:Value} {k:Core} {h:Hd} (hc:a8 w base b T (h.cells++post) ov sv k):Calls prog 182 #[.pointer (some ⟨b,12,none⟩)] w fun r w'=>(∃v,r= .returned v)∧eG w base b T post ov sv k Hd.zero w':=by
 obtain⟨g0,g1,g2,g3,g4,g5,g6⟩:=jX hc;obtain⟨f0,f1,f2,f3,f4,f5,f6,f7,bP⟩:=qF hc;have HC:=hid hc;clear hc;go_enter func182,ntmps182;go_wp2_with fail
 refine bodyPost_end (v:= .tuple #[]) (by simp[results,Tryz.results182,go_sem]) rfl ⟨⟨_,rfl⟩,?_,?_⟩
 ·exact((((((HC.out.db (i:=0) (u:= .bool false)).db (i:=1) (u:= .bool false)).db (i:=2) (u:= .bool false)).db (i:=3) (u:= .int .i64 0)).db (i:=4) (u:= .int .i64 0)).db (i:=5) (u:= .int .u64 0)).db (i:=6) (u:= .int .i64 0)
 ·exact(((((((I.refl _ _).dO (aD _ _ _) _).dO (aD _ _ _) _).dO (aD _ _ _) _).dO (aD _ _ _) _).dO (aD _ _ _) _).dO (aD _ _ _) _).dO (aD _ _ _) _
end Go.Proofs.YthffblhdjjbkaaaGreat
namespace Go.Tru
def aQ (p:Cb):List Value:=p.h.cells++[.bool p.begun]
def zq (w:World) (base b:Nat) (ov sv:Value) (p:Cb):Prop:=a8 w base b 201 (aQ p) ov sv p.c
def aF (w:World) (base b:Nat) (ov sv:Value) (t:List Ev×Cb) (r:Ending) (w':World):Prop:=
 ∃v,r= .returned v∧aP w' w.heap.size v t.1∧∃oW Cy,zq w' base b oW Cy t.2∧I (cz b ov sv) w w'∧∀i∈cz b oW Cy,i∈cz b ov sv∨w.heap.size≤i
theorem aF.trans {w w1 w2:World} {base b:Nat} {ov sv Cz xm:Value} {t:List Ev×Cb} {r:Ending} (kp:I (cz b ov sv) w w1) (hs: ∀i∈cz b Cz xm,i∈cz b ov sv∨w.heap.size≤i) (h:aF w1 base b Cz xm t r w2):aF w base b ov sv t r w2:=by
 obtain⟨v,h1,h2,nL,xl,h3,h4,h5⟩:=h;refine⟨v,h1,gM h2 kp.size,nL,xl,h3,kp.trans' h4 hs,fun i hi=> ?_⟩;rcases h5 i hi with h|h
 ·exact hs i h
 ·exact inr (Nat.le_trans kp.size h)
end Go.Tru
namespace Go.Proofs.YthffblhdjjbkaaaGreat
open Go.RowKit Go.Tru
theorem aG.aI {N:Int} {w W:World} {base b:Nat} {T:TypeId} {rest:List Value} {ov sv:Value} {k:Core} (h:aG N w base b T rest ov sv k) (kp:I [] w W):aG N W base b T rest ov sv k:=⟨h.bG.aI kp,h.fit,h.sR,Nat.le_trans h.gQ kp.size⟩
theorem aV.cb {w w':World} {base b:Nat} {ov sv:Value} {p:Cb} {t:List Ev×Core} {r:Ending} (h:aV w base b 201 (aQ p) ov sv t r w'):aF w base b ov sv (p.put t) r w':=by obtain⟨v,h1,h2,h3⟩:=h;exact⟨v,h1,h2,h3⟩
open Go.K1 in
theorem wL {N:Int} {w:World} {base b:Nat} {ov sv:Value} {p:Cb} (cS:aG N w base b 201 (aQ p) ov sv p.c) (x:Int) {h':Hd} {en:Bool} {er:Int} (gp:Calls prog 178 #[.pointer (some ⟨b,12,none⟩),.int .u8 x] w fun r w'=>r= .returned (.tuple #[.bool en,.int .i64 er])∧eG w base b 201 [.bool p.begun] ov sv p.c h' w') (Cj:en=false) (Ck:er=0):Calls prog 173 #[.pointer (some ⟨b,0,none⟩),.int .u8 x] w (aF w base b ov sv ([],{p with h:=h',begun:=true})):=q24
open Go.K0 in
theorem Mg {N:Int} {w:World} {base b:Nat} {ov sv:Value} {p:Cb} (cS:aG N w base b 201 (aQ p) ov sv p.c) (x:Int) {h':Hd} {en:Bool} {er:Int} (gp:Calls prog 178 #[.pointer (some ⟨b,12,none⟩),.int .u8 x] w fun r w'=>r= .returned (.tuple #[.bool en,.int .i64 er])∧eG w base b 201 [.bool p.begun] ov sv p.c h' w') (Cj:en=false) (Ck:er=2):Calls prog 173 #[.pointer (some ⟨b,0,none⟩),.int .u8 x] w (aF w base b ov sv (Cb.put {p with h:=h',begun:=true} (p.c.fail 2))):=q24
open Go.K5 in
theorem Ec {N:Int} {w:World} {base b:Nat} {ov sv:Value} {p:Cb} (cS:aG N w base b 201 (aQ p) ov sv p.c) (x:Int) {h':Hd} {en:Bool} {er:Int} (gp:Calls prog 178 #[.pointer (some ⟨b,12,none⟩),.int .u8 x] w fun r w'=>r= .returned (.tuple #[.bool en,.int .i64 er])∧eG w base b 201 [.bool p.begun] ov sv p.c h' w') (Cj:en=true) (Ck:er=0) (he:h'.e=0) (eB:h'.end_=true) (km:0≤h'.v) (iR:h'.v≤18446744073709551615) (hm:h'.major=0) (hw:h'.open_=true):Calls prog 173 #[.pointer (some ⟨b,0,none⟩),.int .u8 x] w (aF w base b ov sv (Cb.told {p with h:=Hd.zero,begun:=false} 0 h'.v true)):=Je
open Go.K4 in
theorem Ed {N:Int} {w:World} {base b:Nat} {ov sv:Value} {p:Cb} (cS:aG N w base b 201 (aQ p) ov sv p.c) (x:Int) {h':Hd} {en:Bool} {er:Int} (gp:Calls prog 178 #[.pointer (some ⟨b,12,none⟩),.int .u8 x] w fun r w'=>r= .returned (.tuple #[.bool en,.int .i64 er])∧eG w base b 201 [.bool p.begun] ov sv p.c h' w') (Cj:en=true) (Ck:er=0) (he:h'.e=0) (eB:h'.end_=true) (km:0≤h'.v) (iR:h'.v≤18446744073709551615) (hm:h'.major=0) (hw:h'.open_=false):Calls prog 173 #[.pointer (some ⟨b,0,none⟩),.int .u8 x] w (aF w base b ov sv (Cb.told {p with h:=Hd.zero,begun:=false} 0 h'.v false)):=Je
open Go.K7 in
theorem Ee {N:Int} {w:World} {base b:Nat} {ov sv:Value} {p:Cb} (cS:aG N w base b 201 (aQ p) ov sv p.c) (x:Int) {h':Hd} {en:Bool} {er:Int} (gp:Calls prog 178 #[.pointer (some ⟨b,12,none⟩),.int .u8 x] w fun r w'=>r= .returned (.tuple #[.bool en,.int .i64 er])∧eG w base b 201 [.bool p.begun] ov sv p.c h' w') (Cj:en=true) (Ck:er=0) (he:h'.e=0) (eB:h'.end_=true) (km:0≤h'.v) (iR:h'.v≤18446744073709551615) (hm:h'.major=1) (hw:h'.open_=true):Calls prog 173 #[.pointer (some ⟨b,0,none⟩),.int .u8 x] w (aF w base b ov sv (Cb.told {p with h:=Hd.zero,begun:=false} 1 h'.v true)):=Je
open Go.K6 in
theorem Ef {N:Int} {w:World} {base b:Nat} {ov sv:Value} {p:Cb} (cS:aG N w base b 201 (aQ p) ov sv p.c) (x:Int) {h':Hd} {en:Bool} {er:Int} (gp:Calls prog 178 #[.pointer (some ⟨b,12,none⟩),.int .u8 x] w fun r w'=>r= .returned (.tuple #[.bool en,.int .i64 er])∧eG w base b 201 [.bool p.begun] ov sv p.c h' w') (Cj:en=true) (Ck:er=0) (he:h'.e=0) (eB:h'.end_=true) (km:0≤h'.v) (iR:h'.v≤18446744073709551615) (hm:h'.major=1) (hw:h'.open_=false):Calls prog 173 #[.pointer (some ⟨b,0,none⟩),.int .u8 x] w (aF w base b ov sv (Cb.told {p with h:=Hd.zero,begun:=false} 1 h'.v false)):=Je
open Go.K0 in
theorem Eg {N:Int} {w:World} {base b:Nat} {ov sv:Value} {p:Cb} (cS:aG N w base b 201 (aQ p) ov sv p.c) (x:Int) {h':Hd} {en:Bool} {er:Int} (gp:Calls prog 178 #[.pointer (some ⟨b,12,none⟩),.int .u8 x] w fun r w'=>r= .returned (.tuple #[.bool en,.int .i64 er])∧eG w base b 201 [.bool p.begun] ov sv p.c h' w') (Cj:en=true) (Ck:er=0) (he:h'.e=0) (eB:h'.end_=true) (km:0≤h'.v) (iR:h'.v≤18446744073709551615) (hm:h'.major=2) (hw:h'.open_=true):Calls prog 173 #[.pointer (some ⟨b,0,none⟩),.int .u8 x] w (aF w base b ov sv (Cb.told {p with h:=Hd.zero,begun:=false} 2 h'.v true)):=Je
open Go.K11 in
theorem Eh {N:Int} {w:World} {base b:Nat} {ov sv:Value} {p:Cb} (cS:aG N w base b 201 (aQ p) ov sv p.c) (x:Int) {h':Hd} {en:Bool} {er:Int} (gp:Calls prog 178 #[.pointer (some ⟨b,12,none⟩),.int .u8 x] w fun r w'=>r= .returned (.tuple #[.bool en,.int .i64 er])∧eG w base b 201 [.bool p.begun] ov sv p.c h' w') (Cj:en=true) (Ck:er=0) (he:h'.e=0) (eB:h'.end_=true) (km:0≤h'.v) (iR:h'.v≤18446744073709551615) (hm:h'.major=2) (hw:h'.open_=false):Calls prog 173 #[.pointer (some ⟨b,0,none⟩),.int .u8 x] w (aF w base b ov sv (Cb.told {p with h:=Hd.zero,begun:=false} 2 h'.v false)):=Je
open Go.K1 in
theorem Ei {N:Int} {w:World} {base b:Nat} {ov sv:Value} {p:Cb} (cS:aG N w base b 201 (aQ p) ov sv p.c) (x:Int) {h':Hd} {en:Bool} {er:Int} (gp:Calls prog 178 #[.pointer (some ⟨b,12,none⟩),.int .u8 x] w fun r w'=>r= .returned (.tuple #[.bool en,.int .i64 er])∧eG w base b 201 [.bool p.begun] ov sv p.c h' w') (Cj:en=true) (Ck:er=0) (he:h'.e=0) (eB:h'.end_=true) (km:0≤h'.v) (iR:h'.v≤18446744073709551615) (hm:h'.major=3) (hw:h'.open_=true):Calls prog 173 #[.pointer (some ⟨b,0,none⟩),.int .u8 x] w (aF w base b ov sv (Cb.told {p with h:=Hd.zero,begun:=false} 3 h'.v true)):=Je
open Go.K13 in
theorem Ej {N:Int} {w:World} {base b:Nat} {ov sv:Value} {p:Cb} (cS:aG N w base b 201 (aQ p) ov sv p.c) (x:Int) {h':Hd} {en:Bool} {er:Int} (gp:Calls prog 178 #[.pointer (some ⟨b,12,none⟩),.int .u8 x] w fun r w'=>r= .returned (.tuple #[.bool en,.int .i64 er])∧eG w base b 201 [.bool p.begun] ov sv p.c h' w') (Cj:en=true) (Ck:er=0) (he:h'.e=0) (eB:h'.end_=true) (km:0≤h'.v) (iR:h'.v≤18446744073709551615) (hm:h'.major=3) (hw:h'.open_=false):Calls prog 173 #[.pointer (some ⟨b,0,none⟩),.int .u8 x] w (aF w base b ov sv (Cb.told {p with h:=Hd.zero,begun:=false} 3 h'.v false)):=Je
open Go.K10 in
theorem Ek {N:Int} {w:World} {base b:Nat} {ov sv:Value} {p:Cb} (cS:aG N w base b 201 (aQ p) ov sv p.c) (x:Int) {h':Hd} {en:Bool} {er:Int} (gp:Calls prog 178 #[.pointer (some ⟨b,12,none⟩),.int .u8 x] w fun r w'=>r= .returned (.tuple #[.bool en,.int .i64 er])∧eG w base b 201 [.bool p.begun] ov sv p.c h' w') (Cj:en=true) (Ck:er=0) (he:h'.e=0) (eB:h'.end_=true) (km:0≤h'.v) (iR:h'.v≤18446744073709551615) (hm:h'.major=4) (hw:h'.open_=true):Calls prog 173 #[.pointer (some ⟨b,0,none⟩),.int .u8 x] w (aF w base b ov sv (Cb.told {p with h:=Hd.zero,begun:=false} 4 h'.v true)):=Je
open Go.K8 in
theorem El {N:Int} {w:World} {base b:Nat} {ov sv:Value} {p:Cb} (cS:aG N w base b 201 (aQ p) ov sv p.c) (x:Int) {h':Hd} {en:Bool} {er:Int} (gp:Calls prog 178 #[.pointer (some ⟨b,12,none⟩),.int .u8 x] w fun r w'=>r= .returned (.tuple #[.bool en,.int .i64 er])∧eG w base b 201 [.bool p.begun] ov sv p.c h' w') (Cj:en=true) (Ck:er=0) (he:h'.e=0) (eB:h'.end_=true) (km:0≤h'.v) (iR:h'.v≤18446744073709551615) (hm:h'.major=4) (hw:h'.open_=false) (hg:1000000<h'.v):Calls prog 173 #[.pointer (some ⟨b,0,none⟩),.int .u8 x] w (aF w base b ov sv (Cb.told {p with h:=Hd.zero,begun:=false} 4 h'.v false)):=Je
open Go.K2 in
theorem Em {N:Int} {w:World} {base b:Nat} {ov sv:Value} {p:Cb} (cS:aG N w base b 201 (aQ p) ov sv p.c) (x:Int) {h':Hd} {en:Bool} {er:Int} (gp:Calls prog 178 #[.pointer (some ⟨b,12,none⟩),.int .u8 x] w fun r w'=>r= .returned (.tuple #[.bool en,.int .i64 er])∧eG w base b 201 [.bool p.begun] ov sv p.c h' w') (Cj:en=true) (Ck:er=0) (he:h'.e=0) (eB:h'.end_=true) (km:0≤h'.v) (iR:h'.v≤18446744073709551615) (hm:h'.major=4) (hw:h'.open_=false) (hg: ¬1000000<h'.v):Calls prog 173 #[.pointer (some ⟨b,0,none⟩),.int .u8 x] w (aF w base b ov sv (Cb.told {p with h:=Hd.zero,begun:=false} 4 h'.v false)):=Je
open Go.K12 in
theorem En {N:Int} {w:World} {base b:Nat} {ov sv:Value} {p:Cb} (cS:aG N w base b 201 (aQ p) ov sv p.c) (x:Int) {h':Hd} {en:Bool} {er:Int} (gp:Calls prog 178 #[.pointer (some ⟨b,12,none⟩),.int .u8 x] w fun r w'=>r= .returned (.tuple #[.bool en,.int .i64 er])∧eG w base b 201 [.bool p.begun] ov sv p.c h' w') (Cj:en=true) (Ck:er=0) (he:h'.e=0) (eB:h'.end_=true) (km:0≤h'.v) (iR:h'.v≤18446744073709551615) (hm:h'.major=5) (hw:h'.open_=true):Calls prog 173 #[.pointer (some ⟨b,0,none⟩),.int .u8 x] w (aF w base b ov sv (Cb.told {p with h:=Hd.zero,begun:=false} 5 h'.v true)):=Je
open Go.K9 in
theorem Eo {N:Int} {w:World} {base b:Nat} {ov sv:Value} {p:Cb} (cS:aG N w base b 201 (aQ p) ov sv p.c) (x:Int) {h':Hd} {en:Bool} {er:Int} (gp:Calls prog 178 #[.pointer (some ⟨b,12,none⟩),.int .u8 x] w fun r w'=>r= .returned (.tuple #[.bool en,.int .i64 er])∧eG w base b 201 [.bool p.begun] ov sv p.c h' w') (Cj:en=true) (Ck:er=0) (he:h'.e=0) (eB:h'.end_=true) (km:0≤h'.v) (iR:h'.v≤18446744073709551615) (hm:h'.major=5) (hw:h'.open_=false) (hg:1000000<h'.v):Calls prog 173 #[.pointer (some ⟨b,0,none⟩),.int .u8 x] w (aF w base b ov sv (Cb.told {p with h:=Hd.zero,begun:=false} 5 h'.v false)):=Je
open Go.K3 in
theorem Ep {N:Int} {w:World} {base b:Nat} {ov sv:Value} {p:Cb} (cS:aG N w base b 201 (aQ p) ov sv p.c) (x:Int) {h':Hd} {en:Bool} {er:Int} (gp:Calls prog 178 #[.pointer (some ⟨b,12,none⟩),.int .u8 x] w fun r w'=>r= .returned (.tuple #[.bool en,.int .i64 er])∧eG w base b 201 [.bool p.begun] ov sv p.c h' w') (Cj:en=true) (Ck:er=0) (he:h'.e=0) (eB:h'.end_=true) (km:0≤h'.v) (iR:h'.v≤18446744073709551615) (hm:h'.major=5) (hw:h'.open_=false) (hg: ¬1000000<h'.v):Calls prog 173 #[.pointer (some ⟨b,0,none⟩),.int .u8 x] w (aF w base b ov sv (Cb.told {p with h:=Hd.zero,begun:=false} 5 h'.v false)):=Je
theorem sJ {N:Int} {w:World} {base b:Nat} {ov sv:Value} {p:Cb} (cS:aG N w base b 201 (aQ p) ov sv p.c) (x:Int) {h':Hd} (gp:Calls prog 178 #[.pointer (some ⟨b,12,none⟩),.int .u8 x] w fun r w'=>r= .returned (.tuple #[.bool true,.int .i64 0])∧eG w base b 201 [.bool p.begun] ov sv p.c h' w') (he:h'.e=0) (eB:h'.end_=true) (km:0≤h'.v) (iR:h'.v≤18446744073709551615) (hm:0≤h'.major∧h'.major≤5):Calls prog 173 #[.pointer (some ⟨b,0,none⟩),.int .u8 x] w (aF w base b ov sv (Cb.told {p with h:=Hd.zero,begun:=false} h'.major h'.v h'.open_)):=by
 rcases(show h'.major=0∨h'.major=1∨h'.major=2∨h'.major=3∨h'.major=4∨h'.major=5 by omega) with hm|hm|hm|hm|hm|hm;all_goals rw[hm];cases hw:h'.open_
 ·exact Ed cS x gp rfl rfl he eB km iR hm hw
 ·exact Ec cS x gp rfl rfl he eB km iR hm hw
 ·exact Ef cS x gp rfl rfl he eB km iR hm hw
 ·exact Ee cS x gp rfl rfl he eB km iR hm hw
 ·exact Eh cS x gp rfl rfl he eB km iR hm hw
 ·exact Eg cS x gp rfl rfl he eB km iR hm hw
 ·exact Ej cS x gp rfl rfl he eB km iR hm hw
 ·exact Ei cS x gp rfl rfl he eB km iR hm hw
 ·by_cases hg:1000000<h'.v
  ·exact El cS x gp rfl rfl he eB km iR hm hw hg
  ·exact Em cS x gp rfl rfl he eB km iR hm hw hg
 ·exact Ek cS x gp rfl rfl he eB km iR hm hw
 ·by_cases hg:1000000<h'.v
  ·exact Eo cS x gp rfl rfl he eB km iR hm hw hg
  ·exact Ep cS x gp rfl rfl he eB km iR hm hw hg
 ·exact En cS x gp rfl rfl he eB km iR hm hw
theorem gy {N:Int} {w:World} {base b:Nat} {ov sv:Value} {p:Cb} (cS:aG N w base b 201 (aQ p) ov sv p.c) (hz:p.h=Hd.zero) (x:Int) (cy:0≤x) (cQ:x≤255) (hm:x/32≤5):Calls prog 173 #[.pointer (some ⟨b,0,none⟩),.int .u8 x] w (aF w base b ov sv (p.first x)):=by
 have kq:a8 w base b 201 (Hd.zero.cells++[.bool p.begun]) ov sv p.c:=by have:=cS.bG;unfold aQ at this;rw[hz] at this;exact this
 unfold Cb.first;by_cases h1:x % 32<24
 ·rw[if_pos h1];exact sJ cS x (Md kq x cy cQ h1) rfl rfl (by simp only[];omega) (by simp only[];omega) (by simp only[];omega)
 rw[if_neg h1];by_cases h2:x % 32<28
 ·rw[if_pos h2];exact wL cS x (Me kq x cy cQ (by omega) h2) rfl rfl
 rw[if_neg h2];by_cases h3:x % 32=31
 ·rw[if_pos h3];exact sJ cS x (Iu kq x cy cQ h3) rfl rfl (by simp only[];omega) (by simp only[];omega) (by simp only[];omega)
 ·rw[if_neg h3];exact Mg cS x (Mf kq x cy cQ (by omega) (by omega)) rfl rfl
theorem FV {N:Int} {w:World} {base b:Nat} {ov sv:Value} {p:Cb} (cS:aG N w base b 201 (aQ p) ov sv p.c) (hf:p.h.Fit) (hmj:p.h.major≤5) (x:Int) (cy:0≤x) (cQ:x≤255):Calls prog 173 #[.pointer (some ⟨b,0,none⟩),.int .u8 x] w (aF w base b ov sv (p.more x)):=by
 have gp:=Iv (h:=p.h) (post:=[.bool p.begun]) cS.bG hf x cy cQ;have hv:=hf.v;have hl:=hf.aT;have tx:p.h.v*256+x≤18446744073709551615:=by
  have h9:(256:Int)^(8-p.h.aT).toNat≤72057594037927936:=by
   have:(8-p.h.aT).toNat≤7:=by omega
   generalize (8-p.h.aT).toNat=j at this;rcases(show j=0∨j=1∨j=2∨j=3∨j=4∨j=5∨j=6∨j=7 by omega) with rfl|rfl|rfl|rfl|rfl|rfl|rfl|rfl<;>simp
  omega
 unfold Cb.more;by_cases h1:0<p.h.aT-1
 ·rw[if_pos h1];rw[decide_eq_false (show¬p.h.aT-1=0 by omega)] at gp;have e:({p.h with v:=p.h.v*256+x,aT:=p.h.aT-1}:Hd)={p.h with v:=p.h.v*256+x,aT:=p.h.aT-1,end_:=false}:=by have:=hf.end_;cases hh:p.h;rw[hh] at this;simp only at this;subst this;rfl
  rw[e];exact wL cS x gp rfl rfl
 ·rw[if_neg h1];rw[decide_eq_true (show p.h.aT-1=0 by omega)] at gp;have h:=sJ cS x gp hf.e rfl (by simp only[];omega) tx ⟨hf.major.1,hmj⟩;simp only[] at h;rw[hf.open_] at h;exact h
theorem Er {N:Int} {w:World} {base b:Nat} {T:TypeId} {rest:List Value} {ov sv:Value} {k:Core} (h:aG N w base b T rest ov sv k) (hb:k.Cl=k.fail 2):Calls prog 187 #[.pointer (some ⟨b,0,none⟩)] w (aV w base b T rest ov sv k.Cl):=by
 rw[hb];have hf:=gx 2 k w base b T rest ov sv h.bG;obtain⟨g0,g1,g2,g3,g4,g5,g6,g7⟩:=bU h.bG;obtain⟨oo,oc,rfl⟩:=h.bG.bu.shape;have fj:=h.bG.bu;have bP:=h.bG.az.lt;have Fz:=h.parts;have KR:=h.sR;have jW:=h.opens;have HF:=hid hf;clear h hf;unfold Core.Cl at hb;generalize k.open_=l at g1 fj hb Fz jW HF;cases l with
 |nil=>
  simp only[List.length_nil] at*;clear fj hb Fz;go_enter func187,ntmps187;go_wp2_with fail
  refine HF.out.mono ?_;rintro e w2 ⟨v,rfl,au,aM⟩;obtain⟨av,cv,rfl⟩:=au.shape;have cO:=hid au;have cj:=hid aM;clear au aM;go_wp2_with fail
  go_ret;exact⟨_,rfl,cO.out,cj.out⟩
 |cons c r=>
  have Qa:0≤c.count∨c.bg=true∧0<c.parts % 2:=by
   by_cases hx:0≤c.count∨c.bg=true∧0<c.parts % 2
   ·exact hx
   ·simp only[] at hb;rw[if_neg hx] at hb;have h1:=congrArg (fun t:List Ev×Core=>t.1) hb;simp[Core.value,Core.fail] at h1
  have Rn:=Fz c ms;obtain⟨g,cap,he,gb,gl,gr,gm,q0,q1,q2,gf⟩:=ai.some_ fj;simp only[List.length_cons,Value.slice.injEq,true_and] at he;obtain⟨rfl,rfl⟩:=he;simp only[List.length_cons] at*;unfold maxLen at gm;clear gf fj hb Fz;rcases(show 0≤c.count∨¬0≤c.count∧c.bg=true∧0<c.parts % 2 by
   by_cases hx:0≤c.count
   ·exact inl hx
   ·exact inr ⟨hx,Qa.resolve_left hx⟩) with hx|⟨hx,hy,hz⟩
  ·clear Qa;go_enter func187,ntmps187;go_wp2_with fail
   refine HF.out.mono ?_;rintro e w2 ⟨v,rfl,au,aM⟩;obtain⟨av,cv,rfl⟩:=au.shape;have cO:=hid au;have cj:=hid aM;clear au aM;go_wp2_with fail
   go_ret;exact⟨_,rfl,cO.out,cj.out⟩
  ·rw[hy] at q0;clear Qa hy;go_enter func187,ntmps187;go_wp2_with fail
   refine HF.out.mono ?_;rintro e w2 ⟨v,rfl,au,aM⟩;obtain⟨av,cv,rfl⟩:=au.shape;have cO:=hid au;have cj:=hid aM;clear au aM;go_wp2_with fail
   go_ret;exact⟨_,rfl,cO.out,cj.out⟩
theorem Xz {N:Int} {w:World} {base b:Nat} {T:TypeId} {rest:List Value} {ov sv:Value} {k:Core} (h:aG N w base b T rest ov sv k) {c:af} {r:List af} (ho:k.open_=c::r) (hb: ¬ (0≤c.count∨c.bg=true∧0<c.parts % 2)):Calls prog 187 #[.pointer (some ⟨b,0,none⟩)] w (aV w base b T rest ov sv k.Cl):=by
 rw[show k.Cl=Core.value {k with open_:=r} aL by unfold Core.Cl;rw[ho];simp only[];rw[if_neg hb]];obtain⟨g0,g1,g2,g3,g4,g5,g6,g7⟩:=bU h.bG;obtain⟨f1,f2,f3,f4,f5,f6,f7,bP⟩:=fu h.bG;have fj:=h.bG.bu;rw[ho] at fj;obtain⟨g,cap,rfl,gb,gl,gr,gm,q0,q1,q2,gf⟩:=ai.some_ fj;have bn:=a8.vy h.bG (ai.pop fj) (I.refl _ _) (inl rfl);have Rn:=h.parts c (by rw[ho];exact ms);have KR:=h.sR;have Yz:r.length≤100:=by have:=h.opens;rw[ho] at this;simp only[List.length_cons] at this;omega
 have Ea:aG N (w.setCell ⟨b,1,none⟩ (.slice (some ⟨g,0,none⟩) r.length cap)) base b T rest (.slice (some ⟨g,0,none⟩) r.length cap) sv {k with open_:=r}:=⟨bn.1,⟨h.fit.depth,by have:=h.fit.opens;rw[ho] at this;simp only[List.length_cons] at this;simp only[];omega,fun x hx=>h.fit.parts x (by rw[ho];exact List.mem_cons_of_mem _ hx),h.fit.aT,h.fit.FZ⟩,h.sR,by simpa[World.setCell] using h.gQ⟩
 have hv:=mA Ea aL;rw[iQ] at hv;have HV:=hid hv;have iJ:=hid bn;unfold maxLen at gm;have hx: ¬0≤c.count:=fun hx=>hb (inl hx);have l7:c.bg=false∨c.bg=true∧¬0<c.parts % 2:=by
  cases hp:c.bg with
  |false=>exact inl rfl
  |true=>exact inr ⟨rfl,fun h=>hb (inr ⟨hp,h⟩)⟩
 clear h fj bn Ea hv gf ho hb;rcases l7 with hp|⟨hp,hpz⟩;all_goals
  rw[hp] at q0;clear hp;go_enter func187,ntmps187;go_wp2_with fail
  refine HV.out.mono ?_;rintro e w2 ⟨v,rfl,au,aM⟩;obtain⟨av,cv,rfl⟩:=au.shape;have cO:=hid au;have cj:=hid aM;clear au aM;go_wp2_with fail
  go_ret;exact aV.trans iJ.out.2.1 iJ.out.2.2 ⟨_,rfl,cO.out,cj.out⟩
theorem Sn {N:Int} {w:World} {base b:Nat} {T:TypeId} {rest:List Value} {ov sv:Value} {k:Core} (h:aG N w base b T rest ov sv k):Calls prog 187 #[.pointer (some ⟨b,0,none⟩)] w (aV w base b T rest ov sv k.Cl):=by
 cases ho:k.open_ with
 |nil=>exact Er h (by unfold Core.Cl;rw[ho])
 |cons c r=>
  by_cases hb:0≤c.count∨c.bg=true∧0<c.parts % 2
  ·exact Er h (by unfold Core.Cl;rw[ho];simp only[];rw[if_pos hb])
  ·exact Xz h ho hb
theorem FT {N:Int} {w:World} {base b:Nat} {ov sv:Value} {p:Cb} (cS:aG N w base b 201 (aQ p) ov sv p.c) (low:Int) (hl:0≤low∧low≤31):Calls prog 189 #[.pointer (some ⟨b,0,none⟩),.int .u8 low] w (aF w base b ov sv (p.simple low)):=by
 have bP:=cS.bG.az.lt;have HF:=hid (fun e=>gx e p.c w base b 201 _ ov sv cS.bG);have HV:=hid (fun q=>mA cS q);clear cS;obtain⟨res,iI⟩: ∃res,p.simple low=res:=⟨_,rfl⟩
 rw[iI];have HR:=hid iI;clear iI;rcases(show low=20∨low=21∨low=22∨low=25∨low=26∨low=27∨(¬low=20∧¬low=21∧¬low=22∧¬low=25∧¬low=26∧¬low=27) by omega) with rfl|rfl|rfl|rfl|rfl|rfl|⟨n1,n2,n3,n4,n5,n6⟩
 ·have hv:=HV.out (aq false);rw[ft] at hv;have HVV:=hid hv;clear hv;go_enter func189,ntmps189;go_wp2_with fail
  refine HVV.out.mono ?_;rintro e w2 hg;obtain⟨v,rfl,au,aM⟩:=aV.cb hg;obtain⟨av,cv,rfl⟩:=au.shape;have cO:=hid au;have cj:=hid aM;clear au aM hg;go_wp2_with fail
  go_ret;rw[←HR.out,show p.simple 20=p.put (p.c.value (aq false)) from rfl];exact⟨_,rfl,cO.out,cj.out⟩
 ·have hv:=HV.out (aq true);rw[ft] at hv;have HVV:=hid hv;clear hv;go_enter func189,ntmps189;go_wp2_with fail
  refine HVV.out.mono ?_;rintro e w2 hg;obtain⟨v,rfl,au,aM⟩:=aV.cb hg;obtain⟨av,cv,rfl⟩:=au.shape;have cO:=hid au;have cj:=hid aM;clear au aM hg;go_wp2_with fail
  go_ret;rw[←HR.out,show p.simple 21=p.put (p.c.value (aq true)) from rfl];exact⟨_,rfl,cO.out,cj.out⟩
 ·have hv:=HV.out ar;rw[fU] at hv;have HVV:=hid hv;clear hv;go_enter func189,ntmps189;go_wp2_with fail
  refine HVV.out.mono ?_;rintro e w2 hg;obtain⟨v,rfl,au,aM⟩:=aV.cb hg;obtain⟨av,cv,rfl⟩:=au.shape;have cO:=hid au;have cj:=hid aM;clear au aM hg;go_wp2_with fail
  go_ret;rw[←HR.out,show p.simple 22=p.put (p.c.value ar) from rfl];exact⟨_,rfl,cO.out,cj.out⟩
 ·go_enter func189,ntmps189;go_wp2_with fail
  refine(HF.out 6).mono ?_;rintro e w2 hg;obtain⟨v,rfl,au,aM⟩:=aV.cb hg;obtain⟨av,cv,rfl⟩:=au.shape;have cO:=hid au;have cj:=hid aM;clear au aM hg;go_wp2_with fail
  go_ret;rw[←HR.out,show p.simple 25=p.put (p.c.fail 6) from rfl];exact⟨_,rfl,cO.out,cj.out⟩
 ·go_enter func189,ntmps189;go_wp2_with fail
  refine(HF.out 6).mono ?_;rintro e w2 hg;obtain⟨v,rfl,au,aM⟩:=aV.cb hg;obtain⟨av,cv,rfl⟩:=au.shape;have cO:=hid au;have cj:=hid aM;clear au aM hg;go_wp2_with fail
  go_ret;rw[←HR.out,show p.simple 26=p.put (p.c.fail 6) from rfl];exact⟨_,rfl,cO.out,cj.out⟩
 ·go_enter func189,ntmps189;go_wp2_with fail
  refine(HF.out 6).mono ?_;rintro e w2 hg;obtain⟨v,rfl,au,aM⟩:=aV.cb hg;obtain⟨av,cv,rfl⟩:=au.shape;have cO:=hid au;have cj:=hid aM;clear au aM hg;go_wp2_with fail
  go_ret;rw[←HR.out,show p.simple 27=p.put (p.c.fail 6) from rfl];exact⟨_,rfl,cO.out,cj.out⟩
 ·have b1:(low==20)=false:=by simpa using n1
  have b2:(low==21)=false:=by simpa using n2
  have b3:(low==22)=false:=by simpa using n3
  have b4:(low==25)=false:=by simpa using n4
  have b5:(low==26)=false:=by simpa using n5
  have b6:(low==27)=false:=by simpa using n6
  have HM:=hid (show p.simple low=p.put (p.c.fail 8) by unfold Cb.simple;rw[if_neg (by omega),if_neg n3,if_neg (by omega)]);clear n1 n2 n3 n4 n5 n6;go_enter func189,ntmps189;go_wp2_with fail
  refine(HF.out 8).mono ?_;rintro e w2 hg;obtain⟨v,rfl,au,aM⟩:=aV.cb hg;obtain⟨av,cv,rfl⟩:=au.shape;have cO:=hid au;have cj:=hid aM;clear au aM hg;go_wp2_with fail
  go_ret;rw[←HR.out,HM.out];exact⟨_,rfl,cO.out,cj.out⟩
end Go.Proofs.YthffblhdjjbkaaaGreat
