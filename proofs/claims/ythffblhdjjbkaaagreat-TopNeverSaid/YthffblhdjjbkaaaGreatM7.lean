/- strconv's formatBase10 into a row that may be too short -/
import Derived.Shelf.LaysM
import Derived.Shelf.RegionOpenPlain
import Derived.Lib.Walk
import Derived.Lib.ItoaWalk
import Derived.WalkKit
import Derived.CellFam
set_option maxHeartbeats 100000000
set_option maxRecDepth 1000000
open Go.Lib (hid)
namespace Go.Proofs.YthffblhdjjbkaaaGreat
open Go.Shelf Go.RowKit Go.Sort Go.Lib
variable {P:Program} {ρ:Ren}
def z8:Nat→Nat→Array UInt8→Array UInt8
 |0,_,d=>d
 |1,v,d=>d.setIfInBounds 0 (UInt8.ofNat (48+v))
 |k+2,v,d=>z8 k (v/100) ((d.setIfInBounds (k+1) (sm (v % 100*2+1))).setIfInBounds k (sm (v % 100*2)))
structure eY (d0:Array UInt8) (u nd v:Nat) (d:Array UInt8):Prop where
 size:d.size=d0.size
 le:nd≤d0.size
 rest:v≤u
 same:z8 nd v d=z8 d0.size u d0
theorem eY.start (d:Array UInt8) (u:Nat):eY d u d.size u d:=⟨rfl,Nat.le_refl _,Nat.le_refl _,rfl⟩
theorem eY.step2' {d0:Array UInt8} {u k v:Nat} {d:Array UInt8} (h:eY d0 u (k+2) v d):eY d0 u k (v/100) ((d.setIfInBounds (k+1) (sm (v % 100*2+1))).setIfInBounds k (sm (v % 100*2))):=⟨by simpa using h.size,by have:=h.le;omega,Nat.le_trans (Nat.div_le_self _ _) h.rest,h.same⟩
theorem eY.step1 {d0:Array UInt8} {u v:Nat} {d:Array UInt8} (h:eY d0 u 1 v d):eY d0 u 0 0 (d.setIfInBounds 0 (UInt8.ofNat (48+v))):=⟨by simpa using h.size,Nat.zero_le _,Nat.zero_le _,h.same⟩
theorem sr: ∀ (nd v:Nat) (d:Array UInt8),(z8 nd v d).size=d.size
 |0,_,_=>rfl
 |1,_,_=>by simp[z8]
 |k+2,v,d=>by rw[z8,sr k];simp
theorem Pk (L:Lays.n285 P ρ) (az off cap:Nat) (u:Nat) (d:Array UInt8) (w:World) (hH:Holds (fun(b:UInt8)=>Value.int .u8 (b.toNat:Int)) w az off d) (Du:u<4294967296) (lx:d.size<4611686018427387904):Calls P (ρ.f 285) #[.slice (some ⟨az,off,none⟩) d.size cap,.int .u64 u] w fun e w'=>e= .returned (.tuple #[])∧∃ (n v':Nat) (dk:Array UInt8),w'=(putRow (fun(b:UInt8)=>Value.int .u8 (b.toNat:Int)) w az off dk).drewN n∧eY d u 0 v' dk:=by
 have mixed:=L.mixed;have t37:=L.t37;have a37:=L.a37;have z37:=L.z37;have v37:=L.v37;have t53:=L.t53;have a53:=L.a53;have z53:=L.z53;have v53:=L.v53;have t3:=L.t3;have a3:=L.a3;have z3:=L.z3;have v3:=L.v3;have t4:=L.t4;have a4:=L.a4;have z4:=L.z4;have v4:=L.v4;have t51:=L.t51;have a51:=L.a51;have z51:=L.z51;have v51:=L.v51;have t9:=L.t9;have a9:=L.a9;have z9:=L.z9;have v9:=L.v9;have t5:=L.t5;have a5:=L.a5;have z5:=L.z5;have v5:=L.v5;have t0:=L.t0;have a0:=L.a0;have z0:=L.z0;have v0:=L.v0;go_enter L.f285,Body.n285_ntmps ρ;go_name_bytes SM hSM;have eSM:SM=Lib.smalls:=by rw[←hSM];decide+kernel
 subst eSM;clear hSM;go_wp2;go_loopw [1,4] (fun vu vn wr=>∃ (nd v n:Nat) (dk:Array UInt8),vu= .int .u64 v∧vn= .int .i64 nd∧wr=(putRow (fun(b:UInt8)=>Value.int .u8 (b.toNat:Int)) w az off dk).drewN n∧Hid (eY d u nd v dk)) (fun _ vn _=>(RowKit.intOf vn).toNat);case atStart=>exact⟨d.size,u,0,d,rfl,rfl,(putRow_self _ _ _ _ _ hH).symm,eY.start d u⟩
 case round=>
  obtain⟨nd,v,n,qY,rfl,rfl,yk,nw⟩:=hrel;rename World=>W0;have AH:=hid hH;clear hH;have akF:v<18446744073709551616:=by have:=nw.out.rest;omega
  have dT:=nw.out.size;have WL:Holds (fun(b:UInt8)=>Value.int .u8 (b.toNat:Int)) W0 az off qY:=by rw[yk];exact holds_putRow _ w az off d qY AH.out dT
  obtain⟨G0,YH⟩: ∃G:Nat→Int,∀t,G t=(qY[t]!.toNat:Int):=⟨_,fun _=>rfl⟩
  have nN: ∀t,t<d.size→W0.cell? ⟨az,off+t,none⟩=some (.int .u8 (G0 t)):=fun t ht=>by rw[YH];exact(WL t (by omega)).1
  have ZO: ∀t,t<d.size→W0.frozen? ⟨az,off+t,none⟩=false:=fun t ht=>(WL t (by omega)).2;have Jw:=hid yk;clear yk YH WL;by_cases h8:8≤nd
  ·obtain⟨m,rfl⟩: ∃m,nd=m+8:=⟨nd-8,by omega⟩
   go_wp2;have ld:=hid (eY.step2' (show eY d u (m+6+2) (v) qY from nw.out));have Lq:=nw.out.le;go_name_slot 9 x0 cy;have su:x0=((v % 100*2:Nat):Int):=by omega
   have v8: ∀w,(Instr.index (ρ.t 9) (.string Lib.smalls) (.int .u32 (x0+1))).run P w= .ok (.int .u8 ((sm (v % 100*2+1)).toNat:Int)) w:=idx_smalls (ρ.t 9) L.t9 .u32 _ _ (by omega) (by omega);have wg: ∀w,(Instr.index (ρ.t 9) (.string Lib.smalls) (.int .u32 x0)).run P w= .ok (.int .u8 ((sm (v % 100*2)).toNat:Int)) w:=idx_smalls (ρ.t 9) L.t9 .u32 _ _ (by omega) (by omega);have Lr:0≤x0:=by omega
   have Ls:x0≤198:=by omega
   clear cy su;go_region_o;go_wp2;go_name_world W1 Jx;have eK:W1=(putRow (fun(b:UInt8)=>Value.int .u8 (b.toNat:Int)) w az off ((qY.setIfInBounds (m+6+1) (sm (v % 100*2+1))).setIfInBounds (m+6) (sm (v % 100*2)))).drewN (n+0+1):=by rw[←Jx];exact(by rw[Jw.out];exact store2_world w az off qY (n+0) (m+6+1) (m+6) _ _ (by omega) (by omega))
   generalize ((qY.setIfInBounds (m+6+1) (sm (v % 100*2+1))).setIfInBounds (m+6) (sm (v % 100*2)))=ot at eK ld;clear Jx nN ZO Jw nw v8 wg dT;have gq:=ld.out.size;have Aa:Holds (fun(b:UInt8)=>Value.int .u8 (b.toNat:Int)) W1 az off ot:=by rw[eK];exact holds_putRow _ w az off d ot AH.out gq
   obtain⟨G1,Jy⟩: ∃G:Nat→Int,∀t,G t=(ot[t]!.toNat:Int):=⟨_,fun _=>rfl⟩
   have oI: ∀t,t<d.size→W1.cell? ⟨az,off+t,none⟩=some (.int .u8 (G1 t)):=fun t ht=>by rw[Jy];exact(Aa t (by omega)).1
   have KO: ∀t,t<d.size→W1.frozen? ⟨az,off+t,none⟩=false:=fun t ht=>(Aa t (by omega)).2;have M5:=hid eK;clear eK Jy Aa;have Ab:=hid (eY.step2' (show eY d u (m+4+2) (v/100) ot from ld.out));have Tj:=ld.out.le;go_name_slot 8 x1 cQ;have Ac:x1=((v/100 % 100*2:Nat):Int):=by omega
   have GW: ∀w,(Instr.index (ρ.t 9) (.string Lib.smalls) (.int .u32 (x1+1))).run P w= .ok (.int .u8 ((sm (v/100 % 100*2+1)).toNat:Int)) w:=idx_smalls (ρ.t 9) L.t9 .u32 _ _ (by omega) (by omega);have GX: ∀w,(Instr.index (ρ.t 9) (.string Lib.smalls) (.int .u32 x1)).run P w= .ok (.int .u8 ((sm (v/100 % 100*2)).toNat:Int)) w:=idx_smalls (ρ.t 9) L.t9 .u32 _ _ (by omega) (by omega);have mY:0≤x1:=by omega
   have mZ:x1≤198:=by omega
   clear cQ Ac;go_region_o;go_wp2;go_name_world W2 U8;have gU:W2=(putRow (fun(b:UInt8)=>Value.int .u8 (b.toNat:Int)) w az off ((ot.setIfInBounds (m+4+1) (sm (v/100 % 100*2+1))).setIfInBounds (m+4) (sm (v/100 % 100*2)))).drewN (n+1+1):=by rw[←U8];exact(by rw[M5.out];exact store2_world w az off ot (n+1) (m+4+1) (m+4) _ _ (by omega) (by omega))
   generalize ((ot.setIfInBounds (m+4+1) (sm (v/100 % 100*2+1))).setIfInBounds (m+4) (sm (v/100 % 100*2)))=Ad at gU Ab;clear U8 oI KO M5 ld GW GX gq;have fD:=Ab.out.size;have Pl:Holds (fun(b:UInt8)=>Value.int .u8 (b.toNat:Int)) W2 az off Ad:=by rw[gU];exact holds_putRow _ w az off d Ad AH.out fD
   obtain⟨G2,U9⟩: ∃G:Nat→Int,∀t,G t=(Ad[t]!.toNat:Int):=⟨_,fun _=>rfl⟩
   have gJ: ∀t,t<d.size→W2.cell? ⟨az,off+t,none⟩=some (.int .u8 (G2 t)):=fun t ht=>by rw[U9];exact(Pl t (by omega)).1
   have U1: ∀t,t<d.size→W2.frozen? ⟨az,off+t,none⟩=false:=fun t ht=>(Pl t (by omega)).2;have YI:=hid gU;clear gU U9 Pl;have Va:=hid (eY.step2' (show eY d u (m+2+2) (v/100/100) Ad from Ab.out));have Dv:=Ab.out.le;go_name_slot 11 x2 dE;have Pm:x2=((v/100/100 % 100*2:Nat):Int):=by omega
   have WM: ∀w,(Instr.index (ρ.t 9) (.string Lib.smalls) (.int .u32 (x2+1))).run P w= .ok (.int .u8 ((sm (v/100/100 % 100*2+1)).toNat:Int)) w:=idx_smalls (ρ.t 9) L.t9 .u32 _ _ (by omega) (by omega);have WN: ∀w,(Instr.index (ρ.t 9) (.string Lib.smalls) (.int .u32 x2)).run P w= .ok (.int .u8 ((sm (v/100/100 % 100*2)).toNat:Int)) w:=idx_smalls (ρ.t 9) L.t9 .u32 _ _ (by omega) (by omega);have ZP:0≤x2:=by omega
   have ZQ:x2≤198:=by omega
   clear dE Pm;go_region_o;go_wp2;go_name_world W3 hW3;have jN:W3=(putRow (fun(b:UInt8)=>Value.int .u8 (b.toNat:Int)) w az off ((Ad.setIfInBounds (m+2+1) (sm (v/100/100 % 100*2+1))).setIfInBounds (m+2) (sm (v/100/100 % 100*2)))).drewN (n+2+1):=by rw[←hW3];exact(by rw[YI.out];exact store2_world w az off Ad (n+2) (m+2+1) (m+2) _ _ (by omega) (by omega))
   generalize ((Ad.setIfInBounds (m+2+1) (sm (v/100/100 % 100*2+1))).setIfInBounds (m+2) (sm (v/100/100 % 100*2)))=YJ at jN Va;clear hW3 gJ U1 YI Ab WM WN fD;have Fv:=Va.out.size;have hH3:Holds (fun(b:UInt8)=>Value.int .u8 (b.toNat:Int)) W3 az off YJ:=by rw[jN];exact holds_putRow _ w az off d YJ AH.out Fv
   obtain⟨G3,hG3⟩: ∃G:Nat→Int,∀t,G t=(YJ[t]!.toNat:Int):=⟨_,fun _=>rfl⟩
   have Kp: ∀t,t<d.size→W3.cell? ⟨az,off+t,none⟩=some (.int .u8 (G3 t)):=fun t ht=>by rw[hG3];exact(hH3 t (by omega)).1
   have hf3: ∀t,t<d.size→W3.frozen? ⟨az,off+t,none⟩=false:=fun t ht=>(hH3 t (by omega)).2;have AW3:=hid jN;clear jN hG3 hH3;have HI4:=hid (eY.step2' (show eY d u (m+2) (v/100/100/100) YJ from Va.out));have Dw:=Va.out.le;go_name_slot 10 x3 hx3;have adU:x3=((v/100/100/100 % 100*2:Nat):Int):=by omega
   have akJ: ∀w,(Instr.index (ρ.t 9) (.string Lib.smalls) (.int .u32 (x3+1))).run P w= .ok (.int .u8 ((sm (v/100/100/100 % 100*2+1)).toNat:Int)) w:=idx_smalls (ρ.t 9) L.t9 .u32 _ _ (by omega) (by omega);have akK: ∀w,(Instr.index (ρ.t 9) (.string Lib.smalls) (.int .u32 x3)).run P w= .ok (.int .u8 ((sm (v/100/100/100 % 100*2)).toNat:Int)) w:=idx_smalls (ρ.t 9) L.t9 .u32 _ _ (by omega) (by omega);have akL:0≤x3:=by omega
   have akM:x3≤198:=by omega
   clear hx3 adU;go_region_o;go_wp2;go_roundw;case rel=>
    refine⟨m,v/100000000,n+3+1,((YJ.setIfInBounds (m+1) (sm (v/100/100/100 % 100*2+1))).setIfInBounds (m) (sm (v/100/100/100 % 100*2))),by first|go_num|(congr 1;omega),by first|go_num|(congr 1;omega),by rw[AW3.out];exact store2_world w az off YJ (n+3) (m+1) (m) _ _ (by omega) (by omega),?_⟩;have e:v/100/100/100/100=v/100000000:=by omega
    rw[←e];exact HI4.out
   case measure=>simp[RowKit.intOf];omega
  ·have ZR:nd=0∨nd=1∨nd=2∨nd=3∨nd=4∨nd=5∨nd=6∨nd=7:=by omega
   rcases ZR with rfl|rfl|rfl|rfl|rfl|rfl|rfl|rfl
   ·have WO:=Nat.lt_of_le_of_lt nw.out.rest Du;have GY:=nw.out.le;go_wp2;go_end0;exact⟨rfl,n,_,qY,Jw.out,nw.out⟩
   ·have WO:=Nat.lt_of_le_of_lt nw.out.rest Du;have GY:=nw.out.le;go_wp2;go_end0;exact⟨rfl,n,0,_,by rw[Jw.out];exact store1_world0 w az off qY n _ (v) (by omega) (by omega),nw.out.step1⟩
   ·have WO:=Nat.lt_of_le_of_lt nw.out.rest Du;have GY:=nw.out.le;go_wp2;have ld:=hid (eY.step2' (show eY d u (0+2) (v) qY from nw.out));have Lq:=nw.out.le;go_name_slot 16 x0 cy;have su:x0=((v % 100*2:Nat):Int):=by omega
    have v8: ∀w,(Instr.index (ρ.t 9) (.string Lib.smalls) (.int .u32 (x0+1))).run P w= .ok (.int .u8 ((sm (v % 100*2+1)).toNat:Int)) w:=idx_smalls (ρ.t 9) L.t9 .u32 _ _ (by omega) (by omega);have wg: ∀w,(Instr.index (ρ.t 9) (.string Lib.smalls) (.int .u32 x0)).run P w= .ok (.int .u8 ((sm (v % 100*2)).toNat:Int)) w:=idx_smalls (ρ.t 9) L.t9 .u32 _ _ (by omega) (by omega);have Lr:0≤x0:=by omega
    have Ls:x0≤198:=by omega
    clear cy su;go_region_o;go_wp2;go_end0;exact⟨rfl,n+0+1,_,_,by rw[Jw.out];exact store2_world w az off qY (n+0) (0+1) (0) _ _ (by omega) (by omega),ld.out⟩
   ·have WO:=Nat.lt_of_le_of_lt nw.out.rest Du;have GY:=nw.out.le;go_wp2;have ld:=hid (eY.step2' (show eY d u (1+2) (v) qY from nw.out));have Lq:=nw.out.le;go_name_slot 16 x0 cy;have su:x0=((v % 100*2:Nat):Int):=by omega
    have v8: ∀w,(Instr.index (ρ.t 9) (.string Lib.smalls) (.int .u32 (x0+1))).run P w= .ok (.int .u8 ((sm (v % 100*2+1)).toNat:Int)) w:=idx_smalls (ρ.t 9) L.t9 .u32 _ _ (by omega) (by omega);have wg: ∀w,(Instr.index (ρ.t 9) (.string Lib.smalls) (.int .u32 x0)).run P w= .ok (.int .u8 ((sm (v % 100*2)).toNat:Int)) w:=idx_smalls (ρ.t 9) L.t9 .u32 _ _ (by omega) (by omega);have Lr:0≤x0:=by omega
    have Ls:x0≤198:=by omega
    clear cy su;go_region_o;go_wp2;go_end0;exact⟨rfl,n+0+1,0,_,by rw[Jw.out];exact store21_world w az off qY (n+0) (1+1) (1) _ _ _ (v/100) (by omega) (by omega) (by omega),ld.out.step1⟩
   ·have WO:=Nat.lt_of_le_of_lt nw.out.rest Du;have GY:=nw.out.le;go_wp2;have ld:=hid (eY.step2' (show eY d u (2+2) (v) qY from nw.out));have Lq:=nw.out.le;go_name_slot 15 x0 cy;have su:x0=((v % 100*2:Nat):Int):=by omega
    have v8: ∀w,(Instr.index (ρ.t 9) (.string Lib.smalls) (.int .u32 (x0+1))).run P w= .ok (.int .u8 ((sm (v % 100*2+1)).toNat:Int)) w:=idx_smalls (ρ.t 9) L.t9 .u32 _ _ (by omega) (by omega);have wg: ∀w,(Instr.index (ρ.t 9) (.string Lib.smalls) (.int .u32 x0)).run P w= .ok (.int .u8 ((sm (v % 100*2)).toNat:Int)) w:=idx_smalls (ρ.t 9) L.t9 .u32 _ _ (by omega) (by omega);have Lr:0≤x0:=by omega
    have Ls:x0≤198:=by omega
    clear cy su;go_region_o;go_wp2;go_name_world W1 Jx;have eK:W1=(putRow (fun(b:UInt8)=>Value.int .u8 (b.toNat:Int)) w az off ((qY.setIfInBounds (2+1) (sm (v % 100*2+1))).setIfInBounds (2) (sm (v % 100*2)))).drewN (n+0+1):=by rw[←Jx];exact(by rw[Jw.out];exact store2_world w az off qY (n+0) (2+1) (2) _ _ (by omega) (by omega))
    generalize ((qY.setIfInBounds (2+1) (sm (v % 100*2+1))).setIfInBounds (2) (sm (v % 100*2)))=ot at eK ld;clear Jx nN ZO Jw nw v8 wg dT;have gq:=ld.out.size;have Aa:Holds (fun(b:UInt8)=>Value.int .u8 (b.toNat:Int)) W1 az off ot:=by rw[eK];exact holds_putRow _ w az off d ot AH.out gq
    obtain⟨G1,Jy⟩: ∃G:Nat→Int,∀t,G t=(ot[t]!.toNat:Int):=⟨_,fun _=>rfl⟩
    have oI: ∀t,t<d.size→W1.cell? ⟨az,off+t,none⟩=some (.int .u8 (G1 t)):=fun t ht=>by rw[Jy];exact(Aa t (by omega)).1
    have KO: ∀t,t<d.size→W1.frozen? ⟨az,off+t,none⟩=false:=fun t ht=>(Aa t (by omega)).2;have M5:=hid eK;clear eK Jy Aa;have Ab:=hid (eY.step2' (show eY d u (0+2) (v/100) ot from ld.out));have Tj:=ld.out.le;go_name_slot 14 x1 cQ;have Ac:x1=((v/100 % 100*2:Nat):Int):=by omega
    have GW: ∀w,(Instr.index (ρ.t 9) (.string Lib.smalls) (.int .u32 (x1+1))).run P w= .ok (.int .u8 ((sm (v/100 % 100*2+1)).toNat:Int)) w:=idx_smalls (ρ.t 9) L.t9 .u32 _ _ (by omega) (by omega);have GX: ∀w,(Instr.index (ρ.t 9) (.string Lib.smalls) (.int .u32 x1)).run P w= .ok (.int .u8 ((sm (v/100 % 100*2)).toNat:Int)) w:=idx_smalls (ρ.t 9) L.t9 .u32 _ _ (by omega) (by omega);have mY:0≤x1:=by omega
    have mZ:x1≤198:=by omega
    clear cQ Ac;go_region_o;go_wp2;go_end0;exact⟨rfl,n+1+1,_,_,by rw[M5.out];exact store2_world w az off ot (n+1) (0+1) (0) _ _ (by omega) (by omega),Ab.out⟩
   ·have WO:=Nat.lt_of_le_of_lt nw.out.rest Du;have GY:=nw.out.le;go_wp2;have ld:=hid (eY.step2' (show eY d u (3+2) (v) qY from nw.out));have Lq:=nw.out.le;go_name_slot 15 x0 cy;have su:x0=((v % 100*2:Nat):Int):=by omega
    have v8: ∀w,(Instr.index (ρ.t 9) (.string Lib.smalls) (.int .u32 (x0+1))).run P w= .ok (.int .u8 ((sm (v % 100*2+1)).toNat:Int)) w:=idx_smalls (ρ.t 9) L.t9 .u32 _ _ (by omega) (by omega);have wg: ∀w,(Instr.index (ρ.t 9) (.string Lib.smalls) (.int .u32 x0)).run P w= .ok (.int .u8 ((sm (v % 100*2)).toNat:Int)) w:=idx_smalls (ρ.t 9) L.t9 .u32 _ _ (by omega) (by omega);have Lr:0≤x0:=by omega
    have Ls:x0≤198:=by omega
    clear cy su;go_region_o;go_wp2;go_name_world W1 Jx;have eK:W1=(putRow (fun(b:UInt8)=>Value.int .u8 (b.toNat:Int)) w az off ((qY.setIfInBounds (3+1) (sm (v % 100*2+1))).setIfInBounds (3) (sm (v % 100*2)))).drewN (n+0+1):=by rw[←Jx];exact(by rw[Jw.out];exact store2_world w az off qY (n+0) (3+1) (3) _ _ (by omega) (by omega))
    generalize ((qY.setIfInBounds (3+1) (sm (v % 100*2+1))).setIfInBounds (3) (sm (v % 100*2)))=ot at eK ld;clear Jx nN ZO Jw nw v8 wg dT;have gq:=ld.out.size;have Aa:Holds (fun(b:UInt8)=>Value.int .u8 (b.toNat:Int)) W1 az off ot:=by rw[eK];exact holds_putRow _ w az off d ot AH.out gq
    obtain⟨G1,Jy⟩: ∃G:Nat→Int,∀t,G t=(ot[t]!.toNat:Int):=⟨_,fun _=>rfl⟩
    have oI: ∀t,t<d.size→W1.cell? ⟨az,off+t,none⟩=some (.int .u8 (G1 t)):=fun t ht=>by rw[Jy];exact(Aa t (by omega)).1
    have KO: ∀t,t<d.size→W1.frozen? ⟨az,off+t,none⟩=false:=fun t ht=>(Aa t (by omega)).2;have M5:=hid eK;clear eK Jy Aa;have Ab:=hid (eY.step2' (show eY d u (1+2) (v/100) ot from ld.out));have Tj:=ld.out.le;go_name_slot 14 x1 cQ;have Ac:x1=((v/100 % 100*2:Nat):Int):=by omega
    have GW: ∀w,(Instr.index (ρ.t 9) (.string Lib.smalls) (.int .u32 (x1+1))).run P w= .ok (.int .u8 ((sm (v/100 % 100*2+1)).toNat:Int)) w:=idx_smalls (ρ.t 9) L.t9 .u32 _ _ (by omega) (by omega);have GX: ∀w,(Instr.index (ρ.t 9) (.string Lib.smalls) (.int .u32 x1)).run P w= .ok (.int .u8 ((sm (v/100 % 100*2)).toNat:Int)) w:=idx_smalls (ρ.t 9) L.t9 .u32 _ _ (by omega) (by omega);have mY:0≤x1:=by omega
    have mZ:x1≤198:=by omega
    clear cQ Ac;go_region_o;go_wp2;go_end0;exact⟨rfl,n+1+1,0,_,by rw[M5.out];exact store21_world w az off ot (n+1) (1+1) (1) _ _ _ (v/100/100) (by omega) (by omega) (by omega),Ab.out.step1⟩
   ·have WO:=Nat.lt_of_le_of_lt nw.out.rest Du;have GY:=nw.out.le;go_wp2;have ld:=hid (eY.step2' (show eY d u (4+2) (v) qY from nw.out));have Lq:=nw.out.le;go_name_slot 15 x0 cy;have su:x0=((v % 100*2:Nat):Int):=by omega
    have v8: ∀w,(Instr.index (ρ.t 9) (.string Lib.smalls) (.int .u32 (x0+1))).run P w= .ok (.int .u8 ((sm (v % 100*2+1)).toNat:Int)) w:=idx_smalls (ρ.t 9) L.t9 .u32 _ _ (by omega) (by omega);have wg: ∀w,(Instr.index (ρ.t 9) (.string Lib.smalls) (.int .u32 x0)).run P w= .ok (.int .u8 ((sm (v % 100*2)).toNat:Int)) w:=idx_smalls (ρ.t 9) L.t9 .u32 _ _ (by omega) (by omega);have Lr:0≤x0:=by omega
    have Ls:x0≤198:=by omega
    clear cy su;go_region_o;go_wp2;go_name_world W1 Jx;have eK:W1=(putRow (fun(b:UInt8)=>Value.int .u8 (b.toNat:Int)) w az off ((qY.setIfInBounds (4+1) (sm (v % 100*2+1))).setIfInBounds (4) (sm (v % 100*2)))).drewN (n+0+1):=by rw[←Jx];exact(by rw[Jw.out];exact store2_world w az off qY (n+0) (4+1) (4) _ _ (by omega) (by omega))
    generalize ((qY.setIfInBounds (4+1) (sm (v % 100*2+1))).setIfInBounds (4) (sm (v % 100*2)))=ot at eK ld;clear Jx nN ZO Jw nw v8 wg dT;have gq:=ld.out.size;have Aa:Holds (fun(b:UInt8)=>Value.int .u8 (b.toNat:Int)) W1 az off ot:=by rw[eK];exact holds_putRow _ w az off d ot AH.out gq
    obtain⟨G1,Jy⟩: ∃G:Nat→Int,∀t,G t=(ot[t]!.toNat:Int):=⟨_,fun _=>rfl⟩
    have oI: ∀t,t<d.size→W1.cell? ⟨az,off+t,none⟩=some (.int .u8 (G1 t)):=fun t ht=>by rw[Jy];exact(Aa t (by omega)).1
    have KO: ∀t,t<d.size→W1.frozen? ⟨az,off+t,none⟩=false:=fun t ht=>(Aa t (by omega)).2;have M5:=hid eK;clear eK Jy Aa;have Ab:=hid (eY.step2' (show eY d u (2+2) (v/100) ot from ld.out));have Tj:=ld.out.le;go_name_slot 14 x1 cQ;have Ac:x1=((v/100 % 100*2:Nat):Int):=by omega
    have GW: ∀w,(Instr.index (ρ.t 9) (.string Lib.smalls) (.int .u32 (x1+1))).run P w= .ok (.int .u8 ((sm (v/100 % 100*2+1)).toNat:Int)) w:=idx_smalls (ρ.t 9) L.t9 .u32 _ _ (by omega) (by omega);have GX: ∀w,(Instr.index (ρ.t 9) (.string Lib.smalls) (.int .u32 x1)).run P w= .ok (.int .u8 ((sm (v/100 % 100*2)).toNat:Int)) w:=idx_smalls (ρ.t 9) L.t9 .u32 _ _ (by omega) (by omega);have mY:0≤x1:=by omega
    have mZ:x1≤198:=by omega
    clear cQ Ac;go_region_o;go_wp2;go_name_world W2 U8;have gU:W2=(putRow (fun(b:UInt8)=>Value.int .u8 (b.toNat:Int)) w az off ((ot.setIfInBounds (2+1) (sm (v/100 % 100*2+1))).setIfInBounds (2) (sm (v/100 % 100*2)))).drewN (n+1+1):=by rw[←U8];exact(by rw[M5.out];exact store2_world w az off ot (n+1) (2+1) (2) _ _ (by omega) (by omega))
    generalize ((ot.setIfInBounds (2+1) (sm (v/100 % 100*2+1))).setIfInBounds (2) (sm (v/100 % 100*2)))=Ad at gU Ab;clear U8 oI KO M5 ld GW GX gq;have fD:=Ab.out.size;have Pl:Holds (fun(b:UInt8)=>Value.int .u8 (b.toNat:Int)) W2 az off Ad:=by rw[gU];exact holds_putRow _ w az off d Ad AH.out fD
    obtain⟨G2,U9⟩: ∃G:Nat→Int,∀t,G t=(Ad[t]!.toNat:Int):=⟨_,fun _=>rfl⟩
    have gJ: ∀t,t<d.size→W2.cell? ⟨az,off+t,none⟩=some (.int .u8 (G2 t)):=fun t ht=>by rw[U9];exact(Pl t (by omega)).1
    have U1: ∀t,t<d.size→W2.frozen? ⟨az,off+t,none⟩=false:=fun t ht=>(Pl t (by omega)).2;have YI:=hid gU;clear gU U9 Pl;have Va:=hid (eY.step2' (show eY d u (0+2) (v/100/100) Ad from Ab.out));have Dv:=Ab.out.le;go_name_slot 16 x2 dE;have Pm:x2=((v/100/100 % 100*2:Nat):Int):=by omega
    have WM: ∀w,(Instr.index (ρ.t 9) (.string Lib.smalls) (.int .u32 (x2+1))).run P w= .ok (.int .u8 ((sm (v/100/100 % 100*2+1)).toNat:Int)) w:=idx_smalls (ρ.t 9) L.t9 .u32 _ _ (by omega) (by omega);have WN: ∀w,(Instr.index (ρ.t 9) (.string Lib.smalls) (.int .u32 x2)).run P w= .ok (.int .u8 ((sm (v/100/100 % 100*2)).toNat:Int)) w:=idx_smalls (ρ.t 9) L.t9 .u32 _ _ (by omega) (by omega);have ZP:0≤x2:=by omega
    have ZQ:x2≤198:=by omega
    clear dE Pm;go_region_o;go_wp2;go_end0;exact⟨rfl,n+2+1,_,_,by rw[YI.out];exact store2_world w az off Ad (n+2) (0+1) (0) _ _ (by omega) (by omega),Va.out⟩
   ·have WO:=Nat.lt_of_le_of_lt nw.out.rest Du;have GY:=nw.out.le;go_wp2;have ld:=hid (eY.step2' (show eY d u (5+2) (v) qY from nw.out));have Lq:=nw.out.le;go_name_slot 15 x0 cy;have su:x0=((v % 100*2:Nat):Int):=by omega
    have v8: ∀w,(Instr.index (ρ.t 9) (.string Lib.smalls) (.int .u32 (x0+1))).run P w= .ok (.int .u8 ((sm (v % 100*2+1)).toNat:Int)) w:=idx_smalls (ρ.t 9) L.t9 .u32 _ _ (by omega) (by omega);have wg: ∀w,(Instr.index (ρ.t 9) (.string Lib.smalls) (.int .u32 x0)).run P w= .ok (.int .u8 ((sm (v % 100*2)).toNat:Int)) w:=idx_smalls (ρ.t 9) L.t9 .u32 _ _ (by omega) (by omega);have Lr:0≤x0:=by omega
    have Ls:x0≤198:=by omega
    clear cy su;go_region_o;go_wp2;go_name_world W1 Jx;have eK:W1=(putRow (fun(b:UInt8)=>Value.int .u8 (b.toNat:Int)) w az off ((qY.setIfInBounds (5+1) (sm (v % 100*2+1))).setIfInBounds (5) (sm (v % 100*2)))).drewN (n+0+1):=by rw[←Jx];exact(by rw[Jw.out];exact store2_world w az off qY (n+0) (5+1) (5) _ _ (by omega) (by omega))
    generalize ((qY.setIfInBounds (5+1) (sm (v % 100*2+1))).setIfInBounds (5) (sm (v % 100*2)))=ot at eK ld;clear Jx nN ZO Jw nw v8 wg dT;have gq:=ld.out.size;have Aa:Holds (fun(b:UInt8)=>Value.int .u8 (b.toNat:Int)) W1 az off ot:=by rw[eK];exact holds_putRow _ w az off d ot AH.out gq
    obtain⟨G1,Jy⟩: ∃G:Nat→Int,∀t,G t=(ot[t]!.toNat:Int):=⟨_,fun _=>rfl⟩
    have oI: ∀t,t<d.size→W1.cell? ⟨az,off+t,none⟩=some (.int .u8 (G1 t)):=fun t ht=>by rw[Jy];exact(Aa t (by omega)).1
    have KO: ∀t,t<d.size→W1.frozen? ⟨az,off+t,none⟩=false:=fun t ht=>(Aa t (by omega)).2;have M5:=hid eK;clear eK Jy Aa;have Ab:=hid (eY.step2' (show eY d u (3+2) (v/100) ot from ld.out));have Tj:=ld.out.le;go_name_slot 14 x1 cQ;have Ac:x1=((v/100 % 100*2:Nat):Int):=by omega
    have GW: ∀w,(Instr.index (ρ.t 9) (.string Lib.smalls) (.int .u32 (x1+1))).run P w= .ok (.int .u8 ((sm (v/100 % 100*2+1)).toNat:Int)) w:=idx_smalls (ρ.t 9) L.t9 .u32 _ _ (by omega) (by omega);have GX: ∀w,(Instr.index (ρ.t 9) (.string Lib.smalls) (.int .u32 x1)).run P w= .ok (.int .u8 ((sm (v/100 % 100*2)).toNat:Int)) w:=idx_smalls (ρ.t 9) L.t9 .u32 _ _ (by omega) (by omega);have mY:0≤x1:=by omega
    have mZ:x1≤198:=by omega
    clear cQ Ac;go_region_o;go_wp2;go_name_world W2 U8;have gU:W2=(putRow (fun(b:UInt8)=>Value.int .u8 (b.toNat:Int)) w az off ((ot.setIfInBounds (3+1) (sm (v/100 % 100*2+1))).setIfInBounds (3) (sm (v/100 % 100*2)))).drewN (n+1+1):=by rw[←U8];exact(by rw[M5.out];exact store2_world w az off ot (n+1) (3+1) (3) _ _ (by omega) (by omega))
    generalize ((ot.setIfInBounds (3+1) (sm (v/100 % 100*2+1))).setIfInBounds (3) (sm (v/100 % 100*2)))=Ad at gU Ab;clear U8 oI KO M5 ld GW GX gq;have fD:=Ab.out.size;have Pl:Holds (fun(b:UInt8)=>Value.int .u8 (b.toNat:Int)) W2 az off Ad:=by rw[gU];exact holds_putRow _ w az off d Ad AH.out fD
    obtain⟨G2,U9⟩: ∃G:Nat→Int,∀t,G t=(Ad[t]!.toNat:Int):=⟨_,fun _=>rfl⟩
    have gJ: ∀t,t<d.size→W2.cell? ⟨az,off+t,none⟩=some (.int .u8 (G2 t)):=fun t ht=>by rw[U9];exact(Pl t (by omega)).1
    have U1: ∀t,t<d.size→W2.frozen? ⟨az,off+t,none⟩=false:=fun t ht=>(Pl t (by omega)).2;have YI:=hid gU;clear gU U9 Pl;have Va:=hid (eY.step2' (show eY d u (1+2) (v/100/100) Ad from Ab.out));have Dv:=Ab.out.le;go_name_slot 16 x2 dE;have Pm:x2=((v/100/100 % 100*2:Nat):Int):=by omega
    have WM: ∀w,(Instr.index (ρ.t 9) (.string Lib.smalls) (.int .u32 (x2+1))).run P w= .ok (.int .u8 ((sm (v/100/100 % 100*2+1)).toNat:Int)) w:=idx_smalls (ρ.t 9) L.t9 .u32 _ _ (by omega) (by omega);have WN: ∀w,(Instr.index (ρ.t 9) (.string Lib.smalls) (.int .u32 x2)).run P w= .ok (.int .u8 ((sm (v/100/100 % 100*2)).toNat:Int)) w:=idx_smalls (ρ.t 9) L.t9 .u32 _ _ (by omega) (by omega);have ZP:0≤x2:=by omega
    have ZQ:x2≤198:=by omega
    clear dE Pm;go_region_o;go_wp2;go_end0;exact⟨rfl,n+2+1,0,_,by rw[YI.out];exact store21_world w az off Ad (n+2) (1+1) (1) _ _ _ (v/100/100/100) (by omega) (by omega) (by omega),Va.out.step1⟩
end Go.Proofs.YthffblhdjjbkaaaGreat
