/- head.Big; packout -/
import Derived.Test.YthffblhdjjbkaaaGreatM12
import Derived.Test.YthffblhdjjbkaaaGreatM31
set_option maxHeartbeats 100000000
set_option maxRecDepth 1000000
open Go.Lib (hid)
open Go.Proofs.Tryz
open Or (inl inr)
namespace Go.Proofs.YthffblhdjjbkaaaGreat
open Go.RowKit Go.Tru
def Td (v:Nat) (n g:Nat) (w:World) (i:Value) (wr:World):Prop:=
 ∃k:Nat,k≤n∧i= .int .i64 k∧Has wr g (bS (List.replicate (n-k) 0++bf v k)) 5∧I [] w wr
theorem j6 (v n:Nat) (_:v≤18446744073709551615) (hn:1≤n∧n≤8) (w:World):Calls prog 30 #[.int .u64 v,.int .i64 n] w fun r w'=>r= .returned (.string (bytesOf (bf v n)))∧I [] w w':=by
 have h1: ¬ (n:Int)<1:=by omega
 have h2: ¬8<(n:Int):=by omega
 obtain⟨w1,ZB,aJ,k1⟩:=vz n hn.2 w;have CB:=hid aJ;have K1:=hid k1;have gv:=aJ.lt;clear aJ k1;go_enter func30,ntmps30;go_wp2_with fail
 go_loopw [17] (fun i wr=>Td v n w.heap.size w i wr) (fun i _=>n- (intOf i).toNat);case atStart=>exact⟨0,Nat.zero_le _,rfl,by simpa[bf] using CB.out,K1.out⟩
 case round=>
  obtain⟨k,hk,rfl,oX,hK⟩:=hrel;have bP:=oX.lt;have HK:=hid hK;clear hK;by_cases dD:k<n
  ·have xw:(k:Int)<(n:Int):=by omega
   obtain⟨j,hj⟩: ∃j,n-k=j+1:=⟨n-k-1,by omega⟩
   have eK:=da (x:=(n:Int)-1) (by omega);have gU:IntKind.i64.wrap ((n:Int)-1- (k:Int))=(j:Int):=by rw[IntKind.wrap_i64];omega
   have jN:=da (x:=8*(k:Int)) (by omega);have hjn:(j:Int)<(n:Int):=by omega
   have hj0:(0:Int)≤(j:Int):=by omega
   rw[hj] at oX;have nW:wr.cell? ⟨w.heap.size,j,none⟩=some (.int .u8 0):=by rw[oX.cell,Jl]
   have ZC:=oX.free j;have nf:((v:Int)/2^(8*k) % 256)=((v/256^k % 256:Nat):Int):=by rw[show(256:Nat)^k=2^(8*k) by rw[Nat.pow_mul]];simp only[Int.natCast_emod,Int.natCast_ediv,Int.natCast_pow];rfl
   have bn:=oX.set j (.int .u8 ((v/256^k % 256:Nat):Int));rw[Jm j _ _ (Nat.mod_lt _ (by decide)),←nf] at bn;have iJ:=hid bn;clear ZB oX bn nf;go_wp2_with fail
   go_roundw;case rel=>exact⟨k+1,by omega,by go_num,by rw[show n- (k+1)=j by omega];exact iJ.out,HK.out.setCell (inr (Nat.le_refl _)) _⟩
   case measure=>simp[intOf];omega
  ·obtain rfl:k=n:=by omega
   have xw: ¬ (k:Int)<(k:Int):=by omega
   have kq:bz wr w.heap.size (.slice (some ⟨w.heap.size,0,none⟩) k k) (bf v k):=by unfold bz;rw[bp];exact ownsRow_lit (by simpa using oX) (Nat.le_refl _) (by simp[bS,bp]) (by unfold maxLen;omega)
   have aH:=iW kq underlying63 underlying9;clear oX kq ZB;go_wp2_with fail
   go_ret;exact⟨rfl,HK.out⟩
theorem vX (f:Int) (h:1≤f∧f≤3) (w:World):Calls prog 62 #[.int .i64 f] w fun e w'=>e= .returned (.bool true)∧w=w':=by
 have h1:(1:Int)≤f:=h.1;have h2:f≤3:=h.2;have mx:decide ((1:Int)≤f)=true:=decide_eq_true h1;have uw:decide (f≤3)=true:=decide_eq_true h2;clear h;go_enter func62,ntmps62;go_wp2_with fail
 go_ret;exact⟨dA (by simp),rfl⟩
def cp (s:Setup):Value:= .agg #[.int .i64 s.from_,.int .i64 s.to,.int .i64 s.depth,.int .i64 s.jr,.int .i64 s.cN]
theorem lI {s:Setup} (h:s.right=true):(1≤s.from_∧s.from_≤3)∧(1≤s.to∧s.to≤3)∧(1≤s.depth∧s.depth≤16)∧(0≤s.jr∧s.jr≤2000)∧(0≤s.cN∧s.cN≤255):=by simpa[Setup.right] using h
theorem rL (s:Setup) (h:s.right=true) (w:World):Calls prog 29 #[cp s] w fun e w'=>e= .returned (.bool true)∧I [] w w':=by
 obtain⟨hf,ht,⟨d1,d2⟩,⟨s1,s2⟩,⟨l1,l2⟩⟩:=lI h;have HF:=hid (fun W=>vX s.from_ hf W);have HT:=hid (fun W=>vX s.to ht W);obtain⟨fm,to,dp,sg,lm⟩:=s;simp only[cp] at*;have e1:decide ((1:Int)≤dp)=true:=decide_eq_true d1;have e2:decide (dp≤16)=true:=decide_eq_true d2;have e3:decide ((0:Int)≤sg)=true:=decide_eq_true s1;have e4:decide (sg≤2000)=true:=decide_eq_true s2;have e5:decide ((0:Int)≤lm)=true:=decide_eq_true l1;have e6:decide (lm≤255)=true:=decide_eq_true l2;clear h hf ht;go_enter func29,ntmps29;go_wp2_with fail
 refine(HF.out _).mono ?_;rintro e w1 ⟨rfl,rfl⟩;go_wp2_with fail
 refine(HT.out _).mono ?_;rintro e w1 ⟨rfl,rfl⟩;go_wp2_with fail
 go_ret;exact⟨dA (by simp[*]),(I.refl _ _).alloc _⟩
theorem ZH (c:UInt8) (W:World) (n:Nat) (hn:n=W.heap.size):(convert 63 9 (.slice (some ⟨n,0,none⟩) 1 1)).run prog (W.alloc (.cells #[.int .u8 (c.toNat:Int)] 5))= .ok (.string (bytesOf [c])) (W.alloc (.cells #[.int .u8 (c.toNat:Int)] 5)):=by have h:=jO (P:=prog) 63 9 5 underlying63 underlying5 underlying9 [(c.toNat:Int)] W n hn;simp only[List.map_cons,List.map_nil,List.length_singleton] at h;rw[h];congr 2;apply ByteArray.ext;apply Array.ext';rw[NQ];simp[bytesOf]
theorem vY (e:Int) (he:0≤e∧e≤15) (w:World):Calls prog 105 #[.int .i64 e] w fun r w'=>r= .returned (.string (bytesOf [UInt8.ofNat e.toNat]))∧I [] w w':=by
 have hw:IntKind.u8.wrap e=e:=by rw[IntKind.wrap_u8];omega
 have hc:(((UInt8.ofNat e.toNat).toNat:Nat):Int)=e:=by rw[UInt8.toNat_ofNat'];omega
 have aH:=fun W n hn=>ZH (UInt8.ofNat e.toNat) W n hn;rw[hc] at aH;have hem:e % 256=e:=by omega
 clear hc;go_enter func105,ntmps105;go_wp2_with fail
 go_ret;exact⟨rfl,(I.refl _ _).alloc _⟩
theorem aZ (a b:List UInt8):bytesOf a++bytesOf b=bytesOf (a++b):=by apply ByteArray.ext;rw[ByteArray.data_append];simp[bytesOf]
theorem Wz (e:Int) (he:0≤e∧e≤15) (w:World):Calls prog 89 #[.int .i64 e] w fun r w'=>r= .returned (.string (bytesOf (cf e false)))∧I [] w w':=by
 have HN:=hid (vY e he w);have dq:(⟨#[78]⟩:ByteArray)++bytesOf [UInt8.ofNat e.toNat]=bytesOf (cf e false):=aZ [78] _;have lx: ¬281474976710656<(⟨#[78]⟩:ByteArray).size+(bytesOf [UInt8.ofNat e.toNat]).size:=by rw[an];show¬281474976710656<1+1;decide
 go_enter func89,ntmps89;go_wp2_with fail
 refine HN.out.mono ?_;rintro r w1 ⟨rfl,k1⟩;have K1:=hid k1;clear k1;go_wp2_with fail
 go_ret;exact⟨rfl,K1.out⟩
theorem C2 (e:Int) (he:0≤e∧e≤15) (w:World):Calls prog 88 #[.int .i64 e] w fun r w'=>r= .returned (.string (bytesOf (cf e true)))∧I [] w w':=by
 have HN:=hid (vY e he w);have dq:(⟨#[255]⟩:ByteArray)++bytesOf [UInt8.ofNat e.toNat]=bytesOf (cf e true):=aZ [255] _;have lx: ¬281474976710656<(⟨#[255]⟩:ByteArray).size+(bytesOf [UInt8.ofNat e.toNat]).size:=by rw[an];show¬281474976710656<1+1;decide
 go_enter func88,ntmps88;go_wp2_with fail
 refine HN.out.mono ?_;rintro r w1 ⟨rfl,k1⟩;have K1:=hid k1;clear k1;go_wp2_with fail
 go_ret;exact⟨rfl,K1.out⟩
theorem I7 (w:World):Calls prog 26 #[] w fun r w'=>r= .returned (.string (bytesOf [75]))∧w=w':=by
 go_enter func26,ntmps26;go_wp2_with fail
 go_ret;exact⟨rfl,rfl⟩
def tt (s:Setup):List UInt8:=[84,82]++[UInt8.ofNat s.from_.toNat,UInt8.ofNat s.to.toNat,UInt8.ofNat s.depth.toNat]++bf s.jr.toNat 2++bf s.cN.toNat 1
theorem vZ (s p:ByteArray) (h:((s.extract 0 p.size).toList==p.toList)=true) (hp:p.size≤s.size) (w:World):Calls prog 111 #[.string s,.string p] w fun e w'=>e= .returned (.bool true)∧w=w':=by
 have h1:(p.size:Int)≤(s.size:Int):=by omega
 have h0:(0:Int)≤(p.size:Int):=by omega
 have h2:decide ((p.size:Int)≤(s.size:Int))=true:=decide_eq_true h1;go_enter func111,ntmps111;go_wp2_with fail
 go_ret;exact⟨rfl,rfl⟩
theorem pB (s p:ByteArray) (h:((s.extract 0 p.size).toList==p.toList)=true) (hp:p.size≤s.size) (w:World):Calls prog 100 #[.string s,.string p] w fun e w'=>e= .returned (.bool true)∧w=w':=by
 have HL:=hid (vZ s p h hp w);clear h hp;go_enter func100,ntmps100;go_wp2_with fail
 refine HL.out.mono ?_;rintro e w1 ⟨rfl,rfl⟩;go_wp2_with fail
 go_ret;exact⟨rfl,rfl⟩
theorem Te (b:List UInt8) (hb:b.take 2= [84,82].take b.length) (p:ByteArray) (hp:p=bytesOf ([84,82].take b.length)):(((bytesOf b).extract 0 p.size).toList==p.toList)=true∧p.size≤(bytesOf b).size:=by
 subst hp;have hl:([84,82].take b.length:List UInt8).length=min b.length 2:=by simp
 refine⟨?_,by rw[an,an,hl];omega⟩;rw[Lib.toList_data,Lib.toList_data,Lib.extract_data,an,hl];have h1:(bytesOf b).data.toList=b:=by simp[bytesOf]
 have h2:(bytesOf ([84,82].take b.length:List UInt8)).data.toList= [84,82].take b.length:=by simp[bytesOf]
 rw[h1,h2,←hb];simp only[List.drop_zero,Nat.sub_zero,beq_iff_eq];rcases Nat.le_total b.length 2 with h|h
 ·rw[Nat.min_eq_left h,List.take_of_length_le (Nat.le_refl _),List.take_of_length_le h]
 ·rw[Nat.min_eq_right h]
theorem Ll (b:List UInt8) (hb:b.take 2= [84,82].take b.length) (h8:b.length<8) (h1:1≤b.length) (w:World):
    Calls prog 86 #[.string (bytesOf b)] w fun e w'=>e= .returned (.tuple #[cp ⟨0,0,0,0,0⟩,.int .i64 3])∧I [] w w':=by
 obtain⟨S,hS⟩: ∃S,bytesOf b=S:=⟨_,rfl⟩
 have BI:S.size=b.length:=by rw[←hS,an]
 have HP:=hid (Te b hb)
 rw[hS] at HP⊢
 have dD:(b.length:Int)<8:=by omega
 clear hb hS
 obtain⟨k,hk,hkm⟩: ∃k:Nat,(k=1∨k=2)∧((b.length=1∧k=1)∨(b.length=2∧k=2)∨(2<b.length∧k=2)):=by
  rcases(show b.length=1∨b.length=2∨2<b.length by omega) with h|h|h
  · exact⟨1,inl rfl,inl ⟨h,rfl⟩⟩
  · exact⟨2,inr rfl,inr (inl ⟨h,rfl⟩)⟩
  · exact⟨2,inr rfl,inr (inr ⟨h,rfl⟩)⟩
 have HX:=hid (fun W=>pB S ((⟨#[84,82]⟩:ByteArray).extract 0 k) (HP.out _ (by
  rcases hkm with⟨h,rfl⟩|⟨h,rfl⟩|⟨h,rfl⟩
  · rw[h];rfl
  · rw[h];rfl
  · rw[List.take_of_length_le (by simp;omega)];rfl)).1 (HP.out _ (by
  rcases hkm with⟨h,rfl⟩|⟨h,rfl⟩|⟨h,rfl⟩
  · rw[h];rfl
  · rw[h];rfl
  · rw[List.take_of_length_le (by simp;omega)];rfl)).2 W)
 obtain⟨m,hm⟩: ∃m,b.length=m:=⟨_,rfl⟩
 rw[hm] at BI dD hkm h8 h1
 clear hm
 rcases hkm with⟨h,h'⟩|⟨h,h'⟩|⟨h,h'⟩
 all_goals
  subst h'
  try subst h
  try (have ly: ¬ (m:Int)≤2:=by omega)
  clear hk
  go_enter func86,ntmps86
  go_wp2_with fail
  refine(HX.out _).mono ?_
  rintro e w1 ⟨rfl,rfl⟩
  go_wp2_with fail
  (refine bodyPost_ret_by (v:= .tuple #[cp ⟨0,0,0,0,0⟩,.int .i64 3]) ?_ rfl ?_
   · rw[results_cell_tmp rfl]
     go_simp
     rfl
   · exact⟨rfl,by first|exact((I.refl _ _).alloc _).setCell (inr (by simp)) _|exact(I.refl _ _).alloc _⟩)
def pW:List (List UInt8×Setup):=[([84,82,1,3,3,0,50,0],⟨1,3,3,50,0⟩),([84,82,2,1,8,7,208,0],⟨2,1,8,2000,0⟩),([84,82,2,2,8,7,208,0],⟨2,2,8,2000,0⟩),([84,82,2,3,8,7,208,0],⟨2,3,8,2000,0⟩)]
theorem qX (a b c d e f:UInt8) (st:Setup) (gp:st.right=true) (S:ByteArray) (hS:S=⟨#[84,82,a,b,c,d,e,f]⟩) (x y:Int) (hx:IntKind.i64.wrap ((d.toNat:Int)*256)=x) (RD:bits .or .i64 x (e.toNat:Int)=y) (hv:st=⟨a.toNat,b.toNat,c.toNat,y,f.toNat⟩) (w:World):Calls prog 86 #[.string S] w fun e w'=>e= .returned (.tuple #[cp st,.int .i64 0])∧I [] w w':=by
 have lx:S.size=8:=by rw[hS];rfl
 have i2:S[2]'(by omega)=a:=by subst hS;rfl
 have i3:S[3]'(by omega)=b:=by subst hS;rfl
 have i4:S[4]'(by omega)=c:=by subst hS;rfl
 have i5:S[5]'(by omega)=d:=by subst hS;rfl
 have i6:S[6]'(by omega)=e:=by subst hS;rfl
 have i7:S[7]'(by omega)=f:=by subst hS;rfl
 have HX:=hid (fun W=>pB S ((⟨#[84,82]⟩:ByteArray).extract 0 2) (by rw[Lib.toList_data,Lib.toList_data,Lib.extract_data];subst hS;rfl) (by rw[lx];decide) W);have HR:=hid (fun W=>rL st gp W);subst hv;simp only[cp] at*;have wa:IntKind.i64.wrap (a.toNat:Int)=a.toNat:=by have:=a.toNat_lt;rw[IntKind.wrap_i64];omega
 have wb:IntKind.i64.wrap (b.toNat:Int)=b.toNat:=by have:=b.toNat_lt;rw[IntKind.wrap_i64];omega
 have wc:IntKind.i64.wrap (c.toNat:Int)=c.toNat:=by have:=c.toNat_lt;rw[IntKind.wrap_i64];omega
 have wd:IntKind.i64.wrap (d.toNat:Int)=d.toNat:=by have:=d.toNat_lt;rw[IntKind.wrap_i64];omega
 have we:IntKind.i64.wrap (e.toNat:Int)=e.toNat:=by have:=e.toNat_lt;rw[IntKind.wrap_i64];omega
 have wf:IntKind.i64.wrap (f.toNat:Int)=f.toNat:=by have:=f.toNat_lt;rw[IntKind.wrap_i64];omega
 clear hS gp;go_enter func86,ntmps86;go_wp2_with fail
 refine(HX.out _).mono ?_;rintro e1 w1 ⟨rfl,rfl⟩;go_upto_region 5 with fail;generalize WA:w.alloc (.cells #[.int .i64 0,.int .i64 0,.int .i64 0,.int .i64 0,.int .i64 0] 25)=W0;refine rg (fun w'=>I [] W0 w') ((I.refl _ _).drew) fun HH=> ?_;refine tk 0 HH.out ?_;try simp only[gz]
 refine tk 1 HH.out ?_;try simp only[gz]
 refine tk 2 HH.out ?_;try simp only[gz]
 refine tk 3 HH.out ?_;try simp only[gz]
 refine tk 4 HH.out ?_;try simp only[gz]
 refine tk 5 HH.out ?_;try simp only[gz]
 refine tk 6 HH.out ?_;try simp only[gz]
 refine tk 7 HH.out ?_;try simp only[gz]
 refine tk 8 HH.out ?_;try simp only[gz]
 refine tk 9 HH.out ?_;try simp only[gz]
 refine tk 10 HH.out ?_;try simp only[gz]
 refine tk 11 HH.out ?_;try simp only[gz]
 refine tk 12 HH.out ?_;try simp only[gz]
 refine tk 13 HH.out ?_;try simp only[gz]
 refine tk 14 HH.out ?_;try simp only[gz]
 refine tk 15 HH.out ?_;try simp only[gz]
 refine tk 16 HH.out ?_;try simp only[gz]
 refine tk 17 HH.out ?_;try simp only[gz]
 refine tk 18 HH.out ?_;try simp only[gz]
 refine tk 19 HH.out ?_;try simp only[gz]
 refine tk 20 HH.out ?_;try simp only[gz]
 refine rd 21 fun K hK=> ?_;go_simp;refine hK.out _ _ (HH.out.alloc _) fun HH=> ?_;clear hK K;refine rd 22 fun K hK=> ?_;go_simp;clear HH;refine hK.out _ _ (by first|exact((I.refl [] _).alloc _).drew|exact((I.refl [] _).drew).alloc _|exact(I.refl [] _).alloc _) fun HH=> ?_;clear hK K;refine wpAnyH_done (by kernel_rfl) ?_ _;have ko:W0.heap.size=w.heap.size+1:=by rw[←WA];simp
 have Fw:=Has.aC w #[.int .i64 0,.int .i64 0,.int .i64 0,.int .i64 0,.int .i64 0] 25 rfl;rw[WA] at Fw;have HW:=hid (show I [] w W0 by rw[←WA];exact(I.refl _ _).alloc _);have HN:=hid Fw;clear Fw WA;go_wp2_with fail
 refine(HR.out _).mono ?_;rintro e1 w1 ⟨rfl,k1⟩;have Pc:I [] W0 w1:=by first|exact((I.refl [] _).alloc _).trans k1|exact(((I.refl [] _).alloc _).drew).trans k1
 have tP:=HN.out.keeps Pc (by simp);have bn:Has w1 (w.heap.size+1) [.int .i64 a.toNat,.int .i64 b.toNat,.int .i64 c.toNat,.int .i64 y,.int .i64 f.toNat] 25:=by
  first
  |exact(Has.aC W0 #[.int .i64 a.toNat,.int .i64 b.toNat,.int .i64 c.toNat,.int .i64 y,.int .i64 f.toNat] 25 ko.symm).keeps k1 (by simp)
  |exact((Has.aC W0 #[.int .i64 a.toNat,.int .i64 b.toNat,.int .i64 c.toNat,.int .i64 y,.int .i64 f.toNat] 25 ko.symm).drew).keeps k1 (by simp)
 have z0:w1.cell? ⟨w.heap.size,0,none⟩=some (.int .i64 0):=tP.cell 0;have z1:w1.cell? ⟨w.heap.size,1,none⟩=some (.int .i64 0):=tP.cell 1;have z2:w1.cell? ⟨w.heap.size,2,none⟩=some (.int .i64 0):=tP.cell 2;have z3:w1.cell? ⟨w.heap.size,3,none⟩=some (.int .i64 0):=tP.cell 3;have z4:w1.cell? ⟨w.heap.size,4,none⟩=some (.int .i64 0):=tP.cell 4;have y0:=tP.free 0;have y1:=tP.free 1;have y2:=tP.free 2;have y3:=tP.free 3;have y4:=tP.free 4;have s0:w1.cell? ⟨w.heap.size+1,0,none⟩=some (.int .i64 a.toNat):=bn.cell 0;have s1:w1.cell? ⟨w.heap.size+1,1,none⟩=some (.int .i64 b.toNat):=bn.cell 1;have s2:w1.cell? ⟨w.heap.size+1,2,none⟩=some (.int .i64 c.toNat):=bn.cell 2;have s3:w1.cell? ⟨w.heap.size+1,3,none⟩=some (.int .i64 y):=bn.cell 3;have s4:w1.cell? ⟨w.heap.size+1,4,none⟩=some (.int .i64 f.toNat):=bn.cell 4;have hzl:=tP.lt;have ZI:=hid (HW.out.trans Pc);clear Pc tP bn k1;go_wp2_with fail
 refine bodyPost_ret_by (v:= .tuple #[.agg #[.int .i64 a.toNat,.int .i64 b.toNat,.int .i64 c.toNat,.int .i64 y,.int .i64 f.toNat],.int .i64 0]) ?_ rfl ?_
 ·rw[results_cell_tmp rfl];go_simp
 ·exact⟨rfl,((((ZI.out.setCell (p:=⟨w.heap.size,0,none⟩) (inr (Nat.le_refl _)) _).setCell (p:=⟨w.heap.size,1,none⟩) (inr (Nat.le_refl _)) _).setCell (p:=⟨w.heap.size,2,none⟩) (inr (Nat.le_refl _)) _).setCell (p:=⟨w.heap.size,3,none⟩) (inr (Nat.le_refl _)) _).setCell (p:=⟨w.heap.size,4,none⟩) (inr (Nat.le_refl _)) _⟩
theorem Pd {b:List UInt8} {st:Setup} (h:(b,st)∈pW) (w:World):Calls prog 86 #[.string (bytesOf b)] w fun e w'=>e= .returned (.tuple #[cp st,.int .i64 0])∧I [] w w':=by
 simp only[pW,List.mem_cons,Prod.mk.injEq,List.not_mem_nil,or_false] at h;rcases h with⟨rfl,rfl⟩|⟨rfl,rfl⟩|⟨rfl,rfl⟩|⟨rfl,rfl⟩
 ·exact qX 1 3 3 0 50 0 _ (by decide) _ rfl 0 50 (by decide) (by kernel_rfl) rfl w
 ·exact qX 2 1 8 7 208 0 _ (by decide) _ rfl 1792 2000 (by decide) (by kernel_rfl) rfl w
 ·exact qX 2 2 8 7 208 0 _ (by decide) _ rfl 1792 2000 (by decide) (by kernel_rfl) rfl w
 ·exact qX 2 3 8 7 208 0 _ (by decide) _ rfl 1792 2000 (by decide) (by kernel_rfl) rfl w
theorem GM {W:World} {n:Nat} {a b c:Int} {x y z:UInt8} (ha:(x.toNat:Int)=a) (hb:(y.toNat:Int)=b) (hc:(z.toNat:Int)=c) (h0:W.cell? ⟨n,0,none⟩=some (.int .u8 a)) (h1:W.cell? ⟨n,1,none⟩=some (.int .u8 b)) (h2:W.cell? ⟨n,2,none⟩=some (.int .u8 c)):(convert 63 9 (.slice (some ⟨n,0,none⟩) 3 3)).run prog W= .ok (.string (bytesOf [x,y,z])) W:=by
 subst ha hb hc;refine run_convert_bytes_back W 63 9 5 ⟨n,0,none⟩ 3 [x,y,z] underlying63 underlying5 underlying9 (fun j hj=> ?_);rw[Addr.add_lit];simp only[List.length_cons,List.length_nil] at hj;rcases(show j=0∨j=1∨j=2 by omega) with rfl|rfl|rfl
 ·exact h0
 ·exact h1
 ·exact h2
theorem C3 (s:Setup) (h:s.right=true) (w:World):Calls prog 9 #[cp s] w fun e w'=>e= .returned (.tuple #[.string (bytesOf (tt s)),.bool true])∧I [] w w':=by
 obtain⟨hf,ht,hd,hs,hl⟩:=lI h;have HR:=hid (fun W=>rL s h W);obtain⟨fm,to,dp,sg,lm⟩:=s;simp only[cp,tt] at*;obtain⟨sn,rfl⟩: ∃n:Nat,sg=n:=⟨sg.toNat,by omega⟩
 obtain⟨ln,rfl⟩: ∃n:Nat,lm=n:=⟨lm.toNat,by omega⟩
 have eK:IntKind.u8.wrap fm=fm:=by rw[IntKind.wrap_u8];omega
 have gU:IntKind.u8.wrap to=to:=by rw[IntKind.wrap_u8];omega
 have jN:IntKind.u8.wrap dp=dp:=by rw[IntKind.wrap_u8];omega
 have hw4:IntKind.u64.wrap (sn:Int)=(sn:Int):=by rw[IntKind.wrap_u64];omega
 have VZ:IntKind.u64.wrap (ln:Int)=(ln:Int):=by rw[IntKind.wrap_u64];omega
 have Pe:fm % 256=fm:=by omega
 have ly:to % 256=to:=by omega
 have hm3:dp % 256=dp:=by omega
 have Yt:(sn:Int) % 18446744073709551616=sn:=by omega
 have hm5:(ln:Int) % 18446744073709551616=ln:=by omega
 have oI:(((UInt8.ofNat fm.toNat).toNat:Nat):Int)=fm:=by rw[UInt8.toNat_ofNat'];omega
 have gJ:(((UInt8.ofNat to.toNat).toNat:Nat):Int)=to:=by rw[UInt8.toNat_ofNat'];omega
 have Kp:(((UInt8.ofNat dp.toNat).toNat:Nat):Int)=dp:=by rw[UInt8.toNat_ofNat'];omega
 have WB:=hid (fun(W:World) (n:Nat) h0 h1 h2=>GM (W:=W) (n:=n) oI gJ Kp h0 h1 h2);have sS:=hid (fun W=>j6 sn 2 (by omega) (by omega) W);have rF:=hid (fun W=>j6 ln 1 (by omega) (by omega) W);obtain⟨S3,hS3⟩: ∃S3,bytesOf [UInt8.ofNat fm.toNat,UInt8.ofNat to.toNat,UInt8.ofNat dp.toNat]=S3:=⟨_,rfl⟩
 obtain⟨S2,iL⟩: ∃S2,bytesOf (bf sn 2)=S2:=⟨_,rfl⟩
 obtain⟨S1,kD⟩: ∃S1,bytesOf (bf ln 1)=S1:=⟨_,rfl⟩
 obtain⟨X1,hX1⟩: ∃X1,(⟨#[84,82]⟩:ByteArray)++S3=X1:=⟨_,rfl⟩
 obtain⟨X2,hX2⟩: ∃X2,X1++S2=X2:=⟨_,rfl⟩
 obtain⟨X3,hX3⟩: ∃X3,X2++S1=X3:=⟨_,rfl⟩
 have z3:S3.size=3:=by rw[←hS3,an];rfl
 have z2:S2.size=2:=by rw[←iL,an,bp]
 have z1:S1.size=1:=by rw[←kD,an,bp]
 have y1:X1.size=5:=by rw[←hX1,ByteArray.size_append,z3];rfl
 have y2:X2.size=7:=by rw[←hX2,ByteArray.size_append,y1,z2]
 have HX:=hid (show X3=bytesOf ([84,82]++[UInt8.ofNat fm.toNat,UInt8.ofNat to.toNat,UInt8.ofNat dp.toNat]++bf sn 2++bf ln 1) by rw[←aZ,←aZ,←aZ,hS3,iL,kD,←hX3,←hX2,←hX1];rfl)
 rw[hS3] at WB;rw[iL] at sS;rw[kD] at rF;have gq: ¬281474976710656<(⟨#[84,82]⟩:ByteArray).size+S3.size:=by rw[z3];show¬281474976710656<2+3;decide
 have fD: ¬281474976710656<X1.size+S2.size:=by omega
 have Fv: ¬281474976710656<X2.size+S1.size:=by omega
 have aks: ¬9223372036854775807<2+S3.size:=by omega
 have WC: ¬9223372036854775807<X1.size+S2.size:=by omega
 have akt: ¬9223372036854775807<X2.size+S1.size:=by omega
 clear h hf ht hd hs hl oI gJ Kp hS3 iL kD z1 z2 z3 y1 y2;go_enter func9,ntmps9;go_wp2_with fail
 refine(HR.out _).mono ?_;rintro e w1 ⟨rfl,k1⟩;have aJ:=(Has.aC w #[.int .i64 fm,.int .i64 to,.int .i64 dp,.int .i64 sn,.int .i64 ln] 25 rfl).keeps k1 (by simp);obtain⟨B,hB⟩: ∃B,w.heap.size=B:=⟨_,rfl⟩
 rw[hB] at aJ⊢;have c0:w1.cell? ⟨B,0,none⟩=some (.int .i64 fm):=aJ.cell 0;have c1:w1.cell? ⟨B,1,none⟩=some (.int .i64 to):=aJ.cell 1;have c2:w1.cell? ⟨B,2,none⟩=some (.int .i64 dp):=aJ.cell 2;have c3:w1.cell? ⟨B,3,none⟩=some (.int .i64 sn):=aJ.cell 3;have c4:w1.cell? ⟨B,4,none⟩=some (.int .i64 ln):=aJ.cell 4;have K1:=hid (((I.refl [] w).alloc (.cells #[.int .i64 fm,.int .i64 to,.int .i64 dp,.int .i64 sn,.int .i64 ln] 25)).trans k1);clear aJ k1;go_upto_region 3 with fail;have L0: ∀w',I [] w1 w'→w'.cell? ⟨B,0,none⟩=some (.int .i64 fm):=fun w' k=>k.cell c0 (by simp);have L1: ∀w',I [] w1 w'→w'.cell? ⟨B,1,none⟩=some (.int .i64 to):=fun w' k=>k.cell c1 (by simp);have L2: ∀w',I [] w1 w'→w'.cell? ⟨B,2,none⟩=some (.int .i64 dp):=fun w' k=>k.cell c2 (by simp);have L3: ∀w',I [] w1 w'→w'.cell? ⟨B,3,none⟩=some (.int .i64 sn):=fun w' k=>k.cell c3 (by simp);have L4: ∀w',I [] w1 w'→w'.cell? ⟨B,4,none⟩=some (.int .i64 ln):=fun w' k=>k.cell c4 (by simp);clear c0 c1 c2 c3 c4;refine rg (fun w'=>I [] w1 w') ((I.refl [] _).drew) fun HH=> ?_;generalize w1.drew=W0 at HH⊢;refine tk 0 HH.out ?_;try simp only[gz]
 refine tf 1 L0 HH.out ?_;try simp only[gz]
 refine tk 2 HH.out ?_;try simp only[gz]
 refine tk 3 HH.out ?_;try simp only[gz]
 refine tf 4 L1 HH.out ?_;try simp only[gz]
 refine tk 5 HH.out ?_;try simp only[gz]
 refine tk 6 HH.out ?_;try simp only[gz]
 refine tf 7 L2 HH.out ?_;try simp only[gz]
 refine tk 8 HH.out ?_;try simp only[gz]
 refine tk 12 HH.out ?_;try simp only[gz]
 refine tf 13 L3 HH.out ?_;try simp only[gz]
 refine tk 14 HH.out ?_;try simp only[gz]
 refine tk 17 HH.out ?_;try simp only[gz]
 refine tf 18 L4 HH.out ?_;try simp only[gz]
 refine tk 19 HH.out ?_;try simp only[gz]
 refine Ni 9 15 (fun K hK=> ?_) fun K hK=> ?_
 ·have YG:=hid (Has.aC W0 #[.int .u8 fm,.int .u8 to,.int .u8 dp] 5 rfl);obtain⟨V1,hV1⟩: ∃V,W0.alloc (.cells #[.int .u8 fm,.int .u8 to,.int .u8 dp] 5)=V:=⟨_,rfl⟩
  have dU:I [] w1 V1:=by rw[←hV1];exact HH.out.alloc _
  obtain⟨n1,ij⟩: ∃n,W0.heap.size=n:=⟨_,rfl⟩
  rw[ij,hV1] at YG;go_simp;try rw[hV1]
  try rw[ij]
  clear HH;refine hK.out _ _ dU fun HH=> ?_;clear hK K;refine Ni 10 15 (fun K hK=> ?_) fun K hK=> ?_
  ·have tQ:=WB.out V1 n1 (YG.out.cell 0) (YG.out.cell 1) (YG.out.cell 2);go_simp;try rw[tQ]
   try go_simp
   refine hK.out _ _ HH.out (fun cB=> ?_);clear tQ;clear hK K HH;have HH:=hid cB;clear cB;refine tk 11 HH.out ?_;try simp only[gz]
   refine rd 15 fun K hK=> ?_
   ·go_simp;refine(sS.out _).mono ?_;rintro e W3 ⟨rfl,k3⟩;have HR3:=hid (YG.out.keeps k3 (by simp));have kk3:=HH.out.trans k3;clear k3;try go_simp
    clear HH;refine hK.out _ _ kk3 fun HH=> ?_;clear hK K;refine tk 16 HH.out ?_;try simp only[gz]
    refine rd 20 fun K hK=> ?_
    ·go_simp;refine(rF.out _).mono ?_;rintro e W4 ⟨rfl,k4⟩;have HR4:=hid (HR3.out.keeps k4 (by simp));have kk4:=HH.out.trans k4;clear k4;try go_simp
     clear HH;refine hK.out _ _ kk4 fun HH=> ?_;clear hK K;refine tk 21 HH.out ?_;try simp only[gz]
     refine tk 22 HH.out ?_;try simp only[gz]
     refine tk 23 HH.out ?_;try simp only[gz]
     refine wpAnyH_done (by kernel_rfl) ?_ _;have HZ:=hid (K1.out.trans HH.out);clear HH;go_wp2_with fail
     go_ret2;exact⟨by rw[HX.out];rfl,HZ.out⟩
  ·go_simp;refine(sS.out _).mono ?_;rintro e W5 ⟨rfl,k5⟩;have ZJ:=hid (YG.out.keeps k5 (by simp));have kk5:=HH.out.trans k5;clear k5;try go_simp
   clear HH;refine hK.out _ _ kk5 fun HH=> ?_;clear hK K;refine Ni 10 20 (fun K hK=> ?_) fun K hK=> ?_
   ·have tQ:=WB.out W5 n1 (ZJ.out.cell 0) (ZJ.out.cell 1) (ZJ.out.cell 2);go_simp;try rw[tQ]
    try go_simp
    refine hK.out _ _ HH.out (fun cB=> ?_);clear tQ;clear hK K HH;have HH:=hid cB;clear cB;refine tk 11 HH.out ?_;try simp only[gz]
    refine tk 16 HH.out ?_;try simp only[gz]
    refine rd 20 fun K hK=> ?_
    ·go_simp;refine(rF.out _).mono ?_;rintro e W7 ⟨rfl,k7⟩;have HR7:=hid (ZJ.out.keeps k7 (by simp));have kk7:=HH.out.trans k7;clear k7;try go_simp
     clear HH;refine hK.out _ _ kk7 fun HH=> ?_;clear hK K;refine tk 21 HH.out ?_;try simp only[gz]
     refine tk 22 HH.out ?_;try simp only[gz]
     refine tk 23 HH.out ?_;try simp only[gz]
     refine wpAnyH_done (by kernel_rfl) ?_ _;have HZ:=hid (K1.out.trans HH.out);clear HH;go_wp2_with fail
     go_ret2;exact⟨by rw[HX.out];rfl,HZ.out⟩
   ·go_simp;refine(rF.out _).mono ?_;rintro e W8 ⟨rfl,k8⟩;have HR8:=hid (ZJ.out.keeps k8 (by simp));have kk8:=HH.out.trans k8;clear k8;try go_simp
    clear HH;refine hK.out _ _ kk8 fun HH=> ?_;clear hK K;refine rd 10 fun K hK=> ?_
    ·have tQ:=WB.out W8 n1 (HR8.out.cell 0) (HR8.out.cell 1) (HR8.out.cell 2);go_simp;try rw[tQ]
     try go_simp
     refine hK.out _ _ HH.out (fun cB=> ?_);clear tQ;clear hK K HH;have HH:=hid cB;clear cB;refine tk 11 HH.out ?_;try simp only[gz]
     refine tk 16 HH.out ?_;try simp only[gz]
     refine tk 21 HH.out ?_;try simp only[gz]
     refine tk 22 HH.out ?_;try simp only[gz]
     refine tk 23 HH.out ?_;try simp only[gz]
     refine wpAnyH_done (by kernel_rfl) ?_ _;have HZ:=hid (K1.out.trans HH.out);clear HH;go_wp2_with fail
     go_ret2;exact⟨by rw[HX.out];rfl,HZ.out⟩
 ·go_simp;refine(sS.out _).mono ?_;rintro e W10 ⟨rfl,qm⟩;have adJ:=HH.out.trans qm;clear qm;try go_simp
  clear HH;refine hK.out _ _ adJ fun HH=> ?_;clear hK K;refine Ni 9 20 (fun K hK=> ?_) fun K hK=> ?_
  ·have Lm:=hid (Has.aC W10 #[.int .u8 fm,.int .u8 to,.int .u8 dp] 5 rfl);obtain⟨V11,WD⟩: ∃V,W10.alloc (.cells #[.int .u8 fm,.int .u8 to,.int .u8 dp] 5)=V:=⟨_,rfl⟩
   have adK:I [] w1 V11:=by rw[←WD];exact HH.out.alloc _
   obtain⟨n11,ZK⟩: ∃n,W10.heap.size=n:=⟨_,rfl⟩
   rw[ZK,WD] at Lm;go_simp;try rw[WD]
   try rw[ZK]
   clear HH;refine hK.out _ _ adK fun HH=> ?_;clear hK K;refine Ni 10 20 (fun K hK=> ?_) fun K hK=> ?_
   ·have tQ:=WB.out V11 n11 (Lm.out.cell 0) (Lm.out.cell 1) (Lm.out.cell 2);go_simp;try rw[tQ]
    try go_simp
    refine hK.out _ _ HH.out (fun cB=> ?_);clear tQ;clear hK K HH;have HH:=hid cB;clear cB;refine tk 11 HH.out ?_;try simp only[gz]
    refine tk 16 HH.out ?_;try simp only[gz]
    refine rd 20 fun K hK=> ?_
    ·go_simp;refine(rF.out _).mono ?_;rintro e W13 ⟨rfl,k13⟩;have akA:=hid (Lm.out.keeps k13 (by simp));have adM:=HH.out.trans k13;clear k13;try go_simp
     clear HH;refine hK.out _ _ adM fun HH=> ?_;clear hK K;refine tk 21 HH.out ?_;try simp only[gz]
     refine tk 22 HH.out ?_;try simp only[gz]
     refine tk 23 HH.out ?_;try simp only[gz]
     refine wpAnyH_done (by kernel_rfl) ?_ _;have HZ:=hid (K1.out.trans HH.out);clear HH;go_wp2_with fail
     go_ret2;exact⟨by rw[HX.out];rfl,HZ.out⟩
   ·go_simp;refine(rF.out _).mono ?_;rintro e W14 ⟨rfl,uJ⟩;have WE:=hid (Lm.out.keeps uJ (by simp));have adN:=HH.out.trans uJ;clear uJ;try go_simp
    clear HH;refine hK.out _ _ adN fun HH=> ?_;clear hK K;refine rd 10 fun K hK=> ?_
    ·have tQ:=WB.out W14 n11 (WE.out.cell 0) (WE.out.cell 1) (WE.out.cell 2);go_simp;try rw[tQ]
     try go_simp
     refine hK.out _ _ HH.out (fun cB=> ?_);clear tQ;clear hK K HH;have HH:=hid cB;clear cB;refine tk 11 HH.out ?_;try simp only[gz]
     refine tk 16 HH.out ?_;try simp only[gz]
     refine tk 21 HH.out ?_;try simp only[gz]
     refine tk 22 HH.out ?_;try simp only[gz]
     refine tk 23 HH.out ?_;try simp only[gz]
     refine wpAnyH_done (by kernel_rfl) ?_ _;have HZ:=hid (K1.out.trans HH.out);clear HH;go_wp2_with fail
     go_ret2;exact⟨by rw[HX.out];rfl,HZ.out⟩
  ·go_simp;refine(rF.out _).mono ?_;rintro e W16 ⟨rfl,k16⟩;have adP:=HH.out.trans k16;clear k16;try go_simp
   clear HH;refine hK.out _ _ adP fun HH=> ?_;clear hK K;refine rd 9 fun K hK=> ?_
   ·have Tf:=hid (Has.aC W16 #[.int .u8 fm,.int .u8 to,.int .u8 dp] 5 rfl);obtain⟨V17,WG⟩: ∃V,W16.alloc (.cells #[.int .u8 fm,.int .u8 to,.int .u8 dp] 5)=V:=⟨_,rfl⟩
    have adQ:I [] w1 V17:=by rw[←WG];exact HH.out.alloc _
    obtain⟨n17,ZL⟩: ∃n,W16.heap.size=n:=⟨_,rfl⟩
    rw[ZL,WG] at Tf;go_simp;try rw[WG]
    try rw[ZL]
    clear HH;refine hK.out _ _ adQ fun HH=> ?_;clear hK K;refine rd 10 fun K hK=> ?_
    ·have tQ:=WB.out V17 n17 (Tf.out.cell 0) (Tf.out.cell 1) (Tf.out.cell 2);go_simp;try rw[tQ]
     try go_simp
     refine hK.out _ _ HH.out (fun cB=> ?_);clear tQ;clear hK K HH;have HH:=hid cB;clear cB;refine tk 11 HH.out ?_;try simp only[gz]
     refine tk 16 HH.out ?_;try simp only[gz]
     refine tk 21 HH.out ?_;try simp only[gz]
     refine tk 22 HH.out ?_;try simp only[gz]
     refine tk 23 HH.out ?_;try simp only[gz]
     refine wpAnyH_done (by kernel_rfl) ?_ _;have HZ:=hid (K1.out.trans HH.out);clear HH;go_wp2_with fail
     go_ret2;exact⟨by rw[HX.out];rfl,HZ.out⟩
def oq (first v:Nat):List UInt8:=if v<256 then bf first 1++bf v 1 else if v<65536 then bf (first+1) 1++bf v 2 else bf (first+2) 1++bf v 4
theorem Pf (first v:Nat) (hv:v<4294967296):gC first [1,2,4,8] v=oq first v:=by
 unfold oq;by_cases h1:v<256
 ·rw[if_pos h1,gC,if_pos (inr (by omega))]
 ·rw[if_neg h1,gC,if_neg (by omega)];by_cases h2:v<65536
  ·rw[if_pos h2,gC,if_pos (inr (by omega))]
  ·rw[if_neg h2,gC,if_neg (by omega),gC,if_pos (inr (by omega))]
def Pg (v:Nat) (w:World) (i:Value) (wr:World):Prop:=
 wr=w∧(i= .int .i64 0∨(i= .int .i64 1∧256≤v)∨(i= .int .i64 2∧65536≤v))
theorem Ln (first v g:Nat) (hf:first≤250) (hv:v<4294967296) (w:World) (hg:Has w g [.int .i64 1,.int .i64 2,.int .i64 4,.int .i64 8] 3):Calls prog 244 #[.int .u64 first,.slice (some ⟨g,0,none⟩) 4 4,.int .u64 v] w fun e w'=>e= .returned (.string (bytesOf (gC first [1,2,4,8] v)))∧I [] w w':=by
 rw[Pf first v hv];have H:=hid hg;have HB:=hid (fun(a n:Nat) (h1:a≤18446744073709551615) (h2:1≤n∧n≤8) W=>j6 a n h1 h2 W);clear hg;go_enter func244,ntmps244;go_wp2_with fail
 go_loopw [11] (fun i wr=>Pg v w i wr) (fun i _=>4- (intOf i).toNat);case atStart=>exact⟨rfl,inl rfl⟩
 case round=>
  obtain⟨rfl,hrel⟩:=hrel;have iR:(v:Int)<4294967296:=by omega
  have akC:IntKind.u64.wrap ((first:Int)+1)=(first:Int)+1:=by rw[IntKind.wrap_u64];omega
  have akD:IntKind.u64.wrap ((first:Int)+2)=(first:Int)+2:=by rw[IntKind.wrap_u64];omega
  rcases hrel with rfl|⟨rfl,h1⟩|⟨rfl,h1⟩
  ·have hc:wr.cell? ⟨g,0,none⟩=some (.int .i64 1):=H.out.cell 0;by_cases h:(v:Int)<256
   ·have hR:=hid (show oq first v=bf first 1++bf v 1 by rw[oq,if_pos (by omega)]);go_wp2_with fail
    refine(HB.out first 1 (by omega) (by omega) _).mono ?_;rintro e w1 ⟨rfl,k1⟩;go_wp2_with fail
    refine(HB.out v 1 (by omega) (by omega) _).mono ?_;rintro e w2 ⟨rfl,k2⟩;have gq: ¬281474976710656<(bytesOf (bf first 1)).size+(bytesOf (bf v 1)).size:=by rw[an,an,bp,bp];decide
    have fD: ¬9223372036854775807<(bytesOf (bf first 1)).size+(bytesOf (bf v 1)).size:=by rw[an,an,bp,bp];decide
    have dq:=hid (aZ (bf first 1) (bf v 1));have KK:=hid (k1.trans k2);clear k1 k2;go_wp2_with fail
    go_ret;rw[hR.out];exact⟨by rw[←dq.out];rfl,KK.out⟩
   ·go_wp2_with fail
    exact⟨⟨rfl,inr (inl ⟨rfl,by omega⟩)⟩,by first|decide|omega⟩
  ·have hc:wr.cell? ⟨g,1,none⟩=some (.int .i64 2):=H.out.cell 1;by_cases h:(v:Int)<65536
   ·have hR:=hid (show oq first v=bf (first+1) 1++bf v 2 by rw[oq,if_neg (by omega),if_pos (by omega)]);go_wp2_with fail
    refine(HB.out (first+1) 1 (by omega) (by omega) _).mono ?_;rintro e w1 ⟨rfl,k1⟩;go_wp2_with fail
    refine(HB.out v 2 (by omega) (by omega) _).mono ?_;rintro e w2 ⟨rfl,k2⟩;have gq: ¬281474976710656<(bytesOf (bf (first+1) 1)).size+(bytesOf (bf v 2)).size:=by rw[an,an,bp,bp];decide
    have fD: ¬9223372036854775807<(bytesOf (bf (first+1) 1)).size+(bytesOf (bf v 2)).size:=by rw[an,an,bp,bp];decide
    have dq:=hid (aZ (bf (first+1) 1) (bf v 2));have KK:=hid (k1.trans k2);clear k1 k2;go_wp2_with fail
    go_ret;rw[hR.out];exact⟨by rw[←dq.out];rfl,KK.out⟩
   ·go_wp2_with fail
    exact⟨⟨rfl,inr (inr ⟨rfl,by omega⟩)⟩,by first|decide|omega⟩
  ·have hc:wr.cell? ⟨g,2,none⟩=some (.int .i64 4):=H.out.cell 2;have hR:=hid (show oq first v=bf (first+2) 1++bf v 4 by rw[oq,if_neg (by omega),if_neg (by omega)]);go_wp2_with fail
   refine(HB.out (first+2) 1 (by omega) (by omega) _).mono ?_;rintro e w1 ⟨rfl,k1⟩;go_wp2_with fail
   refine(HB.out v 4 (by omega) (by omega) _).mono ?_;rintro e w2 ⟨rfl,k2⟩;have gq: ¬281474976710656<(bytesOf (bf (first+2) 1)).size+(bytesOf (bf v 4)).size:=by rw[an,an,bp,bp];decide
   have fD: ¬9223372036854775807<(bytesOf (bf (first+2) 1)).size+(bytesOf (bf v 4)).size:=by rw[an,an,bp,bp];decide
   have dq:=hid (aZ (bf (first+2) 1) (bf v 4));have KK:=hid (k1.trans k2);clear k1 k2;go_wp2_with fail
   go_ret;rw[hR.out];exact⟨by rw[←dq.out];rfl,KK.out⟩
theorem Ph (m:Nat) (h:m<18446744073709551616):bits .xor .u64 IntKind.u64.max (m:Int)=((xM m:Nat):Int):=by have e1:(BitVec.allOnes 64^^^BitVec.ofNat 64 m)= ~~~ (BitVec.ofNat 64 m):=BitVec.allOnes_xor;have e2:=congrArg BitVec.toNat e1;rw[BitVec.toNat_xor,BitVec.toNat_not,BitVec.toNat_allOnes,BitVec.toNat_ofNat,Nat.mod_eq_of_lt (by omega)] at e2;exact(bits_xor_u64_nat 18446744073709551615 m (by omega) h).trans (congrArg Nat.cast e2)
def Pj (m g:Nat) (w:World) (i:Value) (wr:World):Prop:=
 I [] w wr∧Has wr g [.int .i64 1,.int .i64 2,.int .i64 4] 3∧(i= .int .i64 0∨(i= .int .i64 1∧128≤m)∨(i= .int .i64 2∧32768≤m))
theorem Lo (m:Nat) (hm:m<2147483648) (w:World):Calls prog 243 #[.int .u64 m] w fun e w'=>e= .returned (.tuple #[.string (bytesOf (fc m).1),.int .i64 (fc m).2])∧I [] w w':=by
 have HB:=hid (fun(a n:Nat) (h1:a≤18446744073709551615) (h2:1≤n∧n≤8) W=>j6 a n h1 h2 W);have FM:xM m≤18446744073709551615:=by unfold xM;omega
 have adR:bits .xor .u64 IntKind.u64.max (m:Int)=((xM m:Nat):Int):=Ph m (by omega);obtain⟨nl,RE⟩: ∃nl,xM m=nl:=⟨_,rfl⟩
 rw[RE] at FM adR;have HN:=hid RE;have HL:=hid FM;clear RE FM;have Pe: ¬ (9223372036854775807:Int)<m:=by omega
 by_cases h32:(m:Int)<32
 ·have hR:=hid (show fc m=(bf nl 1,0) by rw[←HN.out,fc,if_neg (by omega),if_pos (by omega)]);go_enter func243,ntmps243;go_wp2_with fail
  refine(HB.out nl 1 HL.out (by omega) _).mono ?_;rintro e w1 ⟨rfl,k1⟩;have KK:=hid k1;clear k1;go_wp2_with fail
  go_ret2;rw[hR.out];exact⟨rfl,KK.out⟩
 ·have ly:(m:Int)<2147483648:=by omega
  have aJ:=hid (Has.aC w #[.int .i64 1,.int .i64 2,.int .i64 4] 3 rfl);have BH:=hid ((I.refl [] w).alloc (.cells #[.int .i64 1,.int .i64 2,.int .i64 4] 3));go_enter func243,ntmps243;go_wp2_with fail
  obtain⟨g,hg⟩: ∃g,w.heap.size=g:=⟨_,rfl⟩
  rw[hg] at aJ⊢;go_loopw [15] (fun i wr=>Pj m g w i wr) (fun i _=>3- (intOf i).toNat);case atStart=>exact⟨BH.out,aJ.out,inl rfl⟩
  case round=>
   clear aJ BH;obtain⟨hkw,hgr,hrel⟩:=hrel;have HW:=hid hkw;have H:=hid hgr;clear hkw hgr;rcases hrel with rfl|⟨rfl,h1⟩|⟨rfl,h1⟩
   ·have hc:wr.cell? ⟨g,0,none⟩=some (.int .i64 1):=H.out.cell 0;by_cases h:(m:Int)<128
    ·have hR:=hid (show fc m=(bf 208 1++bf nl 1,0) by rw[←HN.out,fc,if_neg (by omega),if_neg (by omega),if_pos (by omega)]);obtain⟨S1,kD⟩: ∃S,bytesOf (bf 208 1)=S:=⟨_,rfl⟩
     obtain⟨S2,iL⟩: ∃S,bytesOf (bf nl 1)=S:=⟨_,rfl⟩
     have z1:S1.size=1:=by rw[←kD,an,bp]
     have z2:S2.size=1:=by rw[←iL,an,bp]
     have gq: ¬281474976710656<S1.size+S2.size:=by omega
     have fD: ¬9223372036854775807<S1.size+S2.size:=by omega
     have dq:=hid (aZ (bf 208 1) (bf nl 1));rw[kD,iL] at dq;have rF:=hid (fun W=>HB.out 208 1 (by omega) (by omega) W);rw[show((208:Nat):Int)=208 from rfl] at rF;have sS:=hid (fun W=>HB.out nl 1 HL.out (by omega) W);rw[kD] at rF;rw[iL] at sS;clear kD iL z1 z2;go_wp2_with fail
     refine(rF.out _).mono ?_;rintro e w1 ⟨rfl,k1⟩;clear Pe ly h32 h;go_wp2_with fail
     refine(sS.out _).mono ?_;rintro e w2 ⟨rfl,k2⟩;have KK:=hid ((HW.out.trans k1).trans k2);clear k1 k2;go_wp2_with fail
     go_ret2;rw[hR.out];exact⟨by rw[←dq.out];rfl,KK.out⟩
    ·go_wp2_with fail
     exact⟨⟨HW.out,H.out,inr (inl ⟨rfl,by omega⟩)⟩,by first|decide|omega⟩
   ·have hc:wr.cell? ⟨g,1,none⟩=some (.int .i64 2):=H.out.cell 1;by_cases h:(m:Int)<32768
    ·have hR:=hid (show fc m=(bf 209 1++bf nl 2,0) by rw[←HN.out,fc,if_neg (by omega),if_neg (by omega),if_neg (by omega),if_pos (by omega)]);obtain⟨S1,kD⟩: ∃S,bytesOf (bf 209 1)=S:=⟨_,rfl⟩
     obtain⟨S2,iL⟩: ∃S,bytesOf (bf nl 2)=S:=⟨_,rfl⟩
     have z1:S1.size=1:=by rw[←kD,an,bp]
     have z2:S2.size=2:=by rw[←iL,an,bp]
     have gq: ¬281474976710656<S1.size+S2.size:=by omega
     have fD: ¬9223372036854775807<S1.size+S2.size:=by omega
     have dq:=hid (aZ (bf 209 1) (bf nl 2));rw[kD,iL] at dq;have rF:=hid (fun W=>HB.out 209 1 (by omega) (by omega) W);rw[show((209:Nat):Int)=209 from rfl] at rF;have sS:=hid (fun W=>HB.out nl 2 HL.out (by omega) W);rw[kD] at rF;rw[iL] at sS;clear kD iL z1 z2;go_wp2_with fail
     refine(rF.out _).mono ?_;rintro e w1 ⟨rfl,k1⟩;clear Pe ly h32 h;go_wp2_with fail
     refine(sS.out _).mono ?_;rintro e w2 ⟨rfl,k2⟩;have KK:=hid ((HW.out.trans k1).trans k2);clear k1 k2;go_wp2_with fail
     go_ret2;rw[hR.out];exact⟨by rw[←dq.out];rfl,KK.out⟩
    ·go_wp2_with fail
     exact⟨⟨HW.out,H.out,inr (inr ⟨rfl,by omega⟩)⟩,by first|decide|omega⟩
   ·have hc:wr.cell? ⟨g,2,none⟩=some (.int .i64 4):=H.out.cell 2;have hR:=hid (show fc m=(bf 210 1++bf nl 4,0) by rw[←HN.out,fc,if_neg (by omega),if_neg (by omega),if_neg (by omega),if_neg (by omega),if_pos (by omega)]);obtain⟨S1,kD⟩: ∃S,bytesOf (bf 210 1)=S:=⟨_,rfl⟩
    obtain⟨S2,iL⟩: ∃S,bytesOf (bf nl 4)=S:=⟨_,rfl⟩
    have z1:S1.size=1:=by rw[←kD,an,bp]
    have z2:S2.size=4:=by rw[←iL,an,bp]
    have gq: ¬281474976710656<S1.size+S2.size:=by omega
    have fD: ¬9223372036854775807<S1.size+S2.size:=by omega
    have dq:=hid (aZ (bf 210 1) (bf nl 4));rw[kD,iL] at dq;have rF:=hid (fun W=>HB.out 210 1 (by omega) (by omega) W);rw[show((210:Nat):Int)=210 from rfl] at rF;have sS:=hid (fun W=>HB.out nl 4 HL.out (by omega) W);rw[kD] at rF;rw[iL] at sS;clear kD iL z1 z2;go_wp2_with fail
    refine(rF.out _).mono ?_;rintro e w1 ⟨rfl,k1⟩;clear Pe ly h32;go_wp2_with fail
    refine(sS.out _).mono ?_;rintro e w2 ⟨rfl,k2⟩;have KK:=hid ((HW.out.trans k1).trans k2);clear k1 k2;go_wp2_with fail
    go_ret2;rw[hR.out];exact⟨by rw[←dq.out];rfl,KK.out⟩
end Go.Proofs.YthffblhdjjbkaaaGreat
