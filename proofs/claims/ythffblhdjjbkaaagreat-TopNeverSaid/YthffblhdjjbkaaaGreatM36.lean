/- jsonout.Writer.Step at a part that is no container.; jsonout.Writer.Step at a part that is no container.; jsonout.Writer.Step at a part that is no container.; jsonout.Writer.Step at a part that is no -/
import Derived.Test.YthffblhdjjbkaaaGreatM32
import Derived.Test.YthffblhdjjbkaaaGreatM34
set_option maxHeartbeats 100000000
set_option maxRecDepth 1000000
open Go.Lib (hid)
open Go.Proofs.Tryz
open Or (inl inr)
namespace Go.Proofs.YthffblhdjjbkaaaGreat
open Go.RowKit Go.Tru
open Go.K12 in
theorem Al {w:World} {base b:Nat} {ov:Value} {out:List UInt8} (mr:out.length≤100000) (eI: ∀W,I (b::ae ov) w W→Calls prog 206 #[ar.part] W (fun e w'=>e= .returned (.string (bytesOf out))∧I [] W w')) {r:List af} {n q:Int} (hq:0≤q∧q≤1000000) (hr:r.length≤1000) (eQ:q=0) (h:cV w base b ov ⟨⟨false,n,q⟩::r,false⟩):Calls prog 203 #[.pointer (some ⟨b,0,none⟩),ar.part] w (cX w base b ov ([]++out) ⟨⟨false,n,q+1⟩::r,false⟩):=BF
open Go.K8 in
theorem Am (y:Bool) {w:World} {base b:Nat} {ov:Value} {out:List UInt8} (mr:out.length≤100000) (eI: ∀W,I (b::ae ov) w W→Calls prog 206 #[(aq y).part] W (fun e w'=>e= .returned (.string (bytesOf out))∧I [] W w')) {r:List af} {n q:Int} (hq:0≤q∧q≤1000000) (hr:r.length≤1000) (eQ:q=0) (h:cV w base b ov ⟨⟨false,n,q⟩::r,false⟩):Calls prog 203 #[.pointer (some ⟨b,0,none⟩),(aq y).part] w (cX w base b ov ([]++out) ⟨⟨false,n,q+1⟩::r,false⟩):=BF
open Go.K6 in
theorem DE (y:Bool) (m:Nat) {w:World} {base b:Nat} {ov:Value} {out:List UInt8} (mr:out.length≤100000) (eI: ∀W,I (b::ae ov) w W→Calls prog 206 #[(ay y m).part] W (fun e w'=>e= .returned (.string (bytesOf out))∧I [] W w')) {r:List af} {n q:Int} (hq:0≤q∧q≤1000000) (hr:r.length≤1000) (eQ:q=0) (h:cV w base b ov ⟨⟨false,n,q⟩::r,false⟩):Calls prog 203 #[.pointer (some ⟨b,0,none⟩),(ay y m).part] w (cX w base b ov ([]++out) ⟨⟨false,n,q+1⟩::r,false⟩):=BF
open Go.K7 in
theorem An (s:ByteArray) {w:World} {base b:Nat} {ov:Value} {out:List UInt8} (mr:out.length≤100000) (eI: ∀W,I (b::ae ov) w W→Calls prog 206 #[(ah s).part] W (fun e w'=>e= .returned (.string (bytesOf out))∧I [] W w')) {r:List af} {n q:Int} (hq:0≤q∧q≤1000000) (hr:r.length≤1000) (eQ:q=0) (h:cV w base b ov ⟨⟨false,n,q⟩::r,false⟩):Calls prog 203 #[.pointer (some ⟨b,0,none⟩),(ah s).part] w (cX w base b ov ([]++out) ⟨⟨false,n,q+1⟩::r,false⟩):=BF
open Go.K13 in
theorem Ao {w:World} {base b:Nat} {ov:Value} {out:List UInt8} (mr:out.length≤100000) (eI: ∀W,I (b::ae ov) w W→Calls prog 206 #[ar.part] W (fun e w'=>e= .returned (.string (bytesOf out))∧I [] W w')) {r:List af} {n q:Int} (hq:0≤q∧q≤1000000) (hr:r.length≤1000) (eQ:0<q) (h:cV w base b ov ⟨⟨false,n,q⟩::r,false⟩):Calls prog 203 #[.pointer (some ⟨b,0,none⟩),ar.part] w (cX w base b ov ([44]++out) ⟨⟨false,n,q+1⟩::r,false⟩):=BF
open Go.K11 in
theorem Ap (y:Bool) {w:World} {base b:Nat} {ov:Value} {out:List UInt8} (mr:out.length≤100000) (eI: ∀W,I (b::ae ov) w W→Calls prog 206 #[(aq y).part] W (fun e w'=>e= .returned (.string (bytesOf out))∧I [] W w')) {r:List af} {n q:Int} (hq:0≤q∧q≤1000000) (hr:r.length≤1000) (eQ:0<q) (h:cV w base b ov ⟨⟨false,n,q⟩::r,false⟩):Calls prog 203 #[.pointer (some ⟨b,0,none⟩),(aq y).part] w (cX w base b ov ([44]++out) ⟨⟨false,n,q+1⟩::r,false⟩):=BF
open Go.K9 in
theorem DF (y:Bool) (m:Nat) {w:World} {base b:Nat} {ov:Value} {out:List UInt8} (mr:out.length≤100000) (eI: ∀W,I (b::ae ov) w W→Calls prog 206 #[(ay y m).part] W (fun e w'=>e= .returned (.string (bytesOf out))∧I [] W w')) {r:List af} {n q:Int} (hq:0≤q∧q≤1000000) (hr:r.length≤1000) (eQ:0<q) (h:cV w base b ov ⟨⟨false,n,q⟩::r,false⟩):Calls prog 203 #[.pointer (some ⟨b,0,none⟩),(ay y m).part] w (cX w base b ov ([44]++out) ⟨⟨false,n,q+1⟩::r,false⟩):=BF
open Go.K10 in
theorem Aq (s:ByteArray) {w:World} {base b:Nat} {ov:Value} {out:List UInt8} (mr:out.length≤100000) (eI: ∀W,I (b::ae ov) w W→Calls prog 206 #[(ah s).part] W (fun e w'=>e= .returned (.string (bytesOf out))∧I [] W w')) {r:List af} {n q:Int} (hq:0≤q∧q≤1000000) (hr:r.length≤1000) (eQ:0<q) (h:cV w base b ov ⟨⟨false,n,q⟩::r,false⟩):Calls prog 203 #[.pointer (some ⟨b,0,none⟩),(ah s).part] w (cX w base b ov ([44]++out) ⟨⟨false,n,q+1⟩::r,false⟩):=BF
open Go.K5 in
theorem DG {w:World} {base b:Nat} {ov:Value} {out:List UInt8} (mr:out.length≤100000) (eI: ∀W,I (b::ae ov) w W→Calls prog 206 #[ar.part] W (fun e w'=>e= .returned (.string (bytesOf out))∧I [] W w')) {r:List af} {n q:Int} (hq:0≤q∧q≤1000000) (hr:r.length≤1000) (jy:af.aj ⟨true,n,q⟩=true) (h:cV w base b ov ⟨⟨true,n,q⟩::r,false⟩):Calls prog 203 #[.pointer (some ⟨b,0,none⟩),ar.part] w (cX w base b ov ([58]++out) ⟨⟨true,n,q+1⟩::r,false⟩):=BF
open Go.K4 in
theorem DH (y:Bool) {w:World} {base b:Nat} {ov:Value} {out:List UInt8} (mr:out.length≤100000) (eI: ∀W,I (b::ae ov) w W→Calls prog 206 #[(aq y).part] W (fun e w'=>e= .returned (.string (bytesOf out))∧I [] W w')) {r:List af} {n q:Int} (hq:0≤q∧q≤1000000) (hr:r.length≤1000) (jy:af.aj ⟨true,n,q⟩=true) (h:cV w base b ov ⟨⟨true,n,q⟩::r,false⟩):Calls prog 203 #[.pointer (some ⟨b,0,none⟩),(aq y).part] w (cX w base b ov ([58]++out) ⟨⟨true,n,q+1⟩::r,false⟩):=BF
open Go.K1 in
theorem Hi (y:Bool) (m:Nat) {w:World} {base b:Nat} {ov:Value} {out:List UInt8} (mr:out.length≤100000) (eI: ∀W,I (b::ae ov) w W→Calls prog 206 #[(ay y m).part] W (fun e w'=>e= .returned (.string (bytesOf out))∧I [] W w')) {r:List af} {n q:Int} (hq:0≤q∧q≤1000000) (hr:r.length≤1000) (jy:af.aj ⟨true,n,q⟩=true) (h:cV w base b ov ⟨⟨true,n,q⟩::r,false⟩):Calls prog 203 #[.pointer (some ⟨b,0,none⟩),(ay y m).part] w (cX w base b ov ([58]++out) ⟨⟨true,n,q+1⟩::r,false⟩):=BF
open Go.K2 in
theorem DI (s:ByteArray) {w:World} {base b:Nat} {ov:Value} {out:List UInt8} (mr:out.length≤100000) (eI: ∀W,I (b::ae ov) w W→Calls prog 206 #[(ah s).part] W (fun e w'=>e= .returned (.string (bytesOf out))∧I [] W w')) {r:List af} {n q:Int} (hq:0≤q∧q≤1000000) (hr:r.length≤1000) (jy:af.aj ⟨true,n,q⟩=true) (h:cV w base b ov ⟨⟨true,n,q⟩::r,false⟩):Calls prog 203 #[.pointer (some ⟨b,0,none⟩),(ah s).part] w (cX w base b ov ([58]++out) ⟨⟨true,n,q+1⟩::r,false⟩):=BF
open Go.K0 in
theorem Ar (s:ByteArray) {w:World} {base b:Nat} {ov:Value} {out:List UInt8} (mr:out.length≤100000) (eI: ∀W,I (b::ae ov) w W→Calls prog 206 #[(ah s).part] W (fun e w'=>e= .returned (.string (bytesOf out))∧I [] W w')) {r:List af} {n q:Int} (hq:0≤q∧q≤1000000) (hr:r.length≤1000) (jy:af.aj ⟨true,n,q⟩=false) (eQ:q=0) (h:cV w base b ov ⟨⟨true,n,q⟩::r,false⟩):Calls prog 203 #[.pointer (some ⟨b,0,none⟩),(ah s).part] w (cX w base b ov ([]++out) ⟨⟨true,n,q+1⟩::r,false⟩):=BF
open Go.K3 in
theorem As (s:ByteArray) {w:World} {base b:Nat} {ov:Value} {out:List UInt8} (mr:out.length≤100000) (eI: ∀W,I (b::ae ov) w W→Calls prog 206 #[(ah s).part] W (fun e w'=>e= .returned (.string (bytesOf out))∧I [] W w')) {r:List af} {n q:Int} (hq:0≤q∧q≤1000000) (hr:r.length≤1000) (jy:af.aj ⟨true,n,q⟩=false) (eQ:0<q) (h:cV w base b ov ⟨⟨true,n,q⟩::r,false⟩):Calls prog 203 #[.pointer (some ⟨b,0,none⟩),(ah s).part] w (cX w base b ov ([44]++out) ⟨⟨true,n,q+1⟩::r,false⟩):=BF
open Go.K17 in
theorem DJ {w:World} {base b:Nat} {ov:Value} {out:List UInt8} (mr:out.length≤100000) (eI: ∀W,I (b::ae ov) w W→Calls prog 206 #[ar.part] W (fun e w'=>e= .returned (.string (bytesOf out))∧I [] W w')) (h:cV w base b ov ⟨[],false⟩):Calls prog 203 #[.pointer (some ⟨b,0,none⟩),ar.part] w (cX w base b ov ([]++out) ⟨[],true⟩):=BF
open Go.K16 in
theorem DK (y:Bool) {w:World} {base b:Nat} {ov:Value} {out:List UInt8} (mr:out.length≤100000) (eI: ∀W,I (b::ae ov) w W→Calls prog 206 #[(aq y).part] W (fun e w'=>e= .returned (.string (bytesOf out))∧I [] W w')) (h:cV w base b ov ⟨[],false⟩):Calls prog 203 #[.pointer (some ⟨b,0,none⟩),(aq y).part] w (cX w base b ov ([]++out) ⟨[],true⟩):=BF
open Go.K14 in
theorem Hj (y:Bool) (m:Nat) {w:World} {base b:Nat} {ov:Value} {out:List UInt8} (mr:out.length≤100000) (eI: ∀W,I (b::ae ov) w W→Calls prog 206 #[(ay y m).part] W (fun e w'=>e= .returned (.string (bytesOf out))∧I [] W w')) (h:cV w base b ov ⟨[],false⟩):Calls prog 203 #[.pointer (some ⟨b,0,none⟩),(ay y m).part] w (cX w base b ov ([]++out) ⟨[],true⟩):=BF
open Go.K15 in
theorem DL (s:ByteArray) {w:World} {base b:Nat} {ov:Value} {out:List UInt8} (mr:out.length≤100000) (eI: ∀W,I (b::ae ov) w W→Calls prog 206 #[(ah s).part] W (fun e w'=>e= .returned (.string (bytesOf out))∧I [] W w')) (h:cV w base b ov ⟨[],false⟩):Calls prog 203 #[.pointer (some ⟨b,0,none⟩),(ah s).part] w (cX w base b ov ([]++out) ⟨[],true⟩):=BF
open Go.K2 in
theorem ud (n2:Nat) (hn:n2<16) {w:World} {base b:Nat} {ov:Value} (h:cV w base b ov ⟨[],false⟩) (ak:base≤w.heap.size):Calls prog 203 #[.pointer (some ⟨b,0,none⟩),(aN n2).part] w (cX w base b ov ([]++[91]) ⟨⟨false,n2,0⟩::[],false⟩):=q3
open Go.K3 in
theorem ue (n2:Nat) (hn:n2<16) {w:World} {base b:Nat} {ov:Value} (h:cV w base b ov ⟨[],false⟩) (ak:base≤w.heap.size):Calls prog 203 #[.pointer (some ⟨b,0,none⟩),(aO n2).part] w (cX w base b ov ([]++[123]) ⟨⟨true,n2,0⟩::[],false⟩):=q3
open Go.K12 in
theorem sx (n2:Nat) (hn:n2<16) {w:World} {base b:Nat} {ov:Value} {r:List af} {n q:Int} (hq:0≤q∧q≤1000000) (hr:r.length≤1000) (eQ:q=0) (h:cV w base b ov ⟨⟨false,n,q⟩::r,false⟩) (ak:base≤w.heap.size):Calls prog 203 #[.pointer (some ⟨b,0,none⟩),(aN n2).part] w (cX w base b ov ([]++[91]) ⟨⟨false,n2,0⟩::⟨false,n,q+1⟩::r,false⟩):=q1
open Go.K13 in
theorem sy (n2:Nat) (hn:n2<16) {w:World} {base b:Nat} {ov:Value} {r:List af} {n q:Int} (hq:0≤q∧q≤1000000) (hr:r.length≤1000) (eQ:q=0) (h:cV w base b ov ⟨⟨false,n,q⟩::r,false⟩) (ak:base≤w.heap.size):Calls prog 203 #[.pointer (some ⟨b,0,none⟩),(aO n2).part] w (cX w base b ov ([]++[123]) ⟨⟨true,n2,0⟩::⟨false,n,q+1⟩::r,false⟩):=q1
open Go.K10 in
theorem sA (n2:Nat) (hn:n2<16) {w:World} {base b:Nat} {ov:Value} {r:List af} {n q:Int} (hq:0≤q∧q≤1000000) (hr:r.length≤1000) (eQ:0<q) (h:cV w base b ov ⟨⟨false,n,q⟩::r,false⟩) (ak:base≤w.heap.size):Calls prog 203 #[.pointer (some ⟨b,0,none⟩),(aN n2).part] w (cX w base b ov ([44]++[91]) ⟨⟨false,n2,0⟩::⟨false,n,q+1⟩::r,false⟩):=q1
open Go.K11 in
theorem sC (n2:Nat) (hn:n2<16) {w:World} {base b:Nat} {ov:Value} {r:List af} {n q:Int} (hq:0≤q∧q≤1000000) (hr:r.length≤1000) (eQ:0<q) (h:cV w base b ov ⟨⟨false,n,q⟩::r,false⟩) (ak:base≤w.heap.size):Calls prog 203 #[.pointer (some ⟨b,0,none⟩),(aO n2).part] w (cX w base b ov ([44]++[123]) ⟨⟨true,n2,0⟩::⟨false,n,q+1⟩::r,false⟩):=q1
open Go.K8 in
theorem uf (n2:Nat) (hn:n2<16) {w:World} {base b:Nat} {ov:Value} {r:List af} {n q:Int} (hq:0≤q∧q≤1000000) (hr:r.length≤1000) (jy:af.aj ⟨true,n,q⟩=true) (h:cV w base b ov ⟨⟨true,n,q⟩::r,false⟩) (ak:base≤w.heap.size):Calls prog 203 #[.pointer (some ⟨b,0,none⟩),(aN n2).part] w (cX w base b ov ([58]++[91]) ⟨⟨false,n2,0⟩::⟨true,n,q+1⟩::r,false⟩):=q1
open Go.K9 in
theorem ug (n2:Nat) (hn:n2<16) {w:World} {base b:Nat} {ov:Value} {r:List af} {n q:Int} (hq:0≤q∧q≤1000000) (hr:r.length≤1000) (jy:af.aj ⟨true,n,q⟩=true) (h:cV w base b ov ⟨⟨true,n,q⟩::r,false⟩) (ak:base≤w.heap.size):Calls prog 203 #[.pointer (some ⟨b,0,none⟩),(aO n2).part] w (cX w base b ov ([58]++[123]) ⟨⟨true,n2,0⟩::⟨true,n,q+1⟩::r,false⟩):=q1
theorem NJ (m:Bool) {w:World} {base b:Nat} {ov:Value} {r:List af} {n q:Int} (hq:0≤q∧q≤1000000) (hr:r.length≤1000) (jy:af.aj ⟨m,n,q⟩=false) (h:cV w base b ov ⟨⟨m,n,q⟩::r,false⟩):Calls prog 204 #[.pointer (some ⟨b,0,none⟩)] w (cX w base b ov [if m then 125 else 93] ⟨r,decide (r= [])⟩):=by
 have HB:=hid (fun W=>dy m n q hq W);rw[jy] at HB;obtain⟨g,cap,rfl,gb,gl,gr,gm,q0,q1,qf⟩:=h.bu.some_;have H:=hid h;obtain⟨g0,g1⟩:=h.cells;have bP:=h.az.lt;unfold maxLen at gm;have lq:(r.length:Int)≤1000:=by omega
 obtain⟨Ys,VV⟩:=hq;clear h jy qf hr;cases m;all_goals
  go_enter func204,ntmps204;go_wp2_with fail
  refine(HB.out _).mono ?_;rintro e w2 ⟨rfl,k2⟩;have H2:=hid (H.out.keeps k2 (by simp) (by simp));have K2:=hid k2;clear g0 g1 bP k2 H q0 q1 gl;obtain⟨g0,g1⟩:=H2.out.cells;have bP:=H2.out.az.lt;have f0:=H2.out.az.free 0;have f1:=H2.out.az.free 1;obtain⟨g',fB,he,-,l8,-,-,q0,q1,-⟩:=H2.out.bu.some_;simp only[Value.slice.injEq,Option.some.injEq,Addr.mk.injEq,and_true,true_and] at he;obtain⟨rfl,rfl⟩:=he;have hz:((r.length:Int)==0)=decide (r= []):=by cases r<;>simp;omega
  go_wp2_with fail
  go_ret2;refine⟨rfl,_,H2.out.pop.keeps ((I.refl [] _).alloc _) (by simp) (by simp),?_,fun i hi=>inl hi⟩;exact(I.setCell (p:=⟨b,1,none⟩) (I.setCell (p:=⟨b,0,none⟩) (K2.out.mono nn) (inl ms) _) (inl ms) _).alloc _
open Go.K0 in
theorem WU (m:Bool) {w:World} {base b:Nat} {ov:Value} {r:List af} {n q:Int} (hq:0≤q∧q≤1000000) (hr:r.length≤1000) (jy:af.aj ⟨m,n,q⟩=false) (h:cV w base b ov ⟨⟨m,n,q⟩::r,false⟩):Calls prog 203 #[.pointer (some ⟨b,0,none⟩),aL.part] w (cX w base b ov [if m then 125 else 93] ⟨r,decide (r= [])⟩):=q22
end Go.Proofs.YthffblhdjjbkaaaGreat
