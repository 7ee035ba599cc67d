/- cborin.Parser's item; cborin's New; purse.Purse -/
import Derived.Test.YthffblhdjjbkaaaGreatM24
import Derived.StillTailTactics
set_option maxHeartbeats 100000000
set_option maxRecDepth 1000000
open Go.Lib (hid)
open Go.Proofs.Tryz
open Or (inl inr)
namespace Go.Proofs.YthffblhdjjbkaaaGreat
open Go.RowKit Go.Tru
structure xZ (N:Int) (w:World) (base b:Nat) (ov sv:Value) (p:Cb):Prop where
 bG:zq w base b ov sv p
 fit:p.Fit N
 sR:0≤N∧N≤100000000
 gQ:base≤w.heap.size
theorem xZ.core {N:Int} {w:World} {base b:Nat} {ov sv:Value} {p:Cb} (h:xZ N w base b ov sv p):aG N w base b 201 (aQ p) ov sv p.c:=⟨h.bG,h.fit.core,h.sR.2,h.gQ⟩
open Go.K39 in
theorem Iw {N:Int} {w:World} {base b:Nat} {ov sv:Value} {p:Cb} (h:aG N w base b 201 (aQ p) ov sv p.c) (cY:p.begun=false) (hz:p.h=Hd.zero) (x:Int) (cy:0≤x) (cQ:x≤255) (hd:p.c.done=true):Calls prog 175 #[.pointer (some ⟨b,0,none⟩),.int .u8 x] w (aF w base b ov sv (p.item x)):=lM
open Go.K28 in
theorem Es {N:Int} {w:World} {base b:Nat} {ov sv:Value} {p:Cb} (h:aG N w base b 201 (aQ p) ov sv p.c) (cY:p.begun=false) (hz:p.h=Hd.zero) (x:Int) (cy:0≤x) (cQ:x≤255) (hd:p.c.done=false) (hl:x % 32=28):Calls prog 175 #[.pointer (some ⟨b,0,none⟩),.int .u8 x] w (aF w base b ov sv (p.item x)):=lM
open Go.K29 in
theorem Et {N:Int} {w:World} {base b:Nat} {ov sv:Value} {p:Cb} (h:aG N w base b 201 (aQ p) ov sv p.c) (cY:p.begun=false) (hz:p.h=Hd.zero) (x:Int) (cy:0≤x) (cQ:x≤255) (hd:p.c.done=false) (hl:x % 32=29):Calls prog 175 #[.pointer (some ⟨b,0,none⟩),.int .u8 x] w (aF w base b ov sv (p.item x)):=lM
open Go.K30 in
theorem Eu {N:Int} {w:World} {base b:Nat} {ov sv:Value} {p:Cb} (h:aG N w base b 201 (aQ p) ov sv p.c) (cY:p.begun=false) (hz:p.h=Hd.zero) (x:Int) (cy:0≤x) (cQ:x≤255) (hd:p.c.done=false) (hl:x % 32=30):Calls prog 175 #[.pointer (some ⟨b,0,none⟩),.int .u8 x] w (aF w base b ov sv (p.item x)):=lM
open Go.K36 in
theorem Ew {N:Int} {w:World} {base b:Nat} {ov sv:Value} {p:Cb} (h:aG N w base b 201 (aQ p) ov sv p.c) (cY:p.begun=false) (hz:p.h=Hd.zero) (x:Int) (cy:0≤x) (cQ:x≤255) (hd:p.c.done=false) (hx:x=31):Calls prog 175 #[.pointer (some ⟨b,0,none⟩),.int .u8 x] w (aF w base b ov sv (p.item x)):=lM
open Go.K37 in
theorem Ex {N:Int} {w:World} {base b:Nat} {ov sv:Value} {p:Cb} (h:aG N w base b 201 (aQ p) ov sv p.c) (cY:p.begun=false) (hz:p.h=Hd.zero) (x:Int) (cy:0≤x) (cQ:x≤255) (hd:p.c.done=false) (hx:x=63):Calls prog 175 #[.pointer (some ⟨b,0,none⟩),.int .u8 x] w (aF w base b ov sv (p.item x)):=lM
open Go.K38 in
theorem Ey {N:Int} {w:World} {base b:Nat} {ov sv:Value} {p:Cb} (h:aG N w base b 201 (aQ p) ov sv p.c) (cY:p.begun=false) (hz:p.h=Hd.zero) (x:Int) (cy:0≤x) (cQ:x≤255) (hd:p.c.done=false) (hx:x=223):Calls prog 175 #[.pointer (some ⟨b,0,none⟩),.int .u8 x] w (aF w base b ov sv (p.item x)):=lM
open Go.K33 in
theorem Mh {N:Int} {w:World} {base b:Nat} {ov sv:Value} {p:Cb} (h:aG N w base b 201 (aQ p) ov sv p.c) (cY:p.begun=false) (hz:p.h=Hd.zero) (x:Int) (cy:0≤x) (cQ:x≤255) (hd:p.c.done=false) (hx:x=255):Calls prog 175 #[.pointer (some ⟨b,0,none⟩),.int .u8 x] w (aF w base b ov sv (p.item x)):=lM
open Go.K14 in
theorem Ez {N:Int} {w:World} {base b:Nat} {ov sv:Value} {p:Cb} (h:aG N w base b 201 (aQ p) ov sv p.c) (cY:p.begun=false) (hz:p.h=Hd.zero) (x:Int) (cy:0≤x) (cQ:x≤255) (hd:p.c.done=false) (hm:x/32=0) (hl:x % 32<28) (hk:p.c.atKey=true):Calls prog 175 #[.pointer (some ⟨b,0,none⟩),.int .u8 x] w (aF w base b ov sv (p.item x)):=lM
open Go.K8 in
theorem AY {N:Int} {w:World} {base b:Nat} {ov sv:Value} {p:Cb} (h:aG N w base b 201 (aQ p) ov sv p.c) (cY:p.begun=false) (hz:p.h=Hd.zero) (x:Int) (cy:0≤x) (cQ:x≤255) (hd:p.c.done=false) (hm:x/32=0) (hl:x % 32<28) (hk:p.c.atKey=false):Calls prog 175 #[.pointer (some ⟨b,0,none⟩),.int .u8 x] w (aF w base b ov sv (p.item x)):=lM
open Go.K15 in
theorem EA {N:Int} {w:World} {base b:Nat} {ov sv:Value} {p:Cb} (h:aG N w base b 201 (aQ p) ov sv p.c) (cY:p.begun=false) (hz:p.h=Hd.zero) (x:Int) (cy:0≤x) (cQ:x≤255) (hd:p.c.done=false) (hm:x/32=1) (hl:x % 32<28) (hk:p.c.atKey=true):Calls prog 175 #[.pointer (some ⟨b,0,none⟩),.int .u8 x] w (aF w base b ov sv (p.item x)):=lM
open Go.K9 in
theorem AZ {N:Int} {w:World} {base b:Nat} {ov sv:Value} {p:Cb} (h:aG N w base b 201 (aQ p) ov sv p.c) (cY:p.begun=false) (hz:p.h=Hd.zero) (x:Int) (cy:0≤x) (cQ:x≤255) (hd:p.c.done=false) (hm:x/32=1) (hl:x % 32<28) (hk:p.c.atKey=false):Calls prog 175 #[.pointer (some ⟨b,0,none⟩),.int .u8 x] w (aF w base b ov sv (p.item x)):=lM
open Go.K16 in
theorem EB {N:Int} {w:World} {base b:Nat} {ov sv:Value} {p:Cb} (h:aG N w base b 201 (aQ p) ov sv p.c) (cY:p.begun=false) (hz:p.h=Hd.zero) (x:Int) (cy:0≤x) (cQ:x≤255) (hd:p.c.done=false) (hm:x/32=2) (hl:x % 32<28) (hk:p.c.atKey=true):Calls prog 175 #[.pointer (some ⟨b,0,none⟩),.int .u8 x] w (aF w base b ov sv (p.item x)):=lM
open Go.K10 in
theorem A0 {N:Int} {w:World} {base b:Nat} {ov sv:Value} {p:Cb} (h:aG N w base b 201 (aQ p) ov sv p.c) (cY:p.begun=false) (hz:p.h=Hd.zero) (x:Int) (cy:0≤x) (cQ:x≤255) (hd:p.c.done=false) (hm:x/32=2) (hl:x % 32<28) (hk:p.c.atKey=false):Calls prog 175 #[.pointer (some ⟨b,0,none⟩),.int .u8 x] w (aF w base b ov sv (p.item x)):=lM
open Go.K25 in
theorem EC {N:Int} {w:World} {base b:Nat} {ov sv:Value} {p:Cb} (h:aG N w base b 201 (aQ p) ov sv p.c) (cY:p.begun=false) (hz:p.h=Hd.zero) (x:Int) (cy:0≤x) (cQ:x≤255) (hd:p.c.done=false) (hx:x=95) (hk:p.c.atKey=true):Calls prog 175 #[.pointer (some ⟨b,0,none⟩),.int .u8 x] w (aF w base b ov sv (p.item x)):=lM
open Go.K23 in
theorem A3 {N:Int} {w:World} {base b:Nat} {ov sv:Value} {p:Cb} (h:aG N w base b 201 (aQ p) ov sv p.c) (cY:p.begun=false) (hz:p.h=Hd.zero) (x:Int) (cy:0≤x) (cQ:x≤255) (hd:p.c.done=false) (hx:x=95) (hk:p.c.atKey=false):Calls prog 175 #[.pointer (some ⟨b,0,none⟩),.int .u8 x] w (aF w base b ov sv (p.item x)):=lM
open Go.K11 in
theorem A4 {N:Int} {w:World} {base b:Nat} {ov sv:Value} {p:Cb} (h:aG N w base b 201 (aQ p) ov sv p.c) (cY:p.begun=false) (hz:p.h=Hd.zero) (x:Int) (cy:0≤x) (cQ:x≤255) (hd:p.c.done=false) (hm:x/32=3) (hl:x % 32<28) (hk:p.c.atKey=false):Calls prog 175 #[.pointer (some ⟨b,0,none⟩),.int .u8 x] w (aF w base b ov sv (p.item x)):=lM
open Go.K13 in
theorem A5 {N:Int} {w:World} {base b:Nat} {ov sv:Value} {p:Cb} (h:aG N w base b 201 (aQ p) ov sv p.c) (cY:p.begun=false) (hz:p.h=Hd.zero) (x:Int) (cy:0≤x) (cQ:x≤255) (hd:p.c.done=false) (hm:x/32=3) (hl:x % 32<28) (hk:p.c.atKey=true):Calls prog 175 #[.pointer (some ⟨b,0,none⟩),.int .u8 x] w (aF w base b ov sv (p.item x)):=lM
open Go.K22 in
theorem A6 {N:Int} {w:World} {base b:Nat} {ov sv:Value} {p:Cb} (h:aG N w base b 201 (aQ p) ov sv p.c) (cY:p.begun=false) (hz:p.h=Hd.zero) (x:Int) (cy:0≤x) (cQ:x≤255) (hd:p.c.done=false) (hx:x=127) (hk:p.c.atKey=false):Calls prog 175 #[.pointer (some ⟨b,0,none⟩),.int .u8 x] w (aF w base b ov sv (p.item x)):=lM
open Go.K24 in
theorem A7 {N:Int} {w:World} {base b:Nat} {ov sv:Value} {p:Cb} (h:aG N w base b 201 (aQ p) ov sv p.c) (cY:p.begun=false) (hz:p.h=Hd.zero) (x:Int) (cy:0≤x) (cQ:x≤255) (hd:p.c.done=false) (hx:x=127) (hk:p.c.atKey=true):Calls prog 175 #[.pointer (some ⟨b,0,none⟩),.int .u8 x] w (aF w base b ov sv (p.item x)):=lM
open Go.K17 in
theorem ED {N:Int} {w:World} {base b:Nat} {ov sv:Value} {p:Cb} (h:aG N w base b 201 (aQ p) ov sv p.c) (cY:p.begun=false) (hz:p.h=Hd.zero) (x:Int) (cy:0≤x) (cQ:x≤255) (hd:p.c.done=false) (hm:x/32=4) (hl:x % 32<28) (hk:p.c.atKey=true):Calls prog 175 #[.pointer (some ⟨b,0,none⟩),.int .u8 x] w (aF w base b ov sv (p.item x)):=lM
open Go.K2 in
theorem A8 {N:Int} {w:World} {base b:Nat} {ov sv:Value} {p:Cb} (h:aG N w base b 201 (aQ p) ov sv p.c) (cY:p.begun=false) (hz:p.h=Hd.zero) (x:Int) (cy:0≤x) (cQ:x≤255) (hd:p.c.done=false) (hm:x/32=4) (hl:x % 32<28) (hk:p.c.atKey=false) (hf:p.c.full=true):Calls prog 175 #[.pointer (some ⟨b,0,none⟩),.int .u8 x] w (aF w base b ov sv (p.item x)):=lM
open Go.K0 in
theorem EE {N:Int} {w:World} {base b:Nat} {ov sv:Value} {p:Cb} (h:aG N w base b 201 (aQ p) ov sv p.c) (cY:p.begun=false) (hz:p.h=Hd.zero) (x:Int) (cy:0≤x) (cQ:x≤255) (hd:p.c.done=false) (hm:x/32=4) (hl:x % 32<28) (hk:p.c.atKey=false) (hf:p.c.full=false):Calls prog 175 #[.pointer (some ⟨b,0,none⟩),.int .u8 x] w (aF w base b ov sv (p.item x)):=lM
open Go.K26 in
theorem EF {N:Int} {w:World} {base b:Nat} {ov sv:Value} {p:Cb} (h:aG N w base b 201 (aQ p) ov sv p.c) (cY:p.begun=false) (hz:p.h=Hd.zero) (x:Int) (cy:0≤x) (cQ:x≤255) (hd:p.c.done=false) (hx:x=159) (hk:p.c.atKey=true):Calls prog 175 #[.pointer (some ⟨b,0,none⟩),.int .u8 x] w (aF w base b ov sv (p.item x)):=lM
open Go.K6 in
theorem A9 {N:Int} {w:World} {base b:Nat} {ov sv:Value} {p:Cb} (h:aG N w base b 201 (aQ p) ov sv p.c) (cY:p.begun=false) (hz:p.h=Hd.zero) (x:Int) (cy:0≤x) (cQ:x≤255) (hd:p.c.done=false) (hx:x=159) (hk:p.c.atKey=false) (hf:p.c.full=true):Calls prog 175 #[.pointer (some ⟨b,0,none⟩),.int .u8 x] w (aF w base b ov sv (p.item x)):=lM
open Go.K4 in
theorem EG {N:Int} {w:World} {base b:Nat} {ov sv:Value} {p:Cb} (h:aG N w base b 201 (aQ p) ov sv p.c) (cY:p.begun=false) (hz:p.h=Hd.zero) (x:Int) (cy:0≤x) (cQ:x≤255) (hd:p.c.done=false) (hx:x=159) (hk:p.c.atKey=false) (hf:p.c.full=false):Calls prog 175 #[.pointer (some ⟨b,0,none⟩),.int .u8 x] w (aF w base b ov sv (p.item x)):=lM
open Go.K18 in
theorem EH {N:Int} {w:World} {base b:Nat} {ov sv:Value} {p:Cb} (h:aG N w base b 201 (aQ p) ov sv p.c) (cY:p.begun=false) (hz:p.h=Hd.zero) (x:Int) (cy:0≤x) (cQ:x≤255) (hd:p.c.done=false) (hm:x/32=5) (hl:x % 32<28) (hk:p.c.atKey=true):Calls prog 175 #[.pointer (some ⟨b,0,none⟩),.int .u8 x] w (aF w base b ov sv (p.item x)):=lM
open Go.K3 in
theorem Ba {N:Int} {w:World} {base b:Nat} {ov sv:Value} {p:Cb} (h:aG N w base b 201 (aQ p) ov sv p.c) (cY:p.begun=false) (hz:p.h=Hd.zero) (x:Int) (cy:0≤x) (cQ:x≤255) (hd:p.c.done=false) (hm:x/32=5) (hl:x % 32<28) (hk:p.c.atKey=false) (hf:p.c.full=true):Calls prog 175 #[.pointer (some ⟨b,0,none⟩),.int .u8 x] w (aF w base b ov sv (p.item x)):=lM
open Go.K1 in
theorem EI {N:Int} {w:World} {base b:Nat} {ov sv:Value} {p:Cb} (h:aG N w base b 201 (aQ p) ov sv p.c) (cY:p.begun=false) (hz:p.h=Hd.zero) (x:Int) (cy:0≤x) (cQ:x≤255) (hd:p.c.done=false) (hm:x/32=5) (hl:x % 32<28) (hk:p.c.atKey=false) (hf:p.c.full=false):Calls prog 175 #[.pointer (some ⟨b,0,none⟩),.int .u8 x] w (aF w base b ov sv (p.item x)):=lM
open Go.K27 in
theorem EJ {N:Int} {w:World} {base b:Nat} {ov sv:Value} {p:Cb} (h:aG N w base b 201 (aQ p) ov sv p.c) (cY:p.begun=false) (hz:p.h=Hd.zero) (x:Int) (cy:0≤x) (cQ:x≤255) (hd:p.c.done=false) (hx:x=191) (hk:p.c.atKey=true):Calls prog 175 #[.pointer (some ⟨b,0,none⟩),.int .u8 x] w (aF w base b ov sv (p.item x)):=lM
open Go.K7 in
theorem Bb {N:Int} {w:World} {base b:Nat} {ov sv:Value} {p:Cb} (h:aG N w base b 201 (aQ p) ov sv p.c) (cY:p.begun=false) (hz:p.h=Hd.zero) (x:Int) (cy:0≤x) (cQ:x≤255) (hd:p.c.done=false) (hx:x=191) (hk:p.c.atKey=false) (hf:p.c.full=true):Calls prog 175 #[.pointer (some ⟨b,0,none⟩),.int .u8 x] w (aF w base b ov sv (p.item x)):=lM
open Go.K5 in
theorem EK {N:Int} {w:World} {base b:Nat} {ov sv:Value} {p:Cb} (h:aG N w base b 201 (aQ p) ov sv p.c) (cY:p.begun=false) (hz:p.h=Hd.zero) (x:Int) (cy:0≤x) (cQ:x≤255) (hd:p.c.done=false) (hx:x=191) (hk:p.c.atKey=false) (hf:p.c.full=false):Calls prog 175 #[.pointer (some ⟨b,0,none⟩),.int .u8 x] w (aF w base b ov sv (p.item x)):=lM
open Go.K19 in
theorem EL {N:Int} {w:World} {base b:Nat} {ov sv:Value} {p:Cb} (h:aG N w base b 201 (aQ p) ov sv p.c) (cY:p.begun=false) (hz:p.h=Hd.zero) (x:Int) (cy:0≤x) (cQ:x≤255) (hd:p.c.done=false) (hm:x/32=6) (hl:x % 32<28) (hk:p.c.atKey=true):Calls prog 175 #[.pointer (some ⟨b,0,none⟩),.int .u8 x] w (aF w base b ov sv (p.item x)):=lM
open Go.K21 in
theorem Ix {N:Int} {w:World} {base b:Nat} {ov sv:Value} {p:Cb} (h:aG N w base b 201 (aQ p) ov sv p.c) (cY:p.begun=false) (hz:p.h=Hd.zero) (x:Int) (cy:0≤x) (cQ:x≤255) (hd:p.c.done=false) (hm:x/32=6) (hl:x % 32<28) (hk:p.c.atKey=false):Calls prog 175 #[.pointer (some ⟨b,0,none⟩),.int .u8 x] w (aF w base b ov sv (p.item x)):=lM
open Go.K20 in
theorem EM {N:Int} {w:World} {base b:Nat} {ov sv:Value} {p:Cb} (h:aG N w base b 201 (aQ p) ov sv p.c) (cY:p.begun=false) (hz:p.h=Hd.zero) (x:Int) (cy:0≤x) (cQ:x≤255) (hd:p.c.done=false) (hm:x/32=7) (hl:x % 32<28) (hk:p.c.atKey=true):Calls prog 175 #[.pointer (some ⟨b,0,none⟩),.int .u8 x] w (aF w base b ov sv (p.item x)):=lM
open Go.K12 in
theorem EN {N:Int} {w:World} {base b:Nat} {ov sv:Value} {p:Cb} (h:aG N w base b 201 (aQ p) ov sv p.c) (cY:p.begun=false) (hz:p.h=Hd.zero) (x:Int) (cy:0≤x) (cQ:x≤255) (hd:p.c.done=false) (hm:x/32=7) (hl:x % 32<28) (hk:p.c.atKey=false):Calls prog 175 #[.pointer (some ⟨b,0,none⟩),.int .u8 x] w (aF w base b ov sv (p.item x)):=lM
theorem Ku {N:Int} {w:World} {base b:Nat} {ov sv:Value} {p:Cb} (h:aG N w base b 201 (aQ p) ov sv p.c) (cY:p.begun=false) (hz:p.h=Hd.zero) (x:Int) (cy:0≤x) (cQ:x≤255):Calls prog 175 #[.pointer (some ⟨b,0,none⟩),.int .u8 x] w (aF w base b ov sv (p.item x)):=by
 have eK:x % 32<28∨x % 32=28∨x % 32=29∨x % 32=30∨x % 32=31:=by omega
 have gU:x/32=0∨x/32=1∨x/32=2∨x/32=3∨x/32=4∨x/32=5∨x/32=6∨x/32=7:=by omega
 cases hd:p.c.done with
 |true=>exact Iw h cY hz x cy cQ hd
 |false=>
 by_cases c28:x % 32=28
 ·exact Es h cY hz x cy cQ hd c28
 by_cases c29:x % 32=29
 ·exact Et h cY hz x cy cQ hd c29
 by_cases c30:x % 32=30
 ·exact Eu h cY hz x cy cQ hd c30
 by_cases o0:x=31
 ·exact Ew h cY hz x cy cQ hd o0
 by_cases o1:x=63
 ·exact Ex h cY hz x cy cQ hd o1
 by_cases o6:x=223
 ·exact Ey h cY hz x cy cQ hd o6
 by_cases o7:x=255
 ·exact Mh h cY hz x cy cQ hd o7
 by_cases q0:x/32=0∧x % 32<28
 ·cases hk:p.c.atKey with
  |true=>exact Ez h cY hz x cy cQ hd q0.1 q0.2 hk
  |false=>exact AY h cY hz x cy cQ hd q0.1 q0.2 hk
 by_cases q1:x/32=1∧x % 32<28
 ·cases hk:p.c.atKey with
  |true=>exact EA h cY hz x cy cQ hd q1.1 q1.2 hk
  |false=>exact AZ h cY hz x cy cQ hd q1.1 q1.2 hk
 by_cases q2:x/32=2∧x % 32<28
 ·cases hk:p.c.atKey with
  |true=>exact EB h cY hz x cy cQ hd q2.1 q2.2 hk
  |false=>exact A0 h cY hz x cy cQ hd q2.1 q2.2 hk
 by_cases p2:x=95
 ·cases hk:p.c.atKey with
  |true=>exact EC h cY hz x cy cQ hd p2 hk
  |false=>exact A3 h cY hz x cy cQ hd p2 hk
 by_cases q3:x/32=3∧x % 32<28
 ·cases hk:p.c.atKey with
  |true=>exact A5 h cY hz x cy cQ hd q3.1 q3.2 hk
  |false=>exact A4 h cY hz x cy cQ hd q3.1 q3.2 hk
 by_cases p3:x=127
 ·cases hk:p.c.atKey with
  |true=>exact A7 h cY hz x cy cQ hd p3 hk
  |false=>exact A6 h cY hz x cy cQ hd p3 hk
 by_cases q4:x/32=4∧x % 32<28
 ·cases hk:p.c.atKey with
  |true=>exact ED h cY hz x cy cQ hd q4.1 q4.2 hk
  |false=>
   cases hf:p.c.full with
   |true=>exact A8 h cY hz x cy cQ hd q4.1 q4.2 hk hf
   |false=>exact EE h cY hz x cy cQ hd q4.1 q4.2 hk hf
 by_cases p4:x=159
 ·cases hk:p.c.atKey with
  |true=>exact EF h cY hz x cy cQ hd p4 hk
  |false=>
   cases hf:p.c.full with
   |true=>exact A9 h cY hz x cy cQ hd p4 hk hf
   |false=>exact EG h cY hz x cy cQ hd p4 hk hf
 by_cases q5:x/32=5∧x % 32<28
 ·cases hk:p.c.atKey with
  |true=>exact EH h cY hz x cy cQ hd q5.1 q5.2 hk
  |false=>
   cases hf:p.c.full with
   |true=>exact Ba h cY hz x cy cQ hd q5.1 q5.2 hk hf
   |false=>exact EI h cY hz x cy cQ hd q5.1 q5.2 hk hf
 by_cases p5:x=191
 ·cases hk:p.c.atKey with
  |true=>exact EJ h cY hz x cy cQ hd p5 hk
  |false=>
   cases hf:p.c.full with
   |true=>exact Bb h cY hz x cy cQ hd p5 hk hf
   |false=>exact EK h cY hz x cy cQ hd p5 hk hf
 by_cases q6:x/32=6∧x % 32<28
 ·cases hk:p.c.atKey with
  |true=>exact EL h cY hz x cy cQ hd q6.1 q6.2 hk
  |false=>exact Ix h cY hz x cy cQ hd q6.1 q6.2 hk
 by_cases q7:x/32=7∧x % 32<28
 ·cases hk:p.c.atKey with
  |true=>exact EM h cY hz x cy cQ hd q7.1 q7.2 hk
  |false=>exact EN h cY hz x cy cQ hd q7.1 q7.2 hk
 exfalso;rcases eK with e|e|e|e|e
 ·rcases gU with f|f|f|f|f|f|f|f
  ·exact q0 ⟨f,e⟩
  ·exact q1 ⟨f,e⟩
  ·exact q2 ⟨f,e⟩
  ·exact q3 ⟨f,e⟩
  ·exact q4 ⟨f,e⟩
  ·exact q5 ⟨f,e⟩
  ·exact q6 ⟨f,e⟩
  ·exact q7 ⟨f,e⟩
 ·exact c28 e
 ·exact c29 e
 ·exact c30 e
 ·clear q0;clear q1;clear q2;clear q3;clear q4;clear q5;clear q6;clear q7;rcases gU with f|f|f|f|f|f|f|f
  ·exact absurd (show x=31 from by clear o0 o1 o6 o7 p2 p3 p4 p5;omega) o0
  ·exact absurd (show x=63 from by clear o0 o1 o6 o7 p2 p3 p4 p5;omega) o1
  ·exact absurd (show x=95 from by clear o0 o1 o6 o7 p2 p3 p4 p5;omega) p2
  ·exact absurd (show x=127 from by clear o0 o1 o6 o7 p2 p3 p4 p5;omega) p3
  ·exact absurd (show x=159 from by clear o0 o1 o6 o7 p2 p3 p4 p5;omega) p4
  ·exact absurd (show x=191 from by clear o0 o1 o6 o7 p2 p3 p4 p5;omega) p5
  ·exact absurd (show x=223 from by clear o0 o1 o6 o7 p2 p3 p4 p5;omega) o6
  ·exact absurd (show x=255 from by clear o0 o1 o6 o7 p2 p3 p4 p5;omega) o7
open Go.K42 in
theorem ya {N:Int} {w:World} {base b:Nat} {ov sv:Value} {p:Cb} (h:aG N w base b 201 (aQ p) ov sv p.c) (cY:p.begun=false) (hz:p.h=Hd.zero) (x:Int) (cy:0≤x) (cQ:x≤255) (hw:p.c.word=true) (hx:x=255):Calls prog 174 #[.pointer (some ⟨b,0,none⟩),.int .u8 x] w (aF w base b ov sv (p.chunk x)):=lM
open Go.K34 in
theorem Bc {N:Int} {w:World} {base b:Nat} {ov sv:Value} {p:Cb} (h:aG N w base b 201 (aQ p) ov sv p.c) (cY:p.begun=false) (hz:p.h=Hd.zero) (x:Int) (cy:0≤x) (cQ:x≤255) (hw:p.c.word=true) (hx: ¬x=255) (hm: ¬x/32=3):Calls prog 174 #[.pointer (some ⟨b,0,none⟩),.int .u8 x] w (aF w base b ov sv (p.chunk x)):=lM
open Go.K40 in
theorem yb {N:Int} {w:World} {base b:Nat} {ov sv:Value} {p:Cb} (h:aG N w base b 201 (aQ p) ov sv p.c) (cY:p.begun=false) (hz:p.h=Hd.zero) (x:Int) (cy:0≤x) (cQ:x≤255) (hw:p.c.word=true) (hx:x=127):Calls prog 174 #[.pointer (some ⟨b,0,none⟩),.int .u8 x] w (aF w base b ov sv (p.chunk x)):=lM
open Go.K31 in
theorem yc {N:Int} {w:World} {base b:Nat} {ov sv:Value} {p:Cb} (h:aG N w base b 201 (aQ p) ov sv p.c) (cY:p.begun=false) (hz:p.h=Hd.zero) (x:Int) (cy:0≤x) (cQ:x≤255) (hw:p.c.word=true) (hm:x/32=3) (hl: ¬x % 32=31):Calls prog 174 #[.pointer (some ⟨b,0,none⟩),.int .u8 x] w (aF w base b ov sv (p.chunk x)):=lM
open Go.K43 in
theorem yd {N:Int} {w:World} {base b:Nat} {ov sv:Value} {p:Cb} (h:aG N w base b 201 (aQ p) ov sv p.c) (cY:p.begun=false) (hz:p.h=Hd.zero) (x:Int) (cy:0≤x) (cQ:x≤255) (hw:p.c.word=false) (hx:x=255):Calls prog 174 #[.pointer (some ⟨b,0,none⟩),.int .u8 x] w (aF w base b ov sv (p.chunk x)):=lM
open Go.K35 in
theorem Bd {N:Int} {w:World} {base b:Nat} {ov sv:Value} {p:Cb} (h:aG N w base b 201 (aQ p) ov sv p.c) (cY:p.begun=false) (hz:p.h=Hd.zero) (x:Int) (cy:0≤x) (cQ:x≤255) (hw:p.c.word=false) (hx: ¬x=255) (hm: ¬x/32=2):Calls prog 174 #[.pointer (some ⟨b,0,none⟩),.int .u8 x] w (aF w base b ov sv (p.chunk x)):=lM
open Go.K41 in
theorem ye {N:Int} {w:World} {base b:Nat} {ov sv:Value} {p:Cb} (h:aG N w base b 201 (aQ p) ov sv p.c) (cY:p.begun=false) (hz:p.h=Hd.zero) (x:Int) (cy:0≤x) (cQ:x≤255) (hw:p.c.word=false) (hx:x=95):Calls prog 174 #[.pointer (some ⟨b,0,none⟩),.int .u8 x] w (aF w base b ov sv (p.chunk x)):=lM
open Go.K32 in
theorem yf {N:Int} {w:World} {base b:Nat} {ov sv:Value} {p:Cb} (h:aG N w base b 201 (aQ p) ov sv p.c) (cY:p.begun=false) (hz:p.h=Hd.zero) (x:Int) (cy:0≤x) (cQ:x≤255) (hw:p.c.word=false) (hm:x/32=2) (hl: ¬x % 32=31):Calls prog 174 #[.pointer (some ⟨b,0,none⟩),.int .u8 x] w (aF w base b ov sv (p.chunk x)):=lM
theorem FW {N:Int} {w:World} {base b:Nat} {ov sv:Value} {p:Cb} (h:aG N w base b 201 (aQ p) ov sv p.c) (cY:p.begun=false) (hz:p.h=Hd.zero) (x:Int) (cy:0≤x) (cQ:x≤255):Calls prog 174 #[.pointer (some ⟨b,0,none⟩),.int .u8 x] w (aF w base b ov sv (p.chunk x)):=by
 cases hw:p.c.word with
 |false=>
  by_cases h1:x=255
  ·exact yd h cY hz x cy cQ hw h1
  by_cases h2:x/32=2
  ·by_cases h3:x % 32=31
   ·exact ye h cY hz x cy cQ hw (by omega)
   ·exact yf h cY hz x cy cQ hw h2 h3
  ·exact Bd h cY hz x cy cQ hw h1 h2
 |true=>
  by_cases h1:x=255
  ·exact ya h cY hz x cy cQ hw h1
  by_cases h2:x/32=3
  ·by_cases h3:x % 32=31
   ·exact yb h cY hz x cy cQ hw (by omega)
   ·exact yc h cY hz x cy cQ hw h2 h3
  ·exact Bc h cY hz x cy cQ hw h1 h2
def kL (w:World) (base b:Nat) (ov sv:Value) (t:List Ev×Cb) (r:Ending) (w':World):Prop:=
 ∃v,r= .returned (.tuple #[v,.int .i64 t.2.c.e])∧aP w' w.heap.size v t.1∧∃oW Cy,zq w' base b oW Cy t.2∧I (cz b ov sv) w w'∧∀i∈cz b oW Cy,i∈cz b ov sv∨w.heap.size≤i
theorem Iy {N:Int} {w:World} {base b:Nat} {ov sv:Value} {p:Cb} (h:xZ N w base b ov sv p) (x:Int) (he: ¬p.c.e=0):Calls prog 169 #[.pointer (some ⟨b,0,none⟩),.int .u8 x] w (kL w base b ov sv (p.step x)):=by
 rw[show p.step x=([],p) by unfold Cb.step;rw[if_pos he]];obtain⟨g0,g1,g2,g3,g4,g5,g6,g7⟩:=bU h.bG;have bP:=h.bG.az.lt;have H:=hid h;have fX:(p.c.e != 0)=true:=by simpa using he
 clear h he;go_enter func169,ntmps169;go_wp2_with fail
 go_quiet (fail)
 go_wp2_with fail
 go_ret2;exact⟨_,rfl,aP.nil _ _,ov,sv,a8.aI H.out.bG ((I.refl _ _).drewN _),(I.refl _ _).drewN _,fun i hi=>inl hi⟩
open Go.K3 in
theorem EO {N:Int} {w:World} {base b:Nat} {ov sv:Value} {p:Cb} (h:xZ N w base b ov sv p) (x:Int) (cy:0≤x) (cQ:x≤255) (he:p.c.e=0) (hl:0<p.c.aT):Calls prog 169 #[.pointer (some ⟨b,0,none⟩),.int .u8 x] w (kL w base b ov sv (p.step x)):=YA
open Go.K2 in
theorem EP {N:Int} {w:World} {base b:Nat} {ov sv:Value} {p:Cb} (h:xZ N w base b ov sv p) (x:Int) (cy:0≤x) (cQ:x≤255) (he:p.c.e=0) (hl: ¬0<p.c.aT) (cY:p.begun=true):Calls prog 169 #[.pointer (some ⟨b,0,none⟩),.int .u8 x] w (kL w base b ov sv (p.step x)):=YA
open Go.K1 in
theorem Be {N:Int} {w:World} {base b:Nat} {ov sv:Value} {p:Cb} (h:xZ N w base b ov sv p) (x:Int) (cy:0≤x) (cQ:x≤255) (he:p.c.e=0) (hl: ¬0<p.c.aT) (cY:p.begun=false) (Wh:p.c.chunks=true):Calls prog 169 #[.pointer (some ⟨b,0,none⟩),.int .u8 x] w (kL w base b ov sv (p.step x)):=YA
open Go.K0 in
theorem ER {N:Int} {w:World} {base b:Nat} {ov sv:Value} {p:Cb} (h:xZ N w base b ov sv p) (x:Int) (cy:0≤x) (cQ:x≤255) (he:p.c.e=0) (hl: ¬0<p.c.aT) (cY:p.begun=false) (Wh:p.c.chunks=false):Calls prog 169 #[.pointer (some ⟨b,0,none⟩),.int .u8 x] w (kL w base b ov sv (p.step x)):=YA
theorem Iz {N:Int} {w:World} {base b:Nat} {ov sv:Value} {p:Cb} (h:xZ N w base b ov sv p) (x:Int) (cy:0≤x) (cQ:x≤255):Calls prog 169 #[.pointer (some ⟨b,0,none⟩),.int .u8 x] w (kL w base b ov sv (p.step x)):=by
 by_cases he:p.c.e=0
 ·by_cases hl:0<p.c.aT
  ·exact EO h x cy cQ he hl
  ·cases hb:p.begun with
   |true=>exact EP h x cy cQ he hl hb
   |false=>
    cases hc:p.c.chunks with
    |true=>exact Be h x cy cQ he hl hb hc
    |false=>exact ER h x cy cQ he hl hb hc
 ·exact Iy h x he
theorem Kg (d:Int) (hd:1≤d∧d≤16) (w:World):Calls prog 102 #[.int .i64 d] w fun r w'=>r= .returned (.pointer (some ⟨w.heap.size,0,none⟩))∧zq w' w.heap.size w.heap.size (.slice none 0 0) (.slice none 0 0) (Cb.new d)∧I [] w w':=by
 have h1: ¬d<1:=by omega
 have h2: ¬16<d:=by omega
 clear hd;go_enter func102,ntmps102;go_wp2;go_ret;exact⟨rfl,⟨Has.aC w _ _ rfl,ai.nil _ _ _,bz.nil _ _,by simp[aR],by simp[aR],by simp[aR]⟩,(I.refl _ _).alloc _⟩
theorem Mi {w:World} {base b:Nat} {ov sv:Value} {p:Cb} (h:zq w base b ov sv p):Calls prog 98 #[.pointer (some ⟨b,0,none⟩)] w fun r w'=>r= .returned (.int .i64 p.c.cK)∧w=w':=by
 have HO:=hid (Og p.c w base b _ _ ov sv h);have bP:=h.az.lt;clear h;go_enter func98,ntmps98;go_wp2_with fail
 refine HO.out.mono ?_;rintro e w' ⟨rfl,rfl⟩;go_wp2_with fail
 go_ret;exact⟨rfl,rfl⟩
end Go.Proofs.YthffblhdjjbkaaaGreat
namespace Go.Tru
open Go.RowKit
structure Pu where
 rest:Int
 has:List Int
 bu:List Bool
def ovr (n:Int):Int:=if n≤700 then 0 else n-700
def Pu.shared (p:Pu):Int:=p.rest- (p.has.map ovr).sum
def Pu.may (p:Pu) (i:Nat):Int:=700+p.shared+ovr (p.has.getD i 0)
def Pu.left (p:Pu) (i:Nat):Int:=(if p.has.getD i 0≤700 then 700-p.has.getD i 0 else 0)+p.shared
def fe (l:List Int):List Value:=l.map (Value.int .i64)
def fR (l:List Bool):List Value:=l.map Value.bool
structure fS (w:World) (b gh go:Nat) (p:Pu):Prop where
 az:Has w b [.int .i64 p.rest,.slice (some ⟨gh,0,none⟩) p.has.length p.has.length,.slice (some ⟨go,0,none⟩) p.has.length p.has.length] 99
 hs:Has w gh (fe p.has) 3
 os:Has w go (fR p.bu) 4
 len:p.bu.length=p.has.length
 many:p.has.length≤8
 jA:0≤p.rest∧p.rest≤40000∧∀x∈p.has,0≤x∧x≤40000
 ap:b≠gh∧b≠go∧gh≠go
 free:0≤p.shared
theorem fS.keeps {F:List Nat} {w w':World} {b gh go:Nat} {p:Pu} (h:fS w b gh go p) (k:I F w w') (h1:b∉F) (h2:gh∉F) (h3:go∉F):fS w' b gh go p:=⟨h.az.keeps k h1,h.hs.keeps k h2,h.os.keeps k h3,h.len,h.many,h.jA,h.ap,h.free⟩
theorem nc {x:Int} (h:0≤x∧x≤40000):0≤ovr x∧ovr x≤40000:=by unfold ovr;split<;>omega
theorem zz: ∀ (l:List Int),(∀x∈l,0≤x∧x≤40000)→0≤(l.map ovr).sum∧(l.map ovr).sum≤40000*l.length
 | [],_=>by simp
 |x::l,h=>by have h1:=nc (h x ms);have h2:=zz l (fun y hy=>h y (List.mem_cons_of_mem _ hy));simp only[List.map_cons,List.sum_cons,List.length_cons];omega
theorem Bt: ∀ (l:List Int) (i:Nat) (n:Int),i<l.length→((l.set i n).map ovr).sum=(l.map ovr).sum-ovr (l.getD i 0)+ovr n
 | [],i,n,h=>absurd h (by simp)
 |x::l,0,n,_=>by simp[List.getD];omega
 |x::l,i+1,n,h=>by have ih:=Bt l i n (by simpa using h);simp only[List.set_cons_succ,List.map_cons,List.sum_cons,ih];rw[show(x::l).getD (i+1) 0=l.getD i 0 by simp[List.getD]];omega
theorem Qv {p:Pu} {i:Nat} {n:Int} (hf:0≤p.shared) (h0:0≤p.has.getD i 0) (h:n≤p.may i):ovr n≤p.shared+ovr (p.has.getD i 0):=by unfold Pu.may at h;unfold ovr at h⊢;split<;>split at h<;>split<;>omega
theorem fS.facts {w:World} {b gh go:Nat} {p:Pu} (h:fS w b gh go p):w.cell? ⟨b,0,none⟩=some (.int .i64 p.rest)∧w.cell? ⟨b,1,none⟩=some (.slice (some ⟨gh,0,none⟩) p.has.length p.has.length)∧w.cell? ⟨b,2,none⟩=some (.slice (some ⟨go,0,none⟩) p.has.length p.has.length):=⟨h.az.cell 0,h.az.cell 1,h.az.cell 2⟩
theorem fS.yu {w:World} {b gh go:Nat} {p:Pu} (h:fS w b gh go p) {i:Nat} (hi:i<p.has.length):w.cell? ⟨gh,i,none⟩=some (.int .i64 (p.has.getD i 0))∧0≤p.has.getD i 0∧p.has.getD i 0≤40000:=by
 have hg:p.has.getD i 0=p.has[i]:=by simp[List.getD,hi]
 refine⟨?_,?_⟩
 ·rw[h.hs.cell,fe,List.getElem?_map,List.getElem?_eq_getElem hi,hg];rfl
 ·rw[hg];exact h.jA.2.2 _ (List.getElem_mem hi)
theorem fS.IG {w:World} {b gh go:Nat} {p:Pu} (h:fS w b gh go p) {i:Nat} (hi:i<p.has.length):w.cell? ⟨go,i,none⟩=some (.bool (p.bu.getD i false)):=by
 have RH:i<p.bu.length:=by rw[h.len];exact hi
 rw[h.os.cell,fR,List.getElem?_map,List.getElem?_eq_getElem RH];simp[List.getD,RH]
end Go.Tru
namespace Go.Proofs.YthffblhdjjbkaaaGreat
open Go.RowKit Go.Tru
theorem zA (n:Int) (hn:0≤n∧n≤1000000) (w:World):Calls prog 75 #[.int .i64 n] w fun e w'=>e= .returned (.int .i64 (ovr n))∧w=w':=by
 have hw:=da (x:=n-700) (by omega);unfold ovr;by_cases h:n≤700
 ·have h1:(0:Int)≥n-700:=by omega
  rw[if_pos h];go_enter func75,ntmps75;go_wp2_with fail
  all_goals go_ret;exact⟨nh (by omega),rfl⟩
 ·have h1: ¬ (0:Int)≥n-700:=by omega
  rw[if_neg h];go_enter func75,ntmps75;go_wp2_with fail
  all_goals go_ret;exact⟨nh (by omega),rfl⟩
theorem wX (w:World) (b gh go:Nat) (p:Pu) (h:fS w b gh go p) (i:Nat) (hi:i<p.has.length):Calls prog 67 #[.pointer (some ⟨b,0,none⟩),.int .i64 i] w fun e w'=>e= .returned (.bool (p.bu.getD i false))∧w=w':=by
 obtain⟨c0,c1,c2⟩:=h.facts;have co:=h.IG hi;have hii:(i:Int)<(p.has.length:Int):=by omega
 have S6:(0:Int)≤(i:Int):=by omega
 clear h;go_enter func67,ntmps67;go_wp2_with fail
 go_ret;exact⟨rfl,rfl⟩
def Ks (p:Pu) (w:World) (f i:Value) (wr:World):Prop:=
 ∃k:Nat,k≤p.has.length∧i= .int .i64 k∧f= .int .i64 (p.rest- ((p.has.take k).map ovr).sum)∧wr=w
open Go.K0 in
theorem rB (w:World) (b gh go:Nat) (p:Pu) (h:fS w b gh go p):Calls prog 68 #[.pointer (some ⟨b,0,none⟩)] w fun e w'=>e= .returned (.int .i64 p.shared)∧w=w':=q15
theorem pE {w:World} {b gh go:Nat} {p:Pu} (h:fS w b gh go p): -320000≤p.shared∧p.shared≤40000:=by have h1:=zz p.has h.jA.2.2;have h2:=h.jA;have h3:=h.many;unfold Pu.shared;omega
theorem _root_.Go.Tru.fS.Qw {w:World} {b gh go:Nat} {p:Pu} (h:fS w b gh go p) {i:Nat} (hi:i<p.has.length) {n:Int} (hn:0≤n∧n≤40000) (hm:n≤p.may i):fS (w.setCell ⟨gh,i,none⟩ (.int .i64 n)) b gh go {p with has:=p.has.set i n}:=by
 obtain⟨h1,h2,h3⟩:=h.ap;refine⟨(h.az.other (p:=⟨gh,i,none⟩) h1 _).conv (by simp),(h.hs.set i _).conv ?_,h.os.other (p:=⟨gh,i,none⟩) (fun e=>h3 e.symm) _,by simpa using h.len,by simpa using h.many,⟨h.jA.1,h.jA.2.1,fun x hx=> ?_⟩,h.ap,?_⟩
 ·simp[fe,List.map_set]
 ·rcases List.mem_or_eq_of_mem_set hx with hx|rfl
  ·exact h.jA.2.2 x hx
  ·exact hn
 ·have h4:=Qv h.free (h.yu hi).2.1 hm;have h5:=Bt p.has i n hi;unfold Pu.shared at h4⊢;simp only[h5];omega
theorem y5 (w:World) (b gh go:Nat) (p:Pu) (h:fS w b gh go p) (i:Nat) (hi:i<p.has.length) (jW:p.bu.getD i false=true) (n:Int) (hn:0≤n∧n≤40000) (dW:n≤p.may i):Calls prog 46 #[.pointer (some ⟨b,0,none⟩),.int .i64 i,.int .i64 n] w fun e w'=>e= .returned (.bool true)∧fS w' b gh go {p with has:=p.has.set i n}∧I [gh] w w':=by
 obtain⟨c0,c1,c2⟩:=h.facts;obtain⟨ch,BE,fT⟩:=h.yu hi;have V9:=pE h;have hii:(i:Int)<(p.has.length:Int):=by omega
 have S6:(0:Int)≤(i:Int):=by omega
 have Fw: ¬n<0:=by omega
 have hon:=nc hn;obtain⟨x,hx⟩: ∃x,p.has.getD i 0=x:=⟨_,rfl⟩
 have hle:ovr n≤p.shared+ovr x:=by rw[←hx];exact Qv h.free BE dW
 rw[hx] at ch BE fT;have hox:=nc (x:=x) ⟨BE,fT⟩;have XJ: ¬p.shared+ovr x<ovr n:=by omega
 have hw:=da (x:=p.shared+ovr x) (by omega);have fg:=h.hs.free i;have H:=hid h;have HON:=hid (fun W=>zA n ⟨hn.1,by omega⟩ W);have HOX:=hid (fun W=>zA x ⟨BE,by omega⟩ W);have iJ:=hid (fun W (k:I [] w W)=>(h.keeps k (by simp) (by simp) (by simp)).Qw hi hn dW);clear h hle dW hx;go_enter func46,ntmps46;go_wp2_with fail
 go_quiet (first
  |(go_at_call 67;exact(wX _ b gh go p (H.out.keeps ((I.refl [] _).drewN _) (by simp) (by simp) (by simp)) i hi).mono (by rintro e w' ⟨rfl,rfl⟩;exact⟨by rw[jW],_,rfl⟩))
  |(go_at_call 68;exact(rB _ b gh go p (H.out.keeps ((I.refl [] _).drewN _) (by simp) (by simp) (by simp))).mono (by rintro e w' ⟨rfl,rfl⟩;exact⟨rfl,_,rfl⟩))
  |(go_at_call 75;first|exact(HON.out _).mono (by rintro e w' ⟨rfl,rfl⟩;exact⟨rfl,_,rfl⟩)|exact(HOX.out _).mono (by rintro e w' ⟨rfl,rfl⟩;exact⟨rfl,_,rfl⟩)))
 go_wp2_with fail
 go_ret;exact⟨rfl,iJ.out _ ((I.refl [] _).drewN _),((I.refl [gh] _).drewN _).ax _⟩
theorem E7 (l:List Bool) (i:Nat) (v:Bool):(fR l).set i (.bool v)=fR (l.set i v):=by simp[fR,List.map_set]
theorem _root_.Go.Tru.fS.JV {w:World} {b gh go:Nat} {p:Pu} (h:fS w b gh go p) {i:Nat} (v:Bool):fS (w.setCell ⟨go,i,none⟩ (.bool v)) b gh go {p with bu:=p.bu.set i v}:=by obtain⟨h1,h2,h3⟩:=h.ap;exact⟨h.az.other (p:=⟨go,i,none⟩) h2 _,h.hs.other (p:=⟨go,i,none⟩) h3 _,(h.os.set i _).conv (E7 _ _ _),by simpa using h.len,h.many,h.jA,h.ap,h.free⟩
theorem IH (w:World) (b gh go:Nat) (p:Pu) (h:fS w b gh go p) (i:Nat) (hi:i<p.has.length) (jW:p.bu.getD i false=false):Calls prog 32 #[.pointer (some ⟨b,0,none⟩),.int .i64 i] w fun e w'=>e= .returned (.bool true)∧fS w' b gh go {p with bu:=p.bu.set i true}∧I [go] w w':=by
 obtain⟨c0,c1,c2⟩:=h.facts;have co:=h.IG hi;rw[jW] at co;have hii:(i:Int)<(p.has.length:Int):=by omega
 have S6: ¬ (i:Int)<0:=by omega
 have Ae:(0:Int)≤(i:Int):=by omega
 have fo:=h.os.free i;have iJ:=hid (h.JV (i:=i) true);clear h;go_enter func32,ntmps32;go_wp2_with fail
 go_ret;exact⟨rfl,iJ.out,(I.refl [go] _).ax _⟩
theorem II (w:World) (b gh go:Nat) (p:Pu) (h:fS w b gh go p) (i:Nat) (hi:i<p.has.length) (jW:p.bu.getD i false=true):Calls prog 39 #[.pointer (some ⟨b,0,none⟩),.int .i64 i] w fun e w'=>e= .returned (.int .i64 (p.left i))∧I [] w w':=by
 obtain⟨c0,c1,c2⟩:=h.facts;obtain⟨ch,BE,fT⟩:=h.yu hi;have V9:=pE h;have hii:(i:Int)<(p.has.length:Int):=by omega
 have S6:(0:Int)≤(i:Int):=by omega
 unfold Pu.left;obtain⟨x,hx⟩: ∃x,p.has.getD i 0=x:=⟨_,rfl⟩
 rw[hx] at ch BE fT⊢;have H:=hid h;have HIS:=hid (wX w b gh go p h i hi);rw[jW] at HIS;have eK:=da (x:=700-x) (by omega);have HSH:=hid (fun n=>rB (w.drewN n) b gh go p (h.keeps ((I.refl [] _).drewN _) (by simp) (by simp) (by simp)));clear h hx;obtain⟨y,hy,hyb⟩: ∃y,(if x≤700 then 700-x else 0)=y∧0≤y∧y≤700:=⟨_,rfl,by split<;>omega⟩
 have gU:=da (x:=y+p.shared) (by omega);rw[hy];rcases(show(x<700∧y=700-x)∨(x=700∧y=0)∨(700<x∧y=0) by split at hy<;>omega) with⟨h1,h2⟩|⟨h1,h2⟩|⟨h1,h2⟩;all_goals
  subst h2;try subst h1
  clear hy;try (have e1: ¬ (700-x≤0):=by omega)
  try (have e2:700-x≤0:=by omega)
  go_enter func39,ntmps39;go_wp2_with fail
  refine HIS.out.mono ?_;rintro e w1 ⟨rfl,rfl⟩;go_wp2_with fail
  go_quiet (first|(go_at_call 68;exact(HSH.out _).mono (by rintro e w' ⟨rfl,rfl⟩;exact⟨rfl,_,rfl⟩)))
  go_wp2_with fail
  go_ret;exact⟨nh (by simp),(I.refl [] _).drewN _⟩
theorem _root_.Go.Tru.fS.Ua {w:World} {b gh go:Nat} {p:Pu} (h:fS w b gh go p) {i:Nat} (hi:i<p.has.length):fS ((w.setCell ⟨gh,i,none⟩ (.int .i64 0)).setCell ⟨go,i,none⟩ (.bool false)) b gh go ⟨p.rest,p.has.set i 0,p.bu.set i false⟩:=(h.Qw hi (n:=0) (by omega) (by have:=h.free;have:=(h.yu hi).2.1;unfold Pu.may ovr;split<;>omega)).JV (i:=i) false
theorem E8 (w:World) (b gh go:Nat) (p:Pu) (h:fS w b gh go p) (i:Nat) (hi:i<p.has.length) (jW:p.bu.getD i false=true):Calls prog 50 #[.pointer (some ⟨b,0,none⟩),.int .i64 i] w fun e w'=>(∃k,e= .returned (.int .i64 k))∧fS w' b gh go ⟨p.rest,p.has.set i 0,p.bu.set i false⟩∧I [gh,go] w w':=by
 obtain⟨c0,c1,c2⟩:=h.facts;obtain⟨ch,BE,fT⟩:=h.yu hi;have co:=h.IG hi;have hii:(i:Int)<(p.has.length:Int):=by omega
 have S6:(0:Int)≤(i:Int):=by omega
 have fg:=h.hs.free i;have fo:=h.os.free i;have HIS:=hid (wX w b gh go p h i hi);rw[jW] at HIS co;obtain⟨h1,h2,h3⟩:=h.ap;have JI: ¬go=gh:=fun e=>h3 e.symm;have iJ:=hid (fun W (k:I [] w W)=>(h.keeps k (by simp) (by simp) (by simp)).Ua hi);clear h;go_enter func50,ntmps50;go_wp2_with fail
 refine HIS.out.mono ?_;rintro e w1 ⟨rfl,rfl⟩;go_upto_region 4 with fail;go_region;all_goals
  go_wp2_with fail
  go_ret;first
   |exact⟨⟨_,rfl⟩,iJ.out _ ((I.refl [] _).drew),(((I.refl [gh,go] _).drew).setCell (inl (by simp)) _).setCell (inl (by simp)) _⟩
   |exact⟨⟨_,rfl⟩,(iJ.out _ (I.refl [] _)).keeps ((I.refl [] _).drew) (by simp) (by simp) (by simp),(((I.refl [gh,go] _).setCell (inl (by simp)) _).setCell (inl (by simp)) _).drew⟩
def Wd (p:Pu) (w:World) (f i:Value) (wr:World):Prop:=
 ∃k:Nat,k≤p.has.length∧i= .int .i64 k∧f= .int .i64 (p.has.take k).sum∧wr=w
theorem _root_.Go.Tru.uQ: ∀ (l:List Int),(∀x∈l,0≤x∧x≤40000)→0≤l.sum∧l.sum≤40000*l.length
 | [],_=>by simp
 |x::l,h=>by have h1:=h x ms;have h2:=uQ l (fun y hy=>h y (List.mem_cons_of_mem _ hy));simp only[List.sum_cons,List.length_cons];omega
open Go.K1 in
theorem E9 (w:World) (b gh go:Nat) (p:Pu) (h:fS w b gh go p):Calls prog 56 #[.pointer (some ⟨b,0,none⟩)] w fun e w'=>e= .returned (.int .i64 p.has.sum)∧w=w':=q15
theorem Mv:(Tryz.prog.info? 3).map (fun i=>(i.zero,i.size,i.bytes))=some (some (.int .i64 0),1,8):=by kernel_rfl
theorem wY:(Tryz.prog.info? 4).map (fun i=>(i.zero,i.size,i.bytes))=some (some (.bool false),1,1):=by kernel_rfl
theorem Mw (n:Nat) (hn:n=1∨n=2):(madeCells (Value.int .i64 0).cells (n*1)).toList=fe (List.replicate n 0):=by rcases hn with rfl|rfl<;>kernel_rfl
theorem y7 (n:Nat) (hn:n=1∨n=2): ∃A:Array Value,A.toList=fe (List.replicate n 0)∧∀W:World,(Instr.makeSlice 22 (.int .i64 n) (.int .i64 n)).run prog W= .ok (.slice (some ⟨W.heap.size,0,none⟩) n n) (W.alloc (.cells A 3)):=by obtain⟨i0,hi,ko,gv,gW⟩:=info_parts Mv;refine⟨_,Mw n hn,fun W=> ?_⟩;have hr:=run_makeSlice (P:=prog) W 22 3 i0 (.int .i64 0) underlying22 hi ko .i64 .i64 n n (by omega) (Int.le_refl _) (by rw[gv];omega) (by rw[gW];omega) (by omega);rw[gv] at hr;exact hr
theorem IJ (n:Nat) (hn:n=1∨n=2):(madeCells (Value.bool false).cells (n*1)).toList=fR (List.replicate n false):=by rcases hn with rfl|rfl<;>kernel_rfl
theorem IK (n:Nat) (hn:n=1∨n=2): ∃A:Array Value,A.toList=fR (List.replicate n false)∧∀W:World,(Instr.makeSlice 86 (.int .i64 n) (.int .i64 n)).run prog W= .ok (.slice (some ⟨W.heap.size,0,none⟩) n n) (W.alloc (.cells A 4)):=by obtain⟨i0,hi,ko,gv,gW⟩:=info_parts wY;refine⟨_,IJ n hn,fun W=> ?_⟩;have hr:=run_makeSlice (P:=prog) W 86 4 i0 (.bool false) underlying86 hi ko .i64 .i64 n n (by omega) (Int.le_refl _) (by rw[gv];omega) (by rw[gW];omega) (by omega);rw[gv] at hr;exact hr
def Pu.new (ei:Int) (n:Nat):Pu:=⟨ei-n*700,List.replicate n 0,List.replicate n false⟩
theorem _root_.Go.Tru.fS.fresh {W:World} {b gh go n:Nat} {ei:Int} (h1:Has W b [.int .i64 (ei-n*700),.slice (some ⟨gh,0,none⟩) n n,.slice (some ⟨go,0,none⟩) n n] 99) (h2:Has W gh (fe (List.replicate n 0)) 3) (h3:Has W go (fR (List.replicate n false)) 4) (hn:n=1∨n=2) (hb:1400≤ei∧ei≤40000) (a1:b≠gh) (a2:b≠go) (a3:gh≠go):fS W b gh go (Pu.new ei n):=by
 refine⟨h1.conv (by simp[Pu.new]),h2,h3,by simp[Pu.new],by simp[Pu.new];omega,⟨by simp only[Pu.new];omega,by simp only[Pu.new];omega,fun x hx=> ?_⟩,⟨a1,a2,a3⟩,?_⟩
 ·have:=List.eq_of_mem_replicate hx;omega
 ·have h0:ovr 0=0:=by decide
  unfold Pu.shared Pu.new;rcases hn with rfl|rfl
  ·simp[h0,List.replicate];omega
  ·simp[h0,List.replicate];omega
theorem Mx (ei:Int) (n:Nat) (hn:n=1∨n=2) (hb:1400≤ei∧ei≤40000) (w:World):Calls prog 27 #[.int .i64 ei,.int .i64 n] w fun e w'=>∃b gh go,e= .returned (.pointer (some ⟨b,0,none⟩))∧fS w' b gh go (Pu.new ei n)∧I [] w w'∧w.heap.size≤b∧w.heap.size≤gh∧w.heap.size≤go:=by
 have e1: ¬ (n:Int)<1:=by omega
 have e2: ¬8<(n:Int):=by omega
 have e3: ¬ei<(n:Int)*700:=by omega
 have e4: ¬40000<ei:=by omega
 have eK:=da (x:=(n:Int)*700) (by omega);have gU:=da (x:=ei- (n:Int)*700) (by omega);obtain⟨A,hA,hmA⟩:=y7 n hn;obtain⟨B,hB,hmB⟩:=IK n hn;have HA:=hid hA;have HB:=hid hB;clear hA hB;go_enter func27,ntmps27;go_wp2_with fail
 go_region;all_goals
  go_wp2_with fail
  go_ret;first
   |exact⟨w.heap.size+1+1,w.heap.size,w.heap.size+1,rfl,(fS.fresh (Has.aC _ _ _ (by simp)) (by rw[←HA.out];exact((Has.aC w A 3 rfl).alloc _).alloc _) (by rw[←HB.out];exact(Has.aC _ B 4 (by simp)).alloc _) hn hb (by omega) (by omega) (by omega)).keeps ((I.refl [] _).drew) (by simp) (by simp) (by simp),((((I.refl [] w).alloc _).alloc _).alloc _).drew,by omega,by omega,by omega⟩
   |exact⟨w.heap.size+1+1,w.heap.size+1,w.heap.size,rfl,(fS.fresh (Has.aC _ _ _ (by simp)) (by rw[←HA.out];exact(Has.aC _ A 3 (by simp)).alloc _) (by rw[←HB.out];exact((Has.aC w B 4 rfl).alloc _).alloc _) hn hb (by omega) (by omega) (by omega)).keeps ((I.refl [] _).drew) (by simp) (by simp) (by simp),((((I.refl [] w).alloc _).alloc _).alloc _).drew,by omega,by omega,by omega⟩
end Go.Proofs.YthffblhdjjbkaaaGreat
