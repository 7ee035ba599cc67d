/- truchmanref1.Head; truchmanref1.Head; truchmanref1.Head; cborin's Parser -/
import Derived.Test.YthffblhdjjbkaaaGreatM21
set_option maxHeartbeats 100000000
set_option maxRecDepth 1000000
open Go.Lib (hid)
open Go.Proofs.Tryz
open Or (inl inr)
namespace Go.Proofs.YthffblhdjjbkaaaGreat
open Go.RowKit Go.Tru
open Go.K3 in
theorem Ov (v:Nat) (h2:v<24) (w:World):Calls prog 23 #[.int .i64 2,.int .u64 v] w fun r w'=>r= .returned (.string (bytesOf [UInt8.ofNat (64+v)]))∧I [] w w':=YC
theorem Ow (v:Nat) (h1:24≤v) (h2:v<256) (w:World):Calls prog 23 #[.int .i64 2,.int .u64 v] w fun r w'=>r= .returned (.string (⟨#[88]⟩++bytesOf (bf v 1)))∧I [] w w':=by
 have aH: ∀ (W:World) (g:Nat),W.cell? ⟨g,0,none⟩=some (.int .u8 88)→(convert 63 9 (.slice (some ⟨g,0,none⟩) 1 1)).run prog W= .ok (.string ⟨#[88]⟩) W:=fun W g hg=>
  run_convert_bytes_back W 63 9 5 ⟨g,0,none⟩ 1 [88] underlying63 underlying5 underlying9 (fun j hj=>by
   obtain rfl:j=0:=by simp at hj;omega
   exact hg)
 have eE: ∀ (W:World) (t:TypeId),(convert 63 9 (.slice (some ⟨W.heap.size,0,none⟩) 1 1)).run prog (W.alloc (.cells #[.int .u8 88] t))= .ok (.string ⟨#[88]⟩) (W.alloc (.cells #[.int .u8 88] t)):=fun W t=>aH _ _ ((Has.aC W #[.int .u8 88] t rfl).cell 0)
 have eF: ∀ (W:World) (t:TypeId),(convert 63 9 (.slice (some ⟨W.heap.size,0,none⟩) 1 1)).run prog (W.alloc (.cells #[.int .u8 88] t)).drew= .ok (.string ⟨#[88]⟩) (W.alloc (.cells #[.int .u8 88] t)).drew:=fun W t=>aH _ _ ((Has.aC W #[.int .u8 88] t rfl).cell 0)
 have pI:IntKind.u8.wrap 88=88:=by decide
 have cW:=hid aH;have ey:=hid (fun W=>dw v 1 (by omega) (by omega) W);have f0: ¬ (v:Int)<24:=by omega
 have f1:(v:Int)<256:=by omega
 clear aH h1 h2;go_enter func23,ntmps23;go_wp2_with fail
 clear f0 f1;go_region_held (fun _=>True) (trivial) ((go_at_call 57;refine(ey.out _).mono ?_;rintro e w4 ⟨rfl,k4⟩;try have c4:=cW.out w4 w.heap.size (k4.cell ((Has.aC w #[.int .u8 88] _ rfl).cell 0) (by simp))))
 all_goals
  go_wp2_with fail
  go_ret;refine⟨rfl,?_⟩;first
   |exact(((I.refl [] w).alloc _).drew).trans k4
   |exact(((I.refl [] w).drew).trans k4).alloc _
   |exact(((I.refl [] w).drew).alloc _).trans k4
   |exact((((I.refl [] w).drew).trans k4).alloc _).drew
theorem Ox (v:Nat) (h1:256≤v) (h2:v<65536) (w:World):Calls prog 23 #[.int .i64 2,.int .u64 v] w fun r w'=>r= .returned (.string (⟨#[89]⟩++bytesOf (bf v 2)))∧I [] w w':=by
 have aH: ∀ (W:World) (g:Nat),W.cell? ⟨g,0,none⟩=some (.int .u8 89)→(convert 63 9 (.slice (some ⟨g,0,none⟩) 1 1)).run prog W= .ok (.string ⟨#[89]⟩) W:=fun W g hg=>
  run_convert_bytes_back W 63 9 5 ⟨g,0,none⟩ 1 [89] underlying63 underlying5 underlying9 (fun j hj=>by
   obtain rfl:j=0:=by simp at hj;omega
   exact hg)
 have eE: ∀ (W:World) (t:TypeId),(convert 63 9 (.slice (some ⟨W.heap.size,0,none⟩) 1 1)).run prog (W.alloc (.cells #[.int .u8 89] t))= .ok (.string ⟨#[89]⟩) (W.alloc (.cells #[.int .u8 89] t)):=fun W t=>aH _ _ ((Has.aC W #[.int .u8 89] t rfl).cell 0)
 have eF: ∀ (W:World) (t:TypeId),(convert 63 9 (.slice (some ⟨W.heap.size,0,none⟩) 1 1)).run prog (W.alloc (.cells #[.int .u8 89] t)).drew= .ok (.string ⟨#[89]⟩) (W.alloc (.cells #[.int .u8 89] t)).drew:=fun W t=>aH _ _ ((Has.aC W #[.int .u8 89] t rfl).cell 0)
 have pI:IntKind.u8.wrap 89=89:=by decide
 have cW:=hid aH;have ey:=hid (fun W=>dw v 2 (by omega) (by omega) W);have f0: ¬ (v:Int)<24:=by omega
 have f1: ¬ (v:Int)<256:=by omega
 have f2:(v:Int)<65536:=by omega
 clear aH h1 h2;go_enter func23,ntmps23;go_wp2_with fail
 clear f0 f1 f2;go_region_held (fun _=>True) (trivial) ((go_at_call 57;refine(ey.out _).mono ?_;rintro e w4 ⟨rfl,k4⟩;try have c4:=cW.out w4 w.heap.size (k4.cell ((Has.aC w #[.int .u8 89] _ rfl).cell 0) (by simp))))
 all_goals
  go_wp2_with fail
  go_ret;refine⟨rfl,?_⟩;first
   |exact(((I.refl [] w).alloc _).drew).trans k4
   |exact(((I.refl [] w).drew).trans k4).alloc _
   |exact(((I.refl [] w).drew).alloc _).trans k4
   |exact((((I.refl [] w).drew).trans k4).alloc _).drew
theorem Oy (v:Nat) (h1:65536≤v) (h2:v<4294967296) (w:World):Calls prog 23 #[.int .i64 2,.int .u64 v] w fun r w'=>r= .returned (.string (⟨#[90]⟩++bytesOf (bf v 4)))∧I [] w w':=by
 have aH: ∀ (W:World) (g:Nat),W.cell? ⟨g,0,none⟩=some (.int .u8 90)→(convert 63 9 (.slice (some ⟨g,0,none⟩) 1 1)).run prog W= .ok (.string ⟨#[90]⟩) W:=fun W g hg=>
  run_convert_bytes_back W 63 9 5 ⟨g,0,none⟩ 1 [90] underlying63 underlying5 underlying9 (fun j hj=>by
   obtain rfl:j=0:=by simp at hj;omega
   exact hg)
 have eE: ∀ (W:World) (t:TypeId),(convert 63 9 (.slice (some ⟨W.heap.size,0,none⟩) 1 1)).run prog (W.alloc (.cells #[.int .u8 90] t))= .ok (.string ⟨#[90]⟩) (W.alloc (.cells #[.int .u8 90] t)):=fun W t=>aH _ _ ((Has.aC W #[.int .u8 90] t rfl).cell 0)
 have eF: ∀ (W:World) (t:TypeId),(convert 63 9 (.slice (some ⟨W.heap.size,0,none⟩) 1 1)).run prog (W.alloc (.cells #[.int .u8 90] t)).drew= .ok (.string ⟨#[90]⟩) (W.alloc (.cells #[.int .u8 90] t)).drew:=fun W t=>aH _ _ ((Has.aC W #[.int .u8 90] t rfl).cell 0)
 have pI:IntKind.u8.wrap 90=90:=by decide
 have cW:=hid aH;have ey:=hid (fun W=>dw v 4 (by omega) (by omega) W);have f0: ¬ (v:Int)<24:=by omega
 have f1: ¬ (v:Int)<256:=by omega
 have f2: ¬ (v:Int)<65536:=by omega
 have f3:(v:Int)<4294967296:=by omega
 clear aH h1 h2;go_enter func23,ntmps23;go_wp2_with fail
 clear f0 f1 f2 f3;go_region_held (fun _=>True) (trivial) ((go_at_call 57;refine(ey.out _).mono ?_;rintro e w4 ⟨rfl,k4⟩;try have c4:=cW.out w4 w.heap.size (k4.cell ((Has.aC w #[.int .u8 90] _ rfl).cell 0) (by simp))))
 all_goals
  go_wp2_with fail
  go_ret;refine⟨rfl,?_⟩;first
   |exact(((I.refl [] w).alloc _).drew).trans k4
   |exact(((I.refl [] w).drew).trans k4).alloc _
   |exact(((I.refl [] w).drew).alloc _).trans k4
   |exact((((I.refl [] w).drew).trans k4).alloc _).drew
theorem Oz (v:Nat) (h1:4294967296≤v) (h2:v<18446744073709551616) (w:World):Calls prog 23 #[.int .i64 2,.int .u64 v] w fun r w'=>r= .returned (.string (⟨#[91]⟩++bytesOf (bf v 8)))∧I [] w w':=by
 have aH: ∀ (W:World) (g:Nat),W.cell? ⟨g,0,none⟩=some (.int .u8 91)→(convert 63 9 (.slice (some ⟨g,0,none⟩) 1 1)).run prog W= .ok (.string ⟨#[91]⟩) W:=fun W g hg=>
  run_convert_bytes_back W 63 9 5 ⟨g,0,none⟩ 1 [91] underlying63 underlying5 underlying9 (fun j hj=>by
   obtain rfl:j=0:=by simp at hj;omega
   exact hg)
 have eE: ∀ (W:World) (t:TypeId),(convert 63 9 (.slice (some ⟨W.heap.size,0,none⟩) 1 1)).run prog (W.alloc (.cells #[.int .u8 91] t))= .ok (.string ⟨#[91]⟩) (W.alloc (.cells #[.int .u8 91] t)):=fun W t=>aH _ _ ((Has.aC W #[.int .u8 91] t rfl).cell 0)
 have eF: ∀ (W:World) (t:TypeId),(convert 63 9 (.slice (some ⟨W.heap.size,0,none⟩) 1 1)).run prog (W.alloc (.cells #[.int .u8 91] t)).drew= .ok (.string ⟨#[91]⟩) (W.alloc (.cells #[.int .u8 91] t)).drew:=fun W t=>aH _ _ ((Has.aC W #[.int .u8 91] t rfl).cell 0)
 have pI:IntKind.u8.wrap 91=91:=by decide
 have cW:=hid aH;have ey:=hid (fun W=>dw v 8 (by omega) (by omega) W);have f0: ¬ (v:Int)<24:=by omega
 have f1: ¬ (v:Int)<256:=by omega
 have f2: ¬ (v:Int)<65536:=by omega
 have f3: ¬ (v:Int)<4294967296:=by omega
 clear aH h1 h2;go_enter func23,ntmps23;go_wp2_with fail
 clear f0 f1 f2 f3;go_region_held (fun _=>True) (trivial) ((go_at_call 57;refine(ey.out _).mono ?_;rintro e w4 ⟨rfl,k4⟩;try have c4:=cW.out w4 w.heap.size (k4.cell ((Has.aC w #[.int .u8 91] _ rfl).cell 0) (by simp))))
 all_goals
  go_wp2_with fail
  go_ret;refine⟨rfl,?_⟩;first
   |exact(((I.refl [] w).alloc _).drew).trans k4
   |exact(((I.refl [] w).drew).trans k4).alloc _
   |exact(((I.refl [] w).drew).alloc _).trans k4
   |exact((((I.refl [] w).drew).trans k4).alloc _).drew
open Go.K4 in
theorem OA (v:Nat) (h2:v<24) (w:World):Calls prog 23 #[.int .i64 3,.int .u64 v] w fun r w'=>r= .returned (.string (bytesOf [UInt8.ofNat (96+v)]))∧I [] w w':=YC
theorem OB (v:Nat) (h1:24≤v) (h2:v<256) (w:World):Calls prog 23 #[.int .i64 3,.int .u64 v] w fun r w'=>r= .returned (.string (⟨#[120]⟩++bytesOf (bf v 1)))∧I [] w w':=by
 have aH: ∀ (W:World) (g:Nat),W.cell? ⟨g,0,none⟩=some (.int .u8 120)→(convert 63 9 (.slice (some ⟨g,0,none⟩) 1 1)).run prog W= .ok (.string ⟨#[120]⟩) W:=fun W g hg=>
  run_convert_bytes_back W 63 9 5 ⟨g,0,none⟩ 1 [120] underlying63 underlying5 underlying9 (fun j hj=>by
   obtain rfl:j=0:=by simp at hj;omega
   exact hg)
 have eE: ∀ (W:World) (t:TypeId),(convert 63 9 (.slice (some ⟨W.heap.size,0,none⟩) 1 1)).run prog (W.alloc (.cells #[.int .u8 120] t))= .ok (.string ⟨#[120]⟩) (W.alloc (.cells #[.int .u8 120] t)):=fun W t=>aH _ _ ((Has.aC W #[.int .u8 120] t rfl).cell 0)
 have eF: ∀ (W:World) (t:TypeId),(convert 63 9 (.slice (some ⟨W.heap.size,0,none⟩) 1 1)).run prog (W.alloc (.cells #[.int .u8 120] t)).drew= .ok (.string ⟨#[120]⟩) (W.alloc (.cells #[.int .u8 120] t)).drew:=fun W t=>aH _ _ ((Has.aC W #[.int .u8 120] t rfl).cell 0)
 have pI:IntKind.u8.wrap 120=120:=by decide
 have cW:=hid aH;have ey:=hid (fun W=>dw v 1 (by omega) (by omega) W);have f0: ¬ (v:Int)<24:=by omega
 have f1:(v:Int)<256:=by omega
 clear aH h1 h2;go_enter func23,ntmps23;go_wp2_with fail
 clear f0 f1;go_region_held (fun _=>True) (trivial) ((go_at_call 57;refine(ey.out _).mono ?_;rintro e w4 ⟨rfl,k4⟩;try have c4:=cW.out w4 w.heap.size (k4.cell ((Has.aC w #[.int .u8 120] _ rfl).cell 0) (by simp))))
 all_goals
  go_wp2_with fail
  go_ret;refine⟨rfl,?_⟩;first
   |exact(((I.refl [] w).alloc _).drew).trans k4
   |exact(((I.refl [] w).drew).trans k4).alloc _
   |exact(((I.refl [] w).drew).alloc _).trans k4
   |exact((((I.refl [] w).drew).trans k4).alloc _).drew
theorem OC (v:Nat) (h1:256≤v) (h2:v<65536) (w:World):Calls prog 23 #[.int .i64 3,.int .u64 v] w fun r w'=>r= .returned (.string (⟨#[121]⟩++bytesOf (bf v 2)))∧I [] w w':=by
 have aH: ∀ (W:World) (g:Nat),W.cell? ⟨g,0,none⟩=some (.int .u8 121)→(convert 63 9 (.slice (some ⟨g,0,none⟩) 1 1)).run prog W= .ok (.string ⟨#[121]⟩) W:=fun W g hg=>
  run_convert_bytes_back W 63 9 5 ⟨g,0,none⟩ 1 [121] underlying63 underlying5 underlying9 (fun j hj=>by
   obtain rfl:j=0:=by simp at hj;omega
   exact hg)
 have eE: ∀ (W:World) (t:TypeId),(convert 63 9 (.slice (some ⟨W.heap.size,0,none⟩) 1 1)).run prog (W.alloc (.cells #[.int .u8 121] t))= .ok (.string ⟨#[121]⟩) (W.alloc (.cells #[.int .u8 121] t)):=fun W t=>aH _ _ ((Has.aC W #[.int .u8 121] t rfl).cell 0)
 have eF: ∀ (W:World) (t:TypeId),(convert 63 9 (.slice (some ⟨W.heap.size,0,none⟩) 1 1)).run prog (W.alloc (.cells #[.int .u8 121] t)).drew= .ok (.string ⟨#[121]⟩) (W.alloc (.cells #[.int .u8 121] t)).drew:=fun W t=>aH _ _ ((Has.aC W #[.int .u8 121] t rfl).cell 0)
 have pI:IntKind.u8.wrap 121=121:=by decide
 have cW:=hid aH;have ey:=hid (fun W=>dw v 2 (by omega) (by omega) W);have f0: ¬ (v:Int)<24:=by omega
 have f1: ¬ (v:Int)<256:=by omega
 have f2:(v:Int)<65536:=by omega
 clear aH h1 h2;go_enter func23,ntmps23;go_wp2_with fail
 clear f0 f1 f2;go_region_held (fun _=>True) (trivial) ((go_at_call 57;refine(ey.out _).mono ?_;rintro e w4 ⟨rfl,k4⟩;try have c4:=cW.out w4 w.heap.size (k4.cell ((Has.aC w #[.int .u8 121] _ rfl).cell 0) (by simp))))
 all_goals
  go_wp2_with fail
  go_ret;refine⟨rfl,?_⟩;first
   |exact(((I.refl [] w).alloc _).drew).trans k4
   |exact(((I.refl [] w).drew).trans k4).alloc _
   |exact(((I.refl [] w).drew).alloc _).trans k4
   |exact((((I.refl [] w).drew).trans k4).alloc _).drew
theorem OD (v:Nat) (h1:65536≤v) (h2:v<4294967296) (w:World):Calls prog 23 #[.int .i64 3,.int .u64 v] w fun r w'=>r= .returned (.string (⟨#[122]⟩++bytesOf (bf v 4)))∧I [] w w':=by
 have aH: ∀ (W:World) (g:Nat),W.cell? ⟨g,0,none⟩=some (.int .u8 122)→(convert 63 9 (.slice (some ⟨g,0,none⟩) 1 1)).run prog W= .ok (.string ⟨#[122]⟩) W:=fun W g hg=>
  run_convert_bytes_back W 63 9 5 ⟨g,0,none⟩ 1 [122] underlying63 underlying5 underlying9 (fun j hj=>by
   obtain rfl:j=0:=by simp at hj;omega
   exact hg)
 have eE: ∀ (W:World) (t:TypeId),(convert 63 9 (.slice (some ⟨W.heap.size,0,none⟩) 1 1)).run prog (W.alloc (.cells #[.int .u8 122] t))= .ok (.string ⟨#[122]⟩) (W.alloc (.cells #[.int .u8 122] t)):=fun W t=>aH _ _ ((Has.aC W #[.int .u8 122] t rfl).cell 0)
 have eF: ∀ (W:World) (t:TypeId),(convert 63 9 (.slice (some ⟨W.heap.size,0,none⟩) 1 1)).run prog (W.alloc (.cells #[.int .u8 122] t)).drew= .ok (.string ⟨#[122]⟩) (W.alloc (.cells #[.int .u8 122] t)).drew:=fun W t=>aH _ _ ((Has.aC W #[.int .u8 122] t rfl).cell 0)
 have pI:IntKind.u8.wrap 122=122:=by decide
 have cW:=hid aH;have ey:=hid (fun W=>dw v 4 (by omega) (by omega) W);have f0: ¬ (v:Int)<24:=by omega
 have f1: ¬ (v:Int)<256:=by omega
 have f2: ¬ (v:Int)<65536:=by omega
 have f3:(v:Int)<4294967296:=by omega
 clear aH h1 h2;go_enter func23,ntmps23;go_wp2_with fail
 clear f0 f1 f2 f3;go_region_held (fun _=>True) (trivial) ((go_at_call 57;refine(ey.out _).mono ?_;rintro e w4 ⟨rfl,k4⟩;try have c4:=cW.out w4 w.heap.size (k4.cell ((Has.aC w #[.int .u8 122] _ rfl).cell 0) (by simp))))
 all_goals
  go_wp2_with fail
  go_ret;refine⟨rfl,?_⟩;first
   |exact(((I.refl [] w).alloc _).drew).trans k4
   |exact(((I.refl [] w).drew).trans k4).alloc _
   |exact(((I.refl [] w).drew).alloc _).trans k4
   |exact((((I.refl [] w).drew).trans k4).alloc _).drew
theorem OE (v:Nat) (h1:4294967296≤v) (h2:v<18446744073709551616) (w:World):Calls prog 23 #[.int .i64 3,.int .u64 v] w fun r w'=>r= .returned (.string (⟨#[123]⟩++bytesOf (bf v 8)))∧I [] w w':=by
 have aH: ∀ (W:World) (g:Nat),W.cell? ⟨g,0,none⟩=some (.int .u8 123)→(convert 63 9 (.slice (some ⟨g,0,none⟩) 1 1)).run prog W= .ok (.string ⟨#[123]⟩) W:=fun W g hg=>
  run_convert_bytes_back W 63 9 5 ⟨g,0,none⟩ 1 [123] underlying63 underlying5 underlying9 (fun j hj=>by
   obtain rfl:j=0:=by simp at hj;omega
   exact hg)
 have eE: ∀ (W:World) (t:TypeId),(convert 63 9 (.slice (some ⟨W.heap.size,0,none⟩) 1 1)).run prog (W.alloc (.cells #[.int .u8 123] t))= .ok (.string ⟨#[123]⟩) (W.alloc (.cells #[.int .u8 123] t)):=fun W t=>aH _ _ ((Has.aC W #[.int .u8 123] t rfl).cell 0)
 have eF: ∀ (W:World) (t:TypeId),(convert 63 9 (.slice (some ⟨W.heap.size,0,none⟩) 1 1)).run prog (W.alloc (.cells #[.int .u8 123] t)).drew= .ok (.string ⟨#[123]⟩) (W.alloc (.cells #[.int .u8 123] t)).drew:=fun W t=>aH _ _ ((Has.aC W #[.int .u8 123] t rfl).cell 0)
 have pI:IntKind.u8.wrap 123=123:=by decide
 have cW:=hid aH;have ey:=hid (fun W=>dw v 8 (by omega) (by omega) W);have f0: ¬ (v:Int)<24:=by omega
 have f1: ¬ (v:Int)<256:=by omega
 have f2: ¬ (v:Int)<65536:=by omega
 have f3: ¬ (v:Int)<4294967296:=by omega
 clear aH h1 h2;go_enter func23,ntmps23;go_wp2_with fail
 clear f0 f1 f2 f3;go_region_held (fun _=>True) (trivial) ((go_at_call 57;refine(ey.out _).mono ?_;rintro e w4 ⟨rfl,k4⟩;try have c4:=cW.out w4 w.heap.size (k4.cell ((Has.aC w #[.int .u8 123] _ rfl).cell 0) (by simp))))
 all_goals
  go_wp2_with fail
  go_ret;refine⟨rfl,?_⟩;first
   |exact(((I.refl [] w).alloc _).drew).trans k4
   |exact(((I.refl [] w).drew).trans k4).alloc _
   |exact(((I.refl [] w).drew).alloc _).trans k4
   |exact((((I.refl [] w).drew).trans k4).alloc _).drew
open Go.K0 in
theorem OG (v:Nat) (h2:v<24) (w:World):Calls prog 23 #[.int .i64 4,.int .u64 v] w fun r w'=>r= .returned (.string (bytesOf [UInt8.ofNat (128+v)]))∧I [] w w':=YC
theorem OH (v:Nat) (h1:24≤v) (h2:v<256) (w:World):Calls prog 23 #[.int .i64 4,.int .u64 v] w fun r w'=>r= .returned (.string (⟨#[152]⟩++bytesOf (bf v 1)))∧I [] w w':=by
 have aH: ∀ (W:World) (g:Nat),W.cell? ⟨g,0,none⟩=some (.int .u8 152)→(convert 63 9 (.slice (some ⟨g,0,none⟩) 1 1)).run prog W= .ok (.string ⟨#[152]⟩) W:=fun W g hg=>
  run_convert_bytes_back W 63 9 5 ⟨g,0,none⟩ 1 [152] underlying63 underlying5 underlying9 (fun j hj=>by
   obtain rfl:j=0:=by simp at hj;omega
   exact hg)
 have eE: ∀ (W:World) (t:TypeId),(convert 63 9 (.slice (some ⟨W.heap.size,0,none⟩) 1 1)).run prog (W.alloc (.cells #[.int .u8 152] t))= .ok (.string ⟨#[152]⟩) (W.alloc (.cells #[.int .u8 152] t)):=fun W t=>aH _ _ ((Has.aC W #[.int .u8 152] t rfl).cell 0)
 have eF: ∀ (W:World) (t:TypeId),(convert 63 9 (.slice (some ⟨W.heap.size,0,none⟩) 1 1)).run prog (W.alloc (.cells #[.int .u8 152] t)).drew= .ok (.string ⟨#[152]⟩) (W.alloc (.cells #[.int .u8 152] t)).drew:=fun W t=>aH _ _ ((Has.aC W #[.int .u8 152] t rfl).cell 0)
 have pI:IntKind.u8.wrap 152=152:=by decide
 have cW:=hid aH;have ey:=hid (fun W=>dw v 1 (by omega) (by omega) W);have f0: ¬ (v:Int)<24:=by omega
 have f1:(v:Int)<256:=by omega
 clear aH h1 h2;go_enter func23,ntmps23;go_wp2_with fail
 clear f0 f1;go_region_held (fun _=>True) (trivial) ((go_at_call 57;refine(ey.out _).mono ?_;rintro e w4 ⟨rfl,k4⟩;try have c4:=cW.out w4 w.heap.size (k4.cell ((Has.aC w #[.int .u8 152] _ rfl).cell 0) (by simp))))
 all_goals
  go_wp2_with fail
  go_ret;refine⟨rfl,?_⟩;first
   |exact(((I.refl [] w).alloc _).drew).trans k4
   |exact(((I.refl [] w).drew).trans k4).alloc _
   |exact(((I.refl [] w).drew).alloc _).trans k4
   |exact((((I.refl [] w).drew).trans k4).alloc _).drew
theorem OI (v:Nat) (h1:256≤v) (h2:v<65536) (w:World):Calls prog 23 #[.int .i64 4,.int .u64 v] w fun r w'=>r= .returned (.string (⟨#[153]⟩++bytesOf (bf v 2)))∧I [] w w':=by
 have aH: ∀ (W:World) (g:Nat),W.cell? ⟨g,0,none⟩=some (.int .u8 153)→(convert 63 9 (.slice (some ⟨g,0,none⟩) 1 1)).run prog W= .ok (.string ⟨#[153]⟩) W:=fun W g hg=>
  run_convert_bytes_back W 63 9 5 ⟨g,0,none⟩ 1 [153] underlying63 underlying5 underlying9 (fun j hj=>by
   obtain rfl:j=0:=by simp at hj;omega
   exact hg)
 have eE: ∀ (W:World) (t:TypeId),(convert 63 9 (.slice (some ⟨W.heap.size,0,none⟩) 1 1)).run prog (W.alloc (.cells #[.int .u8 153] t))= .ok (.string ⟨#[153]⟩) (W.alloc (.cells #[.int .u8 153] t)):=fun W t=>aH _ _ ((Has.aC W #[.int .u8 153] t rfl).cell 0)
 have eF: ∀ (W:World) (t:TypeId),(convert 63 9 (.slice (some ⟨W.heap.size,0,none⟩) 1 1)).run prog (W.alloc (.cells #[.int .u8 153] t)).drew= .ok (.string ⟨#[153]⟩) (W.alloc (.cells #[.int .u8 153] t)).drew:=fun W t=>aH _ _ ((Has.aC W #[.int .u8 153] t rfl).cell 0)
 have pI:IntKind.u8.wrap 153=153:=by decide
 have cW:=hid aH;have ey:=hid (fun W=>dw v 2 (by omega) (by omega) W);have f0: ¬ (v:Int)<24:=by omega
 have f1: ¬ (v:Int)<256:=by omega
 have f2:(v:Int)<65536:=by omega
 clear aH h1 h2;go_enter func23,ntmps23;go_wp2_with fail
 clear f0 f1 f2;go_region_held (fun _=>True) (trivial) ((go_at_call 57;refine(ey.out _).mono ?_;rintro e w4 ⟨rfl,k4⟩;try have c4:=cW.out w4 w.heap.size (k4.cell ((Has.aC w #[.int .u8 153] _ rfl).cell 0) (by simp))))
 all_goals
  go_wp2_with fail
  go_ret;refine⟨rfl,?_⟩;first
   |exact(((I.refl [] w).alloc _).drew).trans k4
   |exact(((I.refl [] w).drew).trans k4).alloc _
   |exact(((I.refl [] w).drew).alloc _).trans k4
   |exact((((I.refl [] w).drew).trans k4).alloc _).drew
theorem OJ (v:Nat) (h1:65536≤v) (h2:v<4294967296) (w:World):Calls prog 23 #[.int .i64 4,.int .u64 v] w fun r w'=>r= .returned (.string (⟨#[154]⟩++bytesOf (bf v 4)))∧I [] w w':=by
 have aH: ∀ (W:World) (g:Nat),W.cell? ⟨g,0,none⟩=some (.int .u8 154)→(convert 63 9 (.slice (some ⟨g,0,none⟩) 1 1)).run prog W= .ok (.string ⟨#[154]⟩) W:=fun W g hg=>
  run_convert_bytes_back W 63 9 5 ⟨g,0,none⟩ 1 [154] underlying63 underlying5 underlying9 (fun j hj=>by
   obtain rfl:j=0:=by simp at hj;omega
   exact hg)
 have eE: ∀ (W:World) (t:TypeId),(convert 63 9 (.slice (some ⟨W.heap.size,0,none⟩) 1 1)).run prog (W.alloc (.cells #[.int .u8 154] t))= .ok (.string ⟨#[154]⟩) (W.alloc (.cells #[.int .u8 154] t)):=fun W t=>aH _ _ ((Has.aC W #[.int .u8 154] t rfl).cell 0)
 have eF: ∀ (W:World) (t:TypeId),(convert 63 9 (.slice (some ⟨W.heap.size,0,none⟩) 1 1)).run prog (W.alloc (.cells #[.int .u8 154] t)).drew= .ok (.string ⟨#[154]⟩) (W.alloc (.cells #[.int .u8 154] t)).drew:=fun W t=>aH _ _ ((Has.aC W #[.int .u8 154] t rfl).cell 0)
 have pI:IntKind.u8.wrap 154=154:=by decide
 have cW:=hid aH;have ey:=hid (fun W=>dw v 4 (by omega) (by omega) W);have f0: ¬ (v:Int)<24:=by omega
 have f1: ¬ (v:Int)<256:=by omega
 have f2: ¬ (v:Int)<65536:=by omega
 have f3:(v:Int)<4294967296:=by omega
 clear aH h1 h2;go_enter func23,ntmps23;go_wp2_with fail
 clear f0 f1 f2 f3;go_region_held (fun _=>True) (trivial) ((go_at_call 57;refine(ey.out _).mono ?_;rintro e w4 ⟨rfl,k4⟩;try have c4:=cW.out w4 w.heap.size (k4.cell ((Has.aC w #[.int .u8 154] _ rfl).cell 0) (by simp))))
 all_goals
  go_wp2_with fail
  go_ret;refine⟨rfl,?_⟩;first
   |exact(((I.refl [] w).alloc _).drew).trans k4
   |exact(((I.refl [] w).drew).trans k4).alloc _
   |exact(((I.refl [] w).drew).alloc _).trans k4
   |exact((((I.refl [] w).drew).trans k4).alloc _).drew
theorem OL (v:Nat) (h1:4294967296≤v) (h2:v<18446744073709551616) (w:World):Calls prog 23 #[.int .i64 4,.int .u64 v] w fun r w'=>r= .returned (.string (⟨#[155]⟩++bytesOf (bf v 8)))∧I [] w w':=by
 have aH: ∀ (W:World) (g:Nat),W.cell? ⟨g,0,none⟩=some (.int .u8 155)→(convert 63 9 (.slice (some ⟨g,0,none⟩) 1 1)).run prog W= .ok (.string ⟨#[155]⟩) W:=fun W g hg=>
  run_convert_bytes_back W 63 9 5 ⟨g,0,none⟩ 1 [155] underlying63 underlying5 underlying9 (fun j hj=>by
   obtain rfl:j=0:=by simp at hj;omega
   exact hg)
 have eE: ∀ (W:World) (t:TypeId),(convert 63 9 (.slice (some ⟨W.heap.size,0,none⟩) 1 1)).run prog (W.alloc (.cells #[.int .u8 155] t))= .ok (.string ⟨#[155]⟩) (W.alloc (.cells #[.int .u8 155] t)):=fun W t=>aH _ _ ((Has.aC W #[.int .u8 155] t rfl).cell 0)
 have eF: ∀ (W:World) (t:TypeId),(convert 63 9 (.slice (some ⟨W.heap.size,0,none⟩) 1 1)).run prog (W.alloc (.cells #[.int .u8 155] t)).drew= .ok (.string ⟨#[155]⟩) (W.alloc (.cells #[.int .u8 155] t)).drew:=fun W t=>aH _ _ ((Has.aC W #[.int .u8 155] t rfl).cell 0)
 have pI:IntKind.u8.wrap 155=155:=by decide
 have cW:=hid aH;have ey:=hid (fun W=>dw v 8 (by omega) (by omega) W);have f0: ¬ (v:Int)<24:=by omega
 have f1: ¬ (v:Int)<256:=by omega
 have f2: ¬ (v:Int)<65536:=by omega
 have f3: ¬ (v:Int)<4294967296:=by omega
 clear aH h1 h2;go_enter func23,ntmps23;go_wp2_with fail
 clear f0 f1 f2 f3;go_region_held (fun _=>True) (trivial) ((go_at_call 57;refine(ey.out _).mono ?_;rintro e w4 ⟨rfl,k4⟩;try have c4:=cW.out w4 w.heap.size (k4.cell ((Has.aC w #[.int .u8 155] _ rfl).cell 0) (by simp))))
 all_goals
  go_wp2_with fail
  go_ret;refine⟨rfl,?_⟩;first
   |exact(((I.refl [] w).alloc _).drew).trans k4
   |exact(((I.refl [] w).drew).trans k4).alloc _
   |exact(((I.refl [] w).drew).alloc _).trans k4
   |exact((((I.refl [] w).drew).trans k4).alloc _).drew
open Go.K1 in
theorem OM (v:Nat) (h2:v<24) (w:World):Calls prog 23 #[.int .i64 5,.int .u64 v] w fun r w'=>r= .returned (.string (bytesOf [UInt8.ofNat (160+v)]))∧I [] w w':=YC
theorem ON (v:Nat) (h1:24≤v) (h2:v<256) (w:World):Calls prog 23 #[.int .i64 5,.int .u64 v] w fun r w'=>r= .returned (.string (⟨#[184]⟩++bytesOf (bf v 1)))∧I [] w w':=by
 have aH: ∀ (W:World) (g:Nat),W.cell? ⟨g,0,none⟩=some (.int .u8 184)→(convert 63 9 (.slice (some ⟨g,0,none⟩) 1 1)).run prog W= .ok (.string ⟨#[184]⟩) W:=fun W g hg=>
  run_convert_bytes_back W 63 9 5 ⟨g,0,none⟩ 1 [184] underlying63 underlying5 underlying9 (fun j hj=>by
   obtain rfl:j=0:=by simp at hj;omega
   exact hg)
 have eE: ∀ (W:World) (t:TypeId),(convert 63 9 (.slice (some ⟨W.heap.size,0,none⟩) 1 1)).run prog (W.alloc (.cells #[.int .u8 184] t))= .ok (.string ⟨#[184]⟩) (W.alloc (.cells #[.int .u8 184] t)):=fun W t=>aH _ _ ((Has.aC W #[.int .u8 184] t rfl).cell 0)
 have eF: ∀ (W:World) (t:TypeId),(convert 63 9 (.slice (some ⟨W.heap.size,0,none⟩) 1 1)).run prog (W.alloc (.cells #[.int .u8 184] t)).drew= .ok (.string ⟨#[184]⟩) (W.alloc (.cells #[.int .u8 184] t)).drew:=fun W t=>aH _ _ ((Has.aC W #[.int .u8 184] t rfl).cell 0)
 have pI:IntKind.u8.wrap 184=184:=by decide
 have cW:=hid aH;have ey:=hid (fun W=>dw v 1 (by omega) (by omega) W);have f0: ¬ (v:Int)<24:=by omega
 have f1:(v:Int)<256:=by omega
 clear aH h1 h2;go_enter func23,ntmps23;go_wp2_with fail
 clear f0 f1;go_region_held (fun _=>True) (trivial) ((go_at_call 57;refine(ey.out _).mono ?_;rintro e w4 ⟨rfl,k4⟩;try have c4:=cW.out w4 w.heap.size (k4.cell ((Has.aC w #[.int .u8 184] _ rfl).cell 0) (by simp))))
 all_goals
  go_wp2_with fail
  go_ret;refine⟨rfl,?_⟩;first
   |exact(((I.refl [] w).alloc _).drew).trans k4
   |exact(((I.refl [] w).drew).trans k4).alloc _
   |exact(((I.refl [] w).drew).alloc _).trans k4
   |exact((((I.refl [] w).drew).trans k4).alloc _).drew
theorem OP (v:Nat) (h1:256≤v) (h2:v<65536) (w:World):Calls prog 23 #[.int .i64 5,.int .u64 v] w fun r w'=>r= .returned (.string (⟨#[185]⟩++bytesOf (bf v 2)))∧I [] w w':=by
 have aH: ∀ (W:World) (g:Nat),W.cell? ⟨g,0,none⟩=some (.int .u8 185)→(convert 63 9 (.slice (some ⟨g,0,none⟩) 1 1)).run prog W= .ok (.string ⟨#[185]⟩) W:=fun W g hg=>
  run_convert_bytes_back W 63 9 5 ⟨g,0,none⟩ 1 [185] underlying63 underlying5 underlying9 (fun j hj=>by
   obtain rfl:j=0:=by simp at hj;omega
   exact hg)
 have eE: ∀ (W:World) (t:TypeId),(convert 63 9 (.slice (some ⟨W.heap.size,0,none⟩) 1 1)).run prog (W.alloc (.cells #[.int .u8 185] t))= .ok (.string ⟨#[185]⟩) (W.alloc (.cells #[.int .u8 185] t)):=fun W t=>aH _ _ ((Has.aC W #[.int .u8 185] t rfl).cell 0)
 have eF: ∀ (W:World) (t:TypeId),(convert 63 9 (.slice (some ⟨W.heap.size,0,none⟩) 1 1)).run prog (W.alloc (.cells #[.int .u8 185] t)).drew= .ok (.string ⟨#[185]⟩) (W.alloc (.cells #[.int .u8 185] t)).drew:=fun W t=>aH _ _ ((Has.aC W #[.int .u8 185] t rfl).cell 0)
 have pI:IntKind.u8.wrap 185=185:=by decide
 have cW:=hid aH;have ey:=hid (fun W=>dw v 2 (by omega) (by omega) W);have f0: ¬ (v:Int)<24:=by omega
 have f1: ¬ (v:Int)<256:=by omega
 have f2:(v:Int)<65536:=by omega
 clear aH h1 h2;go_enter func23,ntmps23;go_wp2_with fail
 clear f0 f1 f2;go_region_held (fun _=>True) (trivial) ((go_at_call 57;refine(ey.out _).mono ?_;rintro e w4 ⟨rfl,k4⟩;try have c4:=cW.out w4 w.heap.size (k4.cell ((Has.aC w #[.int .u8 185] _ rfl).cell 0) (by simp))))
 all_goals
  go_wp2_with fail
  go_ret;refine⟨rfl,?_⟩;first
   |exact(((I.refl [] w).alloc _).drew).trans k4
   |exact(((I.refl [] w).drew).trans k4).alloc _
   |exact(((I.refl [] w).drew).alloc _).trans k4
   |exact((((I.refl [] w).drew).trans k4).alloc _).drew
theorem OQ (v:Nat) (h1:65536≤v) (h2:v<4294967296) (w:World):Calls prog 23 #[.int .i64 5,.int .u64 v] w fun r w'=>r= .returned (.string (⟨#[186]⟩++bytesOf (bf v 4)))∧I [] w w':=by
 have aH: ∀ (W:World) (g:Nat),W.cell? ⟨g,0,none⟩=some (.int .u8 186)→(convert 63 9 (.slice (some ⟨g,0,none⟩) 1 1)).run prog W= .ok (.string ⟨#[186]⟩) W:=fun W g hg=>
  run_convert_bytes_back W 63 9 5 ⟨g,0,none⟩ 1 [186] underlying63 underlying5 underlying9 (fun j hj=>by
   obtain rfl:j=0:=by simp at hj;omega
   exact hg)
 have eE: ∀ (W:World) (t:TypeId),(convert 63 9 (.slice (some ⟨W.heap.size,0,none⟩) 1 1)).run prog (W.alloc (.cells #[.int .u8 186] t))= .ok (.string ⟨#[186]⟩) (W.alloc (.cells #[.int .u8 186] t)):=fun W t=>aH _ _ ((Has.aC W #[.int .u8 186] t rfl).cell 0)
 have eF: ∀ (W:World) (t:TypeId),(convert 63 9 (.slice (some ⟨W.heap.size,0,none⟩) 1 1)).run prog (W.alloc (.cells #[.int .u8 186] t)).drew= .ok (.string ⟨#[186]⟩) (W.alloc (.cells #[.int .u8 186] t)).drew:=fun W t=>aH _ _ ((Has.aC W #[.int .u8 186] t rfl).cell 0)
 have pI:IntKind.u8.wrap 186=186:=by decide
 have cW:=hid aH;have ey:=hid (fun W=>dw v 4 (by omega) (by omega) W);have f0: ¬ (v:Int)<24:=by omega
 have f1: ¬ (v:Int)<256:=by omega
 have f2: ¬ (v:Int)<65536:=by omega
 have f3:(v:Int)<4294967296:=by omega
 clear aH h1 h2;go_enter func23,ntmps23;go_wp2_with fail
 clear f0 f1 f2 f3;go_region_held (fun _=>True) (trivial) ((go_at_call 57;refine(ey.out _).mono ?_;rintro e w4 ⟨rfl,k4⟩;try have c4:=cW.out w4 w.heap.size (k4.cell ((Has.aC w #[.int .u8 186] _ rfl).cell 0) (by simp))))
 all_goals
  go_wp2_with fail
  go_ret;refine⟨rfl,?_⟩;first
   |exact(((I.refl [] w).alloc _).drew).trans k4
   |exact(((I.refl [] w).drew).trans k4).alloc _
   |exact(((I.refl [] w).drew).alloc _).trans k4
   |exact((((I.refl [] w).drew).trans k4).alloc _).drew
theorem OR (v:Nat) (h1:4294967296≤v) (h2:v<18446744073709551616) (w:World):Calls prog 23 #[.int .i64 5,.int .u64 v] w fun r w'=>r= .returned (.string (⟨#[187]⟩++bytesOf (bf v 8)))∧I [] w w':=by
 have aH: ∀ (W:World) (g:Nat),W.cell? ⟨g,0,none⟩=some (.int .u8 187)→(convert 63 9 (.slice (some ⟨g,0,none⟩) 1 1)).run prog W= .ok (.string ⟨#[187]⟩) W:=fun W g hg=>
  run_convert_bytes_back W 63 9 5 ⟨g,0,none⟩ 1 [187] underlying63 underlying5 underlying9 (fun j hj=>by
   obtain rfl:j=0:=by simp at hj;omega
   exact hg)
 have eE: ∀ (W:World) (t:TypeId),(convert 63 9 (.slice (some ⟨W.heap.size,0,none⟩) 1 1)).run prog (W.alloc (.cells #[.int .u8 187] t))= .ok (.string ⟨#[187]⟩) (W.alloc (.cells #[.int .u8 187] t)):=fun W t=>aH _ _ ((Has.aC W #[.int .u8 187] t rfl).cell 0)
 have eF: ∀ (W:World) (t:TypeId),(convert 63 9 (.slice (some ⟨W.heap.size,0,none⟩) 1 1)).run prog (W.alloc (.cells #[.int .u8 187] t)).drew= .ok (.string ⟨#[187]⟩) (W.alloc (.cells #[.int .u8 187] t)).drew:=fun W t=>aH _ _ ((Has.aC W #[.int .u8 187] t rfl).cell 0)
 have pI:IntKind.u8.wrap 187=187:=by decide
 have cW:=hid aH;have ey:=hid (fun W=>dw v 8 (by omega) (by omega) W);have f0: ¬ (v:Int)<24:=by omega
 have f1: ¬ (v:Int)<256:=by omega
 have f2: ¬ (v:Int)<65536:=by omega
 have f3: ¬ (v:Int)<4294967296:=by omega
 clear aH h1 h2;go_enter func23,ntmps23;go_wp2_with fail
 clear f0 f1 f2 f3;go_region_held (fun _=>True) (trivial) ((go_at_call 57;refine(ey.out _).mono ?_;rintro e w4 ⟨rfl,k4⟩;try have c4:=cW.out w4 w.heap.size (k4.cell ((Has.aC w #[.int .u8 187] _ rfl).cell 0) (by simp))))
 all_goals
  go_wp2_with fail
  go_ret;refine⟨rfl,?_⟩;first
   |exact(((I.refl [] w).alloc _).drew).trans k4
   |exact(((I.refl [] w).drew).trans k4).alloc _
   |exact(((I.refl [] w).drew).alloc _).trans k4
   |exact((((I.refl [] w).drew).trans k4).alloc _).drew
end Go.Proofs.YthffblhdjjbkaaaGreat
namespace Go.Tru
def aU (M v:Nat):List UInt8:=
 if v<24 then [UInt8.ofNat (32*M+v)]
 else if v<256 then UInt8.ofNat (32*M+24)::bf v 1
 else if v<65536 then UInt8.ofNat (32*M+25)::bf v 2
 else if v<4294967296 then UInt8.ofNat (32*M+26)::bf v 4
 else UInt8.ofNat (32*M+27)::bf v 8
theorem dd (M v:Nat):1≤(aU M v).length∧(aU M v).length≤9:=by
 unfold aU;repeat' split
 all_goals simp[bp]
theorem cP (c:UInt8) (l:List UInt8):(⟨#[c]⟩:ByteArray)++bytesOf l=bytesOf (c::l):=by apply ByteArray.ext;rw[ByteArray.data_append];simp[bytesOf]
end Go.Tru
namespace Go.Proofs.YthffblhdjjbkaaaGreat
open Go.RowKit Go.Tru
theorem cH {f:Nat} {args:Array Value} {w:World} {a b:ByteArray} (h:Calls prog f args w fun r w'=>r= .returned (.string a)∧I [] w w') (e:a=b):Calls prog f args w fun r w'=>r= .returned (.string b)∧I [] w w':=e▸h
theorem SO (v:Nat) (hv:v<18446744073709551616) (w:World):Calls prog 23 #[.int .i64 0,.int .u64 v] w fun r w'=>r= .returned (.string (bytesOf (aU 0 v)))∧I [] w w':=by
 unfold aU;split
 ·rename_i h;exact cH (Oh v h w) rfl
 split
 ·exact cH (Oi v (by omega) (by omega) w) (cP _ _)
 split
 ·exact cH (Oj v (by omega) (by omega) w) (cP _ _)
 split
 ·exact cH (Ol v (by omega) (by omega) w) (cP _ _)
 ·exact cH (Om v (by omega) (by omega) w) (cP _ _)
theorem SP (v:Nat) (hv:v<18446744073709551616) (w:World):Calls prog 23 #[.int .i64 1,.int .u64 v] w fun r w'=>r= .returned (.string (bytesOf (aU 1 v)))∧I [] w w':=by
 unfold aU;split
 ·rename_i h;exact cH (On v h w) rfl
 split
 ·exact cH (Oo v (by omega) (by omega) w) (cP _ _)
 split
 ·exact cH (Oq v (by omega) (by omega) w) (cP _ _)
 split
 ·exact cH (Ot v (by omega) (by omega) w) (cP _ _)
 ·exact cH (Ou v (by omega) (by omega) w) (cP _ _)
theorem SQ (v:Nat) (hv:v<18446744073709551616) (w:World):Calls prog 23 #[.int .i64 2,.int .u64 v] w fun r w'=>r= .returned (.string (bytesOf (aU 2 v)))∧I [] w w':=by
 unfold aU;split
 ·rename_i h;exact cH (Ov v h w) rfl
 split
 ·exact cH (Ow v (by omega) (by omega) w) (cP _ _)
 split
 ·exact cH (Ox v (by omega) (by omega) w) (cP _ _)
 split
 ·exact cH (Oy v (by omega) (by omega) w) (cP _ _)
 ·exact cH (Oz v (by omega) (by omega) w) (cP _ _)
theorem SR (v:Nat) (hv:v<18446744073709551616) (w:World):Calls prog 23 #[.int .i64 3,.int .u64 v] w fun r w'=>r= .returned (.string (bytesOf (aU 3 v)))∧I [] w w':=by
 unfold aU;split
 ·rename_i h;exact cH (OA v h w) rfl
 split
 ·exact cH (OB v (by omega) (by omega) w) (cP _ _)
 split
 ·exact cH (OC v (by omega) (by omega) w) (cP _ _)
 split
 ·exact cH (OD v (by omega) (by omega) w) (cP _ _)
 ·exact cH (OE v (by omega) (by omega) w) (cP _ _)
theorem SS (v:Nat) (hv:v<18446744073709551616) (w:World):Calls prog 23 #[.int .i64 4,.int .u64 v] w fun r w'=>r= .returned (.string (bytesOf (aU 4 v)))∧I [] w w':=by
 unfold aU;split
 ·rename_i h;exact cH (OG v h w) rfl
 split
 ·exact cH (OH v (by omega) (by omega) w) (cP _ _)
 split
 ·exact cH (OI v (by omega) (by omega) w) (cP _ _)
 split
 ·exact cH (OJ v (by omega) (by omega) w) (cP _ _)
 ·exact cH (OL v (by omega) (by omega) w) (cP _ _)
theorem SU (v:Nat) (hv:v<18446744073709551616) (w:World):Calls prog 23 #[.int .i64 5,.int .u64 v] w fun r w'=>r= .returned (.string (bytesOf (aU 5 v)))∧I [] w w':=by
 unfold aU;split
 ·rename_i h;exact cH (OM v h w) rfl
 split
 ·exact cH (ON v (by omega) (by omega) w) (cP _ _)
 split
 ·exact cH (OP v (by omega) (by omega) w) (cP _ _)
 split
 ·exact cH (OQ v (by omega) (by omega) w) (cP _ _)
 ·exact cH (OR v (by omega) (by omega) w) (cP _ _)
theorem jS (M v:Nat) (hM:M≤5) (hv:v<18446744073709551616) (w:World):Calls prog 23 #[.int .i64 M,.int .u64 v] w fun r w'=>r= .returned (.string (bytesOf (aU M v)))∧I [] w w':=by
 rcases(show M=0∨M=1∨M=2∨M=3∨M=4∨M=5 by omega) with rfl|rfl|rfl|rfl|rfl|rfl
 ·exact SO v hv w
 ·exact SP v hv w
 ·exact SQ v hv w
 ·exact SR v hv w
 ·exact SS v hv w
 ·exact SU v hv w
end Go.Proofs.YthffblhdjjbkaaaGreat
namespace Go.Tru
def Cb.cont (t:List Ev×Cb) (r:List UInt8):List Ev×Int:=
 if t.2.c.e≠0 then(t.1,t.2.c.e) else(t.1++(t.2.run r).1,(t.2.run r).2)
theorem jY (p:Cb) (b:UInt8) (r:List UInt8):p.run (b::r)=Cb.cont (p.step b.toNat) r:=rfl
theorem ik {t:List Ev×Cb} (h:t.2.c.e=0) (r:List UInt8):Cb.cont t r=(t.1++(t.2.run r).1,(t.2.run r).2):=by unfold Cb.cont;rw[if_neg (by simp[h])]
theorem ky {p:Cb} (h:p.c.e=0) (r:List UInt8):Cb.cont ([],p) r=p.run r:=by rw[ik h];simp
theorem OS (T:Nat) (rest:List UInt8): ∀ (m:Nat) (p:Cb),p.c.e=0→¬0<p.c.aT→p.begun=true→p.h.aT=(m:Int)+1→p.h.v=((T/256^(m+1):Nat):Int)→p.run (bf T (m+1)++rest)=Cb.cont (Cb.told {p with h:=Hd.zero,begun:=false} p.h.major T false) rest
 |m,p,he,hl,hb,hlk,hv=>by
  have fT:(UInt8.ofNat (T/256^m % 256)).toNat=T/256^m % 256:=by simp
  have dP:p.step ((UInt8.ofNat (T/256^m % 256)).toNat:Int)=p.more ((T/256^m % 256:Nat):Int):=by rw[fT];unfold Cb.step;rw[if_neg (by simp[he]),if_neg hl,if_pos hb]
  have jz:p.h.v*256+((T/256^m % 256:Nat):Int)=((T/256^m:Nat):Int):=by rw[hv,Nat.pow_succ,←Nat.div_div_eq_div_mul];omega
  rw[bf,List.cons_append,jY,dP];cases m with
  |zero=>unfold Cb.more;rw[if_neg (by omega),jz];simp[bf]
  |succ m=>unfold Cb.more;rw[if_pos (by omega),jz];refine(ky (p:={p with h:={p.h with v:=((T/256^(m+1):Nat):Int),aT:=p.h.aT-1},begun:=true}) he _).trans ?_;exact OS T rest m {p with h:={p.h with v:=((T/256^(m+1):Nat):Int),aT:=p.h.aT-1},begun:=true} he hl rfl (by simp only[];omega) rfl
theorem yE {M low:Nat} (hM:M≤5) (h:low<28):((UInt8.ofNat (32*M+low)).toNat:Int)=((32*M+low:Nat):Int):=by
 have:(UInt8.ofNat (32*M+low)).toNat=32*M+low:=by simp;omega
 rw[this]
theorem qH {p:Cb} {M v:Nat} (hM:M≤5) (he:p.c.e=0) (hl: ¬0<p.c.aT) (rest:List UInt8) (dP: ∀low:Nat,low<28→p.step ((32*M+low:Nat):Int)=p.first ((32*M+low:Nat):Int)) (k n:Nat) (hk:k<4) (ju:n+1=2^k) (km:v/256^(n+1)=0):p.run (UInt8.ofNat (32*M+(24+k))::bf v (n+1)++rest)=Cb.cont (Cb.told {p with h:=Hd.zero,begun:=false} M v false) rest:=by
 rw[List.cons_append,jY,yE hM (by omega),dP _ (by omega)];unfold Cb.first;rw[if_neg (by omega),if_pos (by omega)];have e1:((32*M+(24+k):Nat):Int)/32=M:=by omega
 have e2:(2:Int)^(((32*M+(24+k):Nat):Int) % 32-24).toNat=(n:Int)+1:=by rw[show(((32*M+(24+k):Nat):Int) % 32-24).toNat=k by omega,show((n:Int)+1)=((n+1:Nat):Int) by simp,ju];simp
 rw[e1,e2];refine(ky (p:={p with h:=⟨true,false,false,M,(n:Int)+1,0,0⟩,begun:=true}) he _).trans ?_;exact OS v rest n {p with h:=⟨true,false,false,M,(n:Int)+1,0,0⟩,begun:=true} he hl rfl rfl (by simp only[];rw[km];rfl)
theorem OU {p:Cb} {M v:Nat} (hM:M≤5) (hv:v<18446744073709551616) (he:p.c.e=0) (hl: ¬0<p.c.aT) (rest:List UInt8) (dP: ∀low:Nat,low<28→p.step ((32*M+low:Nat):Int)=p.first ((32*M+low:Nat):Int)):p.run (aU M v++rest)=Cb.cont (Cb.told {p with h:=Hd.zero,begun:=false} M v false) rest:=by
 unfold aU;split
 ·rename_i h;rw[List.singleton_append,jY,yE hM (by omega),dP _ (by omega)];unfold Cb.first;rw[if_pos (by omega),show((32*M+v:Nat):Int)/32=M by omega,show((32*M+v:Nat):Int) % 32=v by omega]
 split
 ·rename_i h1 h2;exact qH hM he hl rest dP 0 0 (by omega) rfl (Nat.div_eq_of_lt (by omega))
 split
 ·rename_i h1 h2 h3;exact qH hM he hl rest dP 1 1 (by omega) rfl (Nat.div_eq_of_lt (by omega))
 split
 ·rename_i h1 h2 h3 h4;exact qH hM he hl rest dP 2 3 (by omega) rfl (Nat.div_eq_of_lt (by omega))
 ·exact qH hM he hl rest dP 3 7 (by omega) rfl (Nat.div_eq_of_lt (by omega))
theorem Gi {p:Cb} {M low:Nat} (hM:M≤5) (SV:low<28) (he:p.c.e=0) (hl: ¬0<p.c.aT) (hb:p.begun=false) (hc:p.c.chunks=false) (hd:p.c.done=false) (hk:p.c.atKey=true→M=3) (hf:M=4∨M=5→p.c.full=false):p.step ((32*M+low:Nat):Int)=p.first ((32*M+low:Nat):Int):=by
 unfold Cb.step;rw[if_neg (by simp[he]),if_neg hl,if_neg (by simp[hb]),if_neg (by simp[hc])];unfold Cb.item;rw[if_neg (by simp[hd]),if_neg (by omega),if_neg (by omega),if_neg ?_,if_neg (by omega),if_neg ?_]
 ·rintro⟨h1,h2⟩;rw[hf (by omega)] at h2;cases h2
 ·rintro(⟨h1,h2⟩|h1)
  ·have:=hk h1;omega
  ·omega
/-! ### what is left behind so many bytes -/
/-! ### a number in more bytes than it takes (CborinWide) -/
/-! ### so many parts (CborinCounts) -/
end Go.Tru
