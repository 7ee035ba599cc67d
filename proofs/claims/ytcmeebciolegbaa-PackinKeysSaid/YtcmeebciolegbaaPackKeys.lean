/-
  PackinKeys' walk.
-/
import Derived.Test.YtcmeebciolegbaaPackOne
import Derived.Test.YtcmeebciolegbaaPackKeyPlain
import Derived.Test.YtcmeebciolegbaaRefUtf
import Derived.Test.YtcmeebciolegbaaMask
import Derived.Deep.QuietTactic
import Derived.BigQuiet
namespace Go.Proofs.Ytcmeebciolegbaa
open Go.RowKit Go.Tru

/-- four parts are told, and no error -/
theorem packAll_four {s : ByteArray} {d : Int} {p0 p1 p2 p3 : Ev} {W : World} (hs : s.size ≤ 1000000) (h : packAll s.data.toList d = ([p0, p1, p2, p3], 0)) :
    Calls Try.prog 13 #[.string s, .int .i64 d] W fun r w' => ∃ b off c, r = .returned (.tuple #[.slice (some ⟨b, off, none⟩) 4 c, .int .i64 0]) ∧ EvsIn w' (some ⟨b, off, none⟩) 4 c [p0, p1, p2, p3] ∧ Keeps [] W w' := by
  refine (packAll_any s d W hs).mono ?_
  rintro e w' ⟨v, rfl, hown, k⟩
  rw [h] at hown ⊢
  obtain ⟨o1, c1, rfl, hin⟩ := evsIn_of_owns hown
  obtain ⟨b1, f1, rfl, _⟩ := hin.get (k := 0) (by simp) (by simp)
  exact ⟨b1, f1, c1, rfl, hin, k⟩

set_option maxHeartbeats 3200000 in
set_option maxRecDepth 100000 in
theorem keys_0 (key : ByteArray) (hk : key.size ≤ 31) (hu : utf8 key.data.toList = true) (form : Int) (hf : bits .and .i64 form 3 = 0) (c : UInt8) (hc : (c.toNat : Int) < 128) (w : World) :
    Calls Try.prog 7 #[.string key, .int .i64 form, .int .u8 (c.toNat : Int)] w fun r w' => r = .returned (.bool true) ∧ Keeps [] w w' := by
  have hkl : key.data.toList.length = key.size := by rw [Array.length_toList]; rfl
  have h31 : ¬ 31 < (key.size : Int) := by omega
  have hpl := key_direct key.data.toList (by rw [hkl]; exact hk) (by exact hu) c hc
  have HVD := Lib.hid (fun W => refValid_any key W (by omega))
  rw [hu] at HVD
  obtain ⟨x, hx⟩ : ∃ x : Int, (c.toNat : Int) = x := ⟨_, rfl⟩
  have h128 : decide (128 ≤ x) = false := decide_eq_false (by omega)
  have hx0 : 0 ≤ x := by omega
  obtain ⟨y, hy⟩ : ∃ y : Int, 160 + (key.size : Int) = y := ⟨_, rfl⟩
  have hwy : IntKind.u8.wrap y = y := by rw [← hy]; simp [IntKind.wrap, IntKind.bits, IntKind.signed]; omega
  have hwl : IntKind.u64.wrap (key.size : Int) = key.size := by simp [IntKind.wrap, IntKind.bits, IntKind.signed]; omega
  have hwx : IntKind.u64.wrap x = x := by simp [IntKind.wrap, IntKind.bits, IntKind.signed]; omega
  have hys : strOfNums [y] = bytesOf [UInt8.ofNat (160 + key.size)] := by
    rw [← hy, show 160 + (key.size : Int) = ((160 + key.size : Nat) : Int) by simp]; rfl
  have hxs : strOfNums [x] = bytesOf [c] := by
    rw [← hx]
    show (⟨#[UInt8.ofNat ((c.toNat : Int)).toNat]⟩ : ByteArray) = _
    simp [bytesOf]
  have hall := key_all _ key.data.toList c hpl
  rw [hx] at hall ⊢
  have hconv1 := fun (W : World) (n : Nat) (hn : n = W.heap.size) => run_bytes_lit (P := Try.prog) 40 9 5 Try.underlying40 Try.underlying5 Try.underlying9 [y] W n hn
  have hconv2 := fun (W : World) (n : Nat) (hn : n = W.heap.size) => run_bytes_lit (P := Try.prog) 40 9 5 Try.underlying40 Try.underlying5 Try.underlying9 [x] W n hn
  simp only [List.length_cons, List.length_nil, List.map_cons, List.map_nil, Nat.zero_add] at hconv1 hconv2
  rw [hys] at hconv1
  rw [hxs] at hconv2
  have HALL := Lib.hid hall
  have HKL := Lib.hid hkl
  clear hall hpl hkl hys hxs hx hu hc
  go_enter Try.func7, Try.ntmps7
  go_wp2_with fail
  refine (HVD.out w).mono ?_
  rintro e w0 ⟨rfl, rfl⟩
  go_wp2_with fail
  refine (palive_any w).mono ?_
  rintro e w1 ⟨rfl, k1⟩
  have K1 := Lib.hid k1
  have hc1 := hconv1 w1 w1.heap.size rfl
  clear k1 hconv1
  obtain ⟨hb, hhb⟩ : ∃ hb, bytesOf [UInt8.ofNat (160 + key.size)] = hb := ⟨_, rfl⟩
  have hbs : hb.size = 1 := by rw [← hhb]; rfl
  rw [hhb] at hc1
  have hcs : (bytesOf [c]).size = 1 := rfl
  go_wp2_with fail
  have hst : (⟨#[129]⟩ ++ (hb ++ key) ++ bytesOf [c] : ByteArray).data.toList = 129 :: ([UInt8.ofNat (160 + key.size)] ++ key.data.toList) ++ [c] := by
    rw [← hhb]; simp [ByteArray.data_append, bytesOf]
  have hss : (⟨#[129]⟩ ++ (hb ++ key) ++ bytesOf [c] : ByteArray).size ≤ 1000000 := by
    have e : (⟨#[129]⟩ ++ (hb ++ key) ++ bytesOf [c] : ByteArray).size = (⟨#[129]⟩ ++ (hb ++ key) ++ bytesOf [c] : ByteArray).data.toList.length := by rw [Array.length_toList]; rfl
    rw [e, hst]
    simp only [List.length_append, List.length_cons, List.length_nil, HKL.out]
    omega
  have hkb : bytesOf key.data.toList = key := by
    apply ByteArray.ext
    simp [bytesOf]
  have hfour := fun W => packAll_four (s := (⟨#[129]⟩ ++ (hb ++ key) ++ bytesOf [c] : ByteArray)) (d := 1) (W := W) hss (by rw [hst]; exact HALL.out)
  rw [hkb] at hfour
  have HFOUR := Lib.hid hfour
  clear hfour hst hss hkb hhb
  go_wp2_with fail
  refine (HFOUR.out _).mono ?_
  rintro e w6 ⟨b2, o2, cc, rfl, hin, k6⟩
  have K6 := Lib.hid (((K1.out.alloc _).alloc _).trans k6)
  obtain ⟨b3, f3, he3, q0, q1, q2, q3, q4⟩ := hin.get (k := 0) (by simp) (by simp)
  simp only [Option.some.injEq, Addr.mk.injEq, and_true] at he3
  obtain ⟨rfl, rfl⟩ := he3
  obtain ⟨b3, f3, he3, r0, r1, r2, r3, r4⟩ := hin.get (k := 1) (by simp) (by simp)
  simp only [Option.some.injEq, Addr.mk.injEq, and_true] at he3
  obtain ⟨rfl, rfl⟩ := he3
  obtain ⟨b3, f3, he3, s0, s1, s2, s3, s4⟩ := hin.get (k := 2) (by simp) (by simp)
  simp only [Option.some.injEq, Addr.mk.injEq, and_true] at he3
  obtain ⟨rfl, rfl⟩ := he3
  obtain ⟨b3, f3, he3, t0, t1, t2, t3, t4⟩ := hin.get (k := 3) (by simp) (by simp)
  simp only [Option.some.injEq, Addr.mk.injEq, and_true] at he3
  obtain ⟨rfl, rfl⟩ := he3
  have hr := hin.room
  simp only [List.getElem_cons_zero, List.getElem_cons_succ, evMap, evText, evInt, evEnd, noText, Nat.zero_mul, Nat.add_zero, Nat.one_mul] at q0 q1 q2 q3 q4 r0 r1 r2 r3 r4 s0 s1 s2 s3 s4 t0
  have heq : ∀ (e : Ev) W, (binOp .eql 35 (.agg #[.int .i64 e.kind, .bool e.yes, .int .u64 e.mag, .string e.text, .int .i64 e.count]) (.agg #[.int .i64 e.kind, .bool e.yes, .int .u64 e.mag, .string e.text, .int .i64 e.count])).run Try.prog W = .ok (.bool true) W := fun e W => by
    have := eql_ev e e W
    rw [same_self e] at this
    exact this
  have heq0 := heq (evMap 1)
  have heq1 := heq (evText key)
  have heq2 := heq (evInt false x)
  simp only [evMap, evText, evInt, noText] at heq0 heq1 heq2
  clear heq hin k6 t1 t2 t3 t4
  go_wp2_with fail
  go_ret
  exact ⟨rfl, K6.out⟩

set_option maxHeartbeats 3200000 in
set_option maxRecDepth 100000 in
theorem keys_1 (key : ByteArray) (hk : key.size ≤ 31) (hu : utf8 key.data.toList = true) (form : Int) (hf : bits .and .i64 form 3 = 1) (c : UInt8) (hc : (c.toNat : Int) < 128) (w : World) :
    Calls Try.prog 7 #[.string key, .int .i64 form, .int .u8 (c.toNat : Int)] w fun r w' => r = .returned (.bool true) ∧ Keeps [] w w' := by
  have hkl : key.data.toList.length = key.size := by rw [Array.length_toList]; rfl
  have h31 : ¬ 31 < (key.size : Int) := by omega
  have hpl := key_long 0 0 (by omega) rfl key.data.toList (by rw [hkl]; exact hk) (by exact hu) c hc
  have HBIG := Lib.hid (fun W => big_any key.size 1 (by omega) (by omega) W)
  have HVD := Lib.hid (fun W => refValid_any key W (by omega))
  rw [hu] at HVD
  obtain ⟨x, hx⟩ : ∃ x : Int, (c.toNat : Int) = x := ⟨_, rfl⟩
  have h128 : decide (128 ≤ x) = false := decide_eq_false (by omega)
  have hx0 : 0 ≤ x := by omega
  obtain ⟨y, hy⟩ : ∃ y : Int, 160 + (key.size : Int) = y := ⟨_, rfl⟩
  have hwy : IntKind.u8.wrap y = y := by rw [← hy]; simp [IntKind.wrap, IntKind.bits, IntKind.signed]; omega
  have hwl : IntKind.u64.wrap (key.size : Int) = key.size := by simp [IntKind.wrap, IntKind.bits, IntKind.signed]; omega
  have hwx : IntKind.u64.wrap x = x := by simp [IntKind.wrap, IntKind.bits, IntKind.signed]; omega
  have hys : strOfNums [y] = bytesOf [UInt8.ofNat (160 + key.size)] := by
    rw [← hy, show 160 + (key.size : Int) = ((160 + key.size : Nat) : Int) by simp]; rfl
  have hxs : strOfNums [x] = bytesOf [c] := by
    rw [← hx]
    show (⟨#[UInt8.ofNat ((c.toNat : Int)).toNat]⟩ : ByteArray) = _
    simp [bytesOf]
  have hall := key_all _ key.data.toList c hpl
  rw [hx] at hall ⊢
  have hconv1 := fun (W : World) (n : Nat) (hn : n = W.heap.size) => run_bytes_lit (P := Try.prog) 40 9 5 Try.underlying40 Try.underlying5 Try.underlying9 [y] W n hn
  have hconv2 := fun (W : World) (n : Nat) (hn : n = W.heap.size) => run_bytes_lit (P := Try.prog) 40 9 5 Try.underlying40 Try.underlying5 Try.underlying9 [x] W n hn
  simp only [List.length_cons, List.length_nil, List.map_cons, List.map_nil, Nat.zero_add] at hconv1 hconv2
  rw [hys] at hconv1
  rw [hxs] at hconv2
  have HALL := Lib.hid hall
  have HKL := Lib.hid hkl
  clear hall hpl hkl hys hxs hx hu hc
  go_enter Try.func7, Try.ntmps7
  go_wp2_with fail
  refine (HVD.out w).mono ?_
  rintro e w0 ⟨rfl, rfl⟩
  go_wp2_with fail
  refine (palive_any w).mono ?_
  rintro e w1 ⟨rfl, k1⟩
  have K1 := Lib.hid k1
  have hc1 := hconv1 w1 w1.heap.size rfl
  clear k1 hconv1
  obtain ⟨hb, hhb⟩ : ∃ hb, bytesOf [UInt8.ofNat (160 + key.size)] = hb := ⟨_, rfl⟩
  have hbs : hb.size = 1 := by rw [← hhb]; rfl
  rw [hhb] at hc1
  have hcs : (bytesOf [c]).size = 1 := rfl
  have hgs : (bytesOf (bigB key.size 1)).size = 1 := by rw [bytesOf_sz, bigB_len]
  go_wp2_with fail
  refine (HBIG.out _).mono ?_
  rintro e w5 ⟨rfl, k5⟩
  have K5 := Lib.hid ((K1.out.alloc _).trans k5)
  clear k5
  have hst : (⟨#[129]⟩ ++ (⟨#[217]⟩ ++ bytesOf (bigB key.size 1) ++ key) ++ bytesOf [c] : ByteArray).data.toList = 129 :: ((UInt8.ofNat (217 + 0) :: bigB key.data.toList.length (0 + 1)) ++ key.data.toList) ++ [c] := by
    rw [HKL.out]; simp [ByteArray.data_append, bytesOf]
  have hss : (⟨#[129]⟩ ++ (⟨#[217]⟩ ++ bytesOf (bigB key.size 1) ++ key) ++ bytesOf [c] : ByteArray).size ≤ 1000000 := by
    have e : (⟨#[129]⟩ ++ (⟨#[217]⟩ ++ bytesOf (bigB key.size 1) ++ key) ++ bytesOf [c] : ByteArray).size = (⟨#[129]⟩ ++ (⟨#[217]⟩ ++ bytesOf (bigB key.size 1) ++ key) ++ bytesOf [c] : ByteArray).data.toList.length := by rw [Array.length_toList]; rfl
    rw [e, hst]
    simp only [List.length_append, List.length_cons, List.length_nil, HKL.out, bigB_len]
    omega
  have hkb : bytesOf key.data.toList = key := by
    apply ByteArray.ext
    simp [bytesOf]
  have hfour := fun W => packAll_four (s := (⟨#[129]⟩ ++ (⟨#[217]⟩ ++ bytesOf (bigB key.size 1) ++ key) ++ bytesOf [c] : ByteArray)) (d := 1) (W := W) hss (by rw [hst]; exact HALL.out)
  rw [hkb] at hfour
  have HFOUR := Lib.hid hfour
  clear hfour hst hss hkb hhb
  go_wp2_with fail
  refine (HFOUR.out _).mono ?_
  rintro e w6 ⟨b2, o2, cc, rfl, hin, k6⟩
  have K6 := Lib.hid ((K5.out.alloc _).trans k6)
  obtain ⟨b3, f3, he3, q0, q1, q2, q3, q4⟩ := hin.get (k := 0) (by simp) (by simp)
  simp only [Option.some.injEq, Addr.mk.injEq, and_true] at he3
  obtain ⟨rfl, rfl⟩ := he3
  obtain ⟨b3, f3, he3, r0, r1, r2, r3, r4⟩ := hin.get (k := 1) (by simp) (by simp)
  simp only [Option.some.injEq, Addr.mk.injEq, and_true] at he3
  obtain ⟨rfl, rfl⟩ := he3
  obtain ⟨b3, f3, he3, s0, s1, s2, s3, s4⟩ := hin.get (k := 2) (by simp) (by simp)
  simp only [Option.some.injEq, Addr.mk.injEq, and_true] at he3
  obtain ⟨rfl, rfl⟩ := he3
  obtain ⟨b3, f3, he3, t0, t1, t2, t3, t4⟩ := hin.get (k := 3) (by simp) (by simp)
  simp only [Option.some.injEq, Addr.mk.injEq, and_true] at he3
  obtain ⟨rfl, rfl⟩ := he3
  have hr := hin.room
  simp only [List.getElem_cons_zero, List.getElem_cons_succ, evMap, evText, evInt, evEnd, noText, Nat.zero_mul, Nat.add_zero, Nat.one_mul] at q0 q1 q2 q3 q4 r0 r1 r2 r3 r4 s0 s1 s2 s3 s4 t0
  have heq : ∀ (e : Ev) W, (binOp .eql 35 (.agg #[.int .i64 e.kind, .bool e.yes, .int .u64 e.mag, .string e.text, .int .i64 e.count]) (.agg #[.int .i64 e.kind, .bool e.yes, .int .u64 e.mag, .string e.text, .int .i64 e.count])).run Try.prog W = .ok (.bool true) W := fun e W => by
    have := eql_ev e e W
    rw [same_self e] at this
    exact this
  have heq0 := heq (evMap 1)
  have heq1 := heq (evText key)
  have heq2 := heq (evInt false x)
  simp only [evMap, evText, evInt, noText] at heq0 heq1 heq2
  clear heq hin k6 t1 t2 t3 t4
  go_wp2_with fail
  go_ret
  exact ⟨rfl, K6.out⟩

set_option maxHeartbeats 3200000 in
set_option maxRecDepth 100000 in
theorem keys_2 (key : ByteArray) (hk : key.size ≤ 31) (hu : utf8 key.data.toList = true) (form : Int) (hf : bits .and .i64 form 3 = 2) (c : UInt8) (hc : (c.toNat : Int) < 128) (w : World) :
    Calls Try.prog 7 #[.string key, .int .i64 form, .int .u8 (c.toNat : Int)] w fun r w' => r = .returned (.bool true) ∧ Keeps [] w w' := by
  have hkl : key.data.toList.length = key.size := by rw [Array.length_toList]; rfl
  have h31 : ¬ 31 < (key.size : Int) := by omega
  have hpl := key_long 1 1 (by omega) rfl key.data.toList (by rw [hkl]; exact hk) (by exact hu) c hc
  have HBIG := Lib.hid (fun W => big_any key.size 2 (by omega) (by omega) W)
  have HVD := Lib.hid (fun W => refValid_any key W (by omega))
  rw [hu] at HVD
  obtain ⟨x, hx⟩ : ∃ x : Int, (c.toNat : Int) = x := ⟨_, rfl⟩
  have h128 : decide (128 ≤ x) = false := decide_eq_false (by omega)
  have hx0 : 0 ≤ x := by omega
  obtain ⟨y, hy⟩ : ∃ y : Int, 160 + (key.size : Int) = y := ⟨_, rfl⟩
  have hwy : IntKind.u8.wrap y = y := by rw [← hy]; simp [IntKind.wrap, IntKind.bits, IntKind.signed]; omega
  have hwl : IntKind.u64.wrap (key.size : Int) = key.size := by simp [IntKind.wrap, IntKind.bits, IntKind.signed]; omega
  have hwx : IntKind.u64.wrap x = x := by simp [IntKind.wrap, IntKind.bits, IntKind.signed]; omega
  have hys : strOfNums [y] = bytesOf [UInt8.ofNat (160 + key.size)] := by
    rw [← hy, show 160 + (key.size : Int) = ((160 + key.size : Nat) : Int) by simp]; rfl
  have hxs : strOfNums [x] = bytesOf [c] := by
    rw [← hx]
    show (⟨#[UInt8.ofNat ((c.toNat : Int)).toNat]⟩ : ByteArray) = _
    simp [bytesOf]
  have hall := key_all _ key.data.toList c hpl
  rw [hx] at hall ⊢
  have hconv1 := fun (W : World) (n : Nat) (hn : n = W.heap.size) => run_bytes_lit (P := Try.prog) 40 9 5 Try.underlying40 Try.underlying5 Try.underlying9 [y] W n hn
  have hconv2 := fun (W : World) (n : Nat) (hn : n = W.heap.size) => run_bytes_lit (P := Try.prog) 40 9 5 Try.underlying40 Try.underlying5 Try.underlying9 [x] W n hn
  simp only [List.length_cons, List.length_nil, List.map_cons, List.map_nil, Nat.zero_add] at hconv1 hconv2
  rw [hys] at hconv1
  rw [hxs] at hconv2
  have HALL := Lib.hid hall
  have HKL := Lib.hid hkl
  clear hall hpl hkl hys hxs hx hu hc
  go_enter Try.func7, Try.ntmps7
  go_wp2_with fail
  refine (HVD.out w).mono ?_
  rintro e w0 ⟨rfl, rfl⟩
  go_wp2_with fail
  refine (palive_any w).mono ?_
  rintro e w1 ⟨rfl, k1⟩
  have K1 := Lib.hid k1
  have hc1 := hconv1 w1 w1.heap.size rfl
  clear k1 hconv1
  obtain ⟨hb, hhb⟩ : ∃ hb, bytesOf [UInt8.ofNat (160 + key.size)] = hb := ⟨_, rfl⟩
  have hbs : hb.size = 1 := by rw [← hhb]; rfl
  rw [hhb] at hc1
  have hcs : (bytesOf [c]).size = 1 := rfl
  have hgs : (bytesOf (bigB key.size 2)).size = 2 := by rw [bytesOf_sz, bigB_len]
  go_wp2_with fail
  refine (HBIG.out _).mono ?_
  rintro e w5 ⟨rfl, k5⟩
  have K5 := Lib.hid ((K1.out.alloc _).trans k5)
  clear k5
  have hst : (⟨#[129]⟩ ++ (⟨#[218]⟩ ++ bytesOf (bigB key.size 2) ++ key) ++ bytesOf [c] : ByteArray).data.toList = 129 :: ((UInt8.ofNat (217 + 1) :: bigB key.data.toList.length (1 + 1)) ++ key.data.toList) ++ [c] := by
    rw [HKL.out]; simp [ByteArray.data_append, bytesOf]
  have hss : (⟨#[129]⟩ ++ (⟨#[218]⟩ ++ bytesOf (bigB key.size 2) ++ key) ++ bytesOf [c] : ByteArray).size ≤ 1000000 := by
    have e : (⟨#[129]⟩ ++ (⟨#[218]⟩ ++ bytesOf (bigB key.size 2) ++ key) ++ bytesOf [c] : ByteArray).size = (⟨#[129]⟩ ++ (⟨#[218]⟩ ++ bytesOf (bigB key.size 2) ++ key) ++ bytesOf [c] : ByteArray).data.toList.length := by rw [Array.length_toList]; rfl
    rw [e, hst]
    simp only [List.length_append, List.length_cons, List.length_nil, HKL.out, bigB_len]
    omega
  have hkb : bytesOf key.data.toList = key := by
    apply ByteArray.ext
    simp [bytesOf]
  have hfour := fun W => packAll_four (s := (⟨#[129]⟩ ++ (⟨#[218]⟩ ++ bytesOf (bigB key.size 2) ++ key) ++ bytesOf [c] : ByteArray)) (d := 1) (W := W) hss (by rw [hst]; exact HALL.out)
  rw [hkb] at hfour
  have HFOUR := Lib.hid hfour
  clear hfour hst hss hkb hhb
  go_wp2_with fail
  refine (HFOUR.out _).mono ?_
  rintro e w6 ⟨b2, o2, cc, rfl, hin, k6⟩
  have K6 := Lib.hid ((K5.out.alloc _).trans k6)
  obtain ⟨b3, f3, he3, q0, q1, q2, q3, q4⟩ := hin.get (k := 0) (by simp) (by simp)
  simp only [Option.some.injEq, Addr.mk.injEq, and_true] at he3
  obtain ⟨rfl, rfl⟩ := he3
  obtain ⟨b3, f3, he3, r0, r1, r2, r3, r4⟩ := hin.get (k := 1) (by simp) (by simp)
  simp only [Option.some.injEq, Addr.mk.injEq, and_true] at he3
  obtain ⟨rfl, rfl⟩ := he3
  obtain ⟨b3, f3, he3, s0, s1, s2, s3, s4⟩ := hin.get (k := 2) (by simp) (by simp)
  simp only [Option.some.injEq, Addr.mk.injEq, and_true] at he3
  obtain ⟨rfl, rfl⟩ := he3
  obtain ⟨b3, f3, he3, t0, t1, t2, t3, t4⟩ := hin.get (k := 3) (by simp) (by simp)
  simp only [Option.some.injEq, Addr.mk.injEq, and_true] at he3
  obtain ⟨rfl, rfl⟩ := he3
  have hr := hin.room
  simp only [List.getElem_cons_zero, List.getElem_cons_succ, evMap, evText, evInt, evEnd, noText, Nat.zero_mul, Nat.add_zero, Nat.one_mul] at q0 q1 q2 q3 q4 r0 r1 r2 r3 r4 s0 s1 s2 s3 s4 t0
  have heq : ∀ (e : Ev) W, (binOp .eql 35 (.agg #[.int .i64 e.kind, .bool e.yes, .int .u64 e.mag, .string e.text, .int .i64 e.count]) (.agg #[.int .i64 e.kind, .bool e.yes, .int .u64 e.mag, .string e.text, .int .i64 e.count])).run Try.prog W = .ok (.bool true) W := fun e W => by
    have := eql_ev e e W
    rw [same_self e] at this
    exact this
  have heq0 := heq (evMap 1)
  have heq1 := heq (evText key)
  have heq2 := heq (evInt false x)
  simp only [evMap, evText, evInt, noText] at heq0 heq1 heq2
  clear heq hin k6 t1 t2 t3 t4
  go_wp2_with fail
  go_ret
  exact ⟨rfl, K6.out⟩

set_option maxHeartbeats 3200000 in
set_option maxRecDepth 100000 in
theorem keys_3 (key : ByteArray) (hk : key.size ≤ 31) (hu : utf8 key.data.toList = true) (form : Int) (hf : bits .and .i64 form 3 = 3) (c : UInt8) (hc : (c.toNat : Int) < 128) (w : World) :
    Calls Try.prog 7 #[.string key, .int .i64 form, .int .u8 (c.toNat : Int)] w fun r w' => r = .returned (.bool true) ∧ Keeps [] w w' := by
  have hkl : key.data.toList.length = key.size := by rw [Array.length_toList]; rfl
  have h31 : ¬ 31 < (key.size : Int) := by omega
  have hpl := key_long 2 3 (by omega) rfl key.data.toList (by rw [hkl]; exact hk) (by exact hu) c hc
  have HBIG := Lib.hid (fun W => big_any key.size 4 (by omega) (by omega) W)
  have HVD := Lib.hid (fun W => refValid_any key W (by omega))
  rw [hu] at HVD
  obtain ⟨x, hx⟩ : ∃ x : Int, (c.toNat : Int) = x := ⟨_, rfl⟩
  have h128 : decide (128 ≤ x) = false := decide_eq_false (by omega)
  have hx0 : 0 ≤ x := by omega
  obtain ⟨y, hy⟩ : ∃ y : Int, 160 + (key.size : Int) = y := ⟨_, rfl⟩
  have hwy : IntKind.u8.wrap y = y := by rw [← hy]; simp [IntKind.wrap, IntKind.bits, IntKind.signed]; omega
  have hwl : IntKind.u64.wrap (key.size : Int) = key.size := by simp [IntKind.wrap, IntKind.bits, IntKind.signed]; omega
  have hwx : IntKind.u64.wrap x = x := by simp [IntKind.wrap, IntKind.bits, IntKind.signed]; omega
  have hys : strOfNums [y] = bytesOf [UInt8.ofNat (160 + key.size)] := by
    rw [← hy, show 160 + (key.size : Int) = ((160 + key.size : Nat) : Int) by simp]; rfl
  have hxs : strOfNums [x] = bytesOf [c] := by
    rw [← hx]
    show (⟨#[UInt8.ofNat ((c.toNat : Int)).toNat]⟩ : ByteArray) = _
    simp [bytesOf]
  have hall := key_all _ key.data.toList c hpl
  rw [hx] at hall ⊢
  have hconv1 := fun (W : World) (n : Nat) (hn : n = W.heap.size) => run_bytes_lit (P := Try.prog) 40 9 5 Try.underlying40 Try.underlying5 Try.underlying9 [y] W n hn
  have hconv2 := fun (W : World) (n : Nat) (hn : n = W.heap.size) => run_bytes_lit (P := Try.prog) 40 9 5 Try.underlying40 Try.underlying5 Try.underlying9 [x] W n hn
  simp only [List.length_cons, List.length_nil, List.map_cons, List.map_nil, Nat.zero_add] at hconv1 hconv2
  rw [hys] at hconv1
  rw [hxs] at hconv2
  have HALL := Lib.hid hall
  have HKL := Lib.hid hkl
  clear hall hpl hkl hys hxs hx hu hc
  go_enter Try.func7, Try.ntmps7
  go_wp2_with fail
  refine (HVD.out w).mono ?_
  rintro e w0 ⟨rfl, rfl⟩
  go_wp2_with fail
  refine (palive_any w).mono ?_
  rintro e w1 ⟨rfl, k1⟩
  have K1 := Lib.hid k1
  have hc1 := hconv1 w1 w1.heap.size rfl
  clear k1 hconv1
  obtain ⟨hb, hhb⟩ : ∃ hb, bytesOf [UInt8.ofNat (160 + key.size)] = hb := ⟨_, rfl⟩
  have hbs : hb.size = 1 := by rw [← hhb]; rfl
  rw [hhb] at hc1
  have hcs : (bytesOf [c]).size = 1 := rfl
  have hgs : (bytesOf (bigB key.size 4)).size = 4 := by rw [bytesOf_sz, bigB_len]
  go_wp2_with fail
  refine (HBIG.out _).mono ?_
  rintro e w5 ⟨rfl, k5⟩
  have K5 := Lib.hid ((K1.out.alloc _).trans k5)
  clear k5
  have hst : (⟨#[129]⟩ ++ (⟨#[219]⟩ ++ bytesOf (bigB key.size 4) ++ key) ++ bytesOf [c] : ByteArray).data.toList = 129 :: ((UInt8.ofNat (217 + 2) :: bigB key.data.toList.length (3 + 1)) ++ key.data.toList) ++ [c] := by
    rw [HKL.out]; simp [ByteArray.data_append, bytesOf]
  have hss : (⟨#[129]⟩ ++ (⟨#[219]⟩ ++ bytesOf (bigB key.size 4) ++ key) ++ bytesOf [c] : ByteArray).size ≤ 1000000 := by
    have e : (⟨#[129]⟩ ++ (⟨#[219]⟩ ++ bytesOf (bigB key.size 4) ++ key) ++ bytesOf [c] : ByteArray).size = (⟨#[129]⟩ ++ (⟨#[219]⟩ ++ bytesOf (bigB key.size 4) ++ key) ++ bytesOf [c] : ByteArray).data.toList.length := by rw [Array.length_toList]; rfl
    rw [e, hst]
    simp only [List.length_append, List.length_cons, List.length_nil, HKL.out, bigB_len]
    omega
  have hkb : bytesOf key.data.toList = key := by
    apply ByteArray.ext
    simp [bytesOf]
  have hfour := fun W => packAll_four (s := (⟨#[129]⟩ ++ (⟨#[219]⟩ ++ bytesOf (bigB key.size 4) ++ key) ++ bytesOf [c] : ByteArray)) (d := 1) (W := W) hss (by rw [hst]; exact HALL.out)
  rw [hkb] at hfour
  have HFOUR := Lib.hid hfour
  clear hfour hst hss hkb hhb
  go_wp2_with fail
  refine (HFOUR.out _).mono ?_
  rintro e w6 ⟨b2, o2, cc, rfl, hin, k6⟩
  have K6 := Lib.hid ((K5.out.alloc _).trans k6)
  obtain ⟨b3, f3, he3, q0, q1, q2, q3, q4⟩ := hin.get (k := 0) (by simp) (by simp)
  simp only [Option.some.injEq, Addr.mk.injEq, and_true] at he3
  obtain ⟨rfl, rfl⟩ := he3
  obtain ⟨b3, f3, he3, r0, r1, r2, r3, r4⟩ := hin.get (k := 1) (by simp) (by simp)
  simp only [Option.some.injEq, Addr.mk.injEq, and_true] at he3
  obtain ⟨rfl, rfl⟩ := he3
  obtain ⟨b3, f3, he3, s0, s1, s2, s3, s4⟩ := hin.get (k := 2) (by simp) (by simp)
  simp only [Option.some.injEq, Addr.mk.injEq, and_true] at he3
  obtain ⟨rfl, rfl⟩ := he3
  obtain ⟨b3, f3, he3, t0, t1, t2, t3, t4⟩ := hin.get (k := 3) (by simp) (by simp)
  simp only [Option.some.injEq, Addr.mk.injEq, and_true] at he3
  obtain ⟨rfl, rfl⟩ := he3
  have hr := hin.room
  simp only [List.getElem_cons_zero, List.getElem_cons_succ, evMap, evText, evInt, evEnd, noText, Nat.zero_mul, Nat.add_zero, Nat.one_mul] at q0 q1 q2 q3 q4 r0 r1 r2 r3 r4 s0 s1 s2 s3 s4 t0
  have heq : ∀ (e : Ev) W, (binOp .eql 35 (.agg #[.int .i64 e.kind, .bool e.yes, .int .u64 e.mag, .string e.text, .int .i64 e.count]) (.agg #[.int .i64 e.kind, .bool e.yes, .int .u64 e.mag, .string e.text, .int .i64 e.count])).run Try.prog W = .ok (.bool true) W := fun e W => by
    have := eql_ev e e W
    rw [same_self e] at this
    exact this
  have heq0 := heq (evMap 1)
  have heq1 := heq (evText key)
  have heq2 := heq (evInt false x)
  simp only [evMap, evText, evInt, noText] at heq0 heq1 heq2
  clear heq hin k6 t1 t2 t3 t4
  go_wp2_with fail
  go_ret
  exact ⟨rfl, K6.out⟩

theorem i64_and3 (x : Int) : bits .and .i64 x 3 = x % 4 := i64_mask 2 (by decide) x

set_option maxHeartbeats 1600000 in
set_option maxRecDepth 100000 in
theorem packinKeys_walk (key : ByteArray) (form x : Int) (w : World) (hks : key.size ≤ maxLen) (_ : -9223372036854775808 ≤ form ∧ form ≤ 9223372036854775807) (hx : 0 ≤ x ∧ x ≤ 255) :
    Calls Try.prog 7 #[.string key, .int .i64 form, .int .u8 x] w fun r w' => r = .returned (.bool true) ∧ Below w.heap.size w w' := by
  refine Calls.mono (R := fun r w' => r = .returned (.bool true) ∧ Keeps [] w w') ?_ (fun r w' h => ⟨h.1, h.2.all⟩)
  unfold maxLen at hks
  by_cases hk : key.size ≤ 31
  · have HVD := Lib.hid (fun W => refValid_any key W (by omega))
    cases hu : utf8 key.data.toList
    · rw [hu] at HVD
      have h31 : ¬ 31 < (key.size : Int) := by omega
      clear hu hk
      go_enter Try.func7, Try.ntmps7
      go_wp2_with fail
      refine (HVD.out w).mono ?_
      rintro e w0 ⟨rfl, rfl⟩
      go_wp2_with fail
      refine (palive_any w).mono ?_
      rintro e w1 ⟨rfl, k1⟩
      have K1 := Lib.hid k1
      clear k1
      go_wp2_with fail
      go_ret
      exact ⟨rfl, K1.out⟩
    by_cases h128 : 128 ≤ x
    · rw [hu] at HVD
      have h31 : ¬ 31 < (key.size : Int) := by omega
      clear hu hk
      go_enter Try.func7, Try.ntmps7
      go_wp2_with fail
      refine (HVD.out w).mono ?_
      rintro e w0 ⟨rfl, rfl⟩
      go_wp2_with fail
      refine (palive_any w).mono ?_
      rintro e w1 ⟨rfl, k1⟩
      have K1 := Lib.hid k1
      clear k1
      go_wp2_with fail
      go_ret
      exact ⟨rfl, K1.out⟩
    obtain ⟨c, hc⟩ : ∃ c : UInt8, (c.toNat : Int) = x := ⟨UInt8.ofNat x.toNat, by simp; omega⟩
    have h3 := i64_and3 form
    rw [← hc]
    rcases (show form % 4 = 0 ∨ form % 4 = 1 ∨ form % 4 = 2 ∨ form % 4 = 3 by omega) with h | h | h | h
    · exact keys_0 key hk hu form (h3.trans h) c (by omega) w
    · exact keys_1 key hk hu form (h3.trans h) c (by omega) w
    · exact keys_2 key hk hu form (h3.trans h) c (by omega) w
    · exact keys_3 key hk hu form (h3.trans h) c (by omega) w
  · have h31 : 31 < (key.size : Int) := by omega
    clear hk
    go_enter Try.func7, Try.ntmps7
    go_wp2_with fail
    refine (palive_any w).mono ?_
    rintro e w1 ⟨rfl, k1⟩
    have K1 := Lib.hid k1
    clear k1
    go_wp2_with fail
    go_ret
    exact ⟨rfl, K1.out⟩
end Go.Proofs.Ytcmeebciolegbaa
