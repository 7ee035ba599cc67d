/-
  head.Head's methods, within cborin's Parser: their contracts.
-/
import Derived.Test.YtdfdajedcgmbfaaCborModel
import Derived.Test.YtdfdajedcgmbfaaCoreByte
import Derived.Laws.BitsAllLaws
namespace Go.Tru
theorem or_byte {v x : Int} (hv : 0 ≤ v) (hx0 : 0 ≤ x) (hx1 : x ≤ 255) (h : v * 256 + x ≤ 18446744073709551615) : bits .or .u64 (v * 256) x = v * 256 + x := by
  rw [u64_or _ _ (by omega) (by omega) hx0 (by omega)]
  have h1 : (v * 256).toNat = v.toNat <<< 8 := by rw [Nat.shiftLeft_eq]; omega
  rw [h1, ← Nat.shiftLeft_add_eq_or_of_lt (by omega : x.toNat < 2 ^ 8), ← h1]
  omega
theorem pk_and31 {n : Int} (h0 : 0 ≤ n) (h1 : n ≤ 255) : bits .and .u8 n 31 = n % 32 := by
  rw [u8_and _ _ h0 (by omega) (by omega) (by omega), show (31 : Int).toNat = 2 ^ 5 - 1 from rfl, Nat.and_two_pow_sub_one_eq_mod]
  omega

theorem hd_facts {w : World} {base b : Nat} {T : TypeId} {post : List Value} {ov sv : Value} {h : Hd} {k : Core} (hc : CoreIn w base b T (h.cells ++ post) ov sv k) :
    w.cell? ⟨b, 12, none⟩ = some (.bool h.begun) ∧ w.cell? ⟨b, 13, none⟩ = some (.bool h.end_) ∧ w.cell? ⟨b, 14, none⟩ = some (.bool h.open_) ∧ w.cell? ⟨b, 15, none⟩ = some (.int .i64 h.major) ∧ w.cell? ⟨b, 16, none⟩ = some (.int .i64 h.lack) ∧ w.cell? ⟨b, 17, none⟩ = some (.int .u64 h.v) ∧ w.cell? ⟨b, 18, none⟩ = some (.int .i64 h.e) :=
  ⟨hc.blk.cell 12, hc.blk.cell 13, hc.blk.cell 14, hc.blk.cell 15, hc.blk.cell 16, hc.blk.cell 17, hc.blk.cell 18⟩
theorem hd_free {w : World} {base b : Nat} {T : TypeId} {rest : List Value} {ov sv : Value} {k : Core} (hc : CoreIn w base b T rest ov sv k) :
    w.frozen? ⟨b, 12, none⟩ = false ∧ w.frozen? ⟨b, 13, none⟩ = false ∧ w.frozen? ⟨b, 14, none⟩ = false ∧ w.frozen? ⟨b, 15, none⟩ = false ∧ w.frozen? ⟨b, 16, none⟩ = false ∧ w.frozen? ⟨b, 17, none⟩ = false ∧ w.frozen? ⟨b, 18, none⟩ = false ∧ w.frozen? ⟨b, 19, none⟩ = false ∧ b < w.heap.size :=
  ⟨hc.blk.free 12, hc.blk.free 13, hc.blk.free 14, hc.blk.free 15, hc.blk.free 16, hc.blk.free 17, hc.blk.free 18, hc.blk.free 19, hc.blk.lt⟩

/-- what a method of the head leaves -/
def HdPost (w : World) (base b : Nat) (T : TypeId) (post : List Value) (ov sv : Value) (k : Core) (h' : Hd) (w' : World) : Prop :=
  CoreIn w' base b T (h'.cells ++ post) ov sv k ∧ Keeps (coBlks b ov sv) w w'
end Go.Tru
namespace Go.Proofs.Ytdfdajedcgmbfaa
open Go.RowKit Go.Tru

set_option maxHeartbeats 1600000 in
set_option maxRecDepth 100000 in
theorem hstep_low {w : World} {base b : Nat} {T : TypeId} {post : List Value} {ov sv : Value} {k : Core} (hc : CoreIn w base b T (Hd.zero.cells ++ post) ov sv k) (x : Int) (hx0 : 0 ≤ x) (hx1 : x ≤ 255) (hl : x % 32 < 24) :
    Calls Try.prog 38 #[.pointer (some ⟨b, 12, none⟩), .int .u8 x] w fun r w' => r = .returned (.tuple #[.bool true, .int .i64 0]) ∧ HdPost w base b T post ov sv k ⟨true, true, false, x / 32, 0, x % 32, 0⟩ w' := by
  obtain ⟨g0, g1, g2, g3, g4, g5, g6⟩ := hd_facts hc
  obtain ⟨f0, f1, f2, f3, f4, f5, f6, f7, hbl⟩ := hd_free hc
  simp only [Hd.zero] at g0 g1 g2 g3 g4 g5 g6
  have HC := Lib.hid hc
  have hand := pk_and31 hx0 hx1
  clear hc
  go_enter Try.func38, Try.ntmps38
  go_wp2_with fail
  go_quiet (fail)
  go_wp2_with fail
  go_ret2
  refine ⟨rfl, CoreIn.keep0 ?_ ((Keeps.refl [] _).drewN _), Keeps.drewN ?_ _⟩
  · exact (((HC.out.putRest (i := 0) (u := .bool true)).putRest (i := 3) (u := .int .i64 (x / 32))).putRest (i := 5) (u := .int .u64 (x % 32))).putRest (i := 1) (u := .bool true)
  · exact ((((Keeps.refl _ _).setIn (coBlks_self _ _ _) _).setIn (coBlks_self _ _ _) _).setIn (coBlks_self _ _ _) _).setIn (coBlks_self _ _ _) _

set_option maxHeartbeats 1600000 in
set_option maxRecDepth 100000 in
theorem hstep_len {w : World} {base b : Nat} {T : TypeId} {post : List Value} {ov sv : Value} {k : Core} (hc : CoreIn w base b T (Hd.zero.cells ++ post) ov sv k) (x : Int) (hx0 : 0 ≤ x) (hx1 : x ≤ 255) (hl : 24 ≤ x % 32) (hl2 : x % 32 < 28) :
    Calls Try.prog 38 #[.pointer (some ⟨b, 12, none⟩), .int .u8 x] w fun r w' => r = .returned (.tuple #[.bool false, .int .i64 0]) ∧ HdPost w base b T post ov sv k ⟨true, false, false, x / 32, 2 ^ (x % 32 - 24).toNat, 0, 0⟩ w' := by
  obtain ⟨g0, g1, g2, g3, g4, g5, g6⟩ := hd_facts hc
  obtain ⟨f0, f1, f2, f3, f4, f5, f6, f7, hbl⟩ := hd_free hc
  simp only [Hd.zero] at g0 g1 g2 g3 g4 g5 g6
  have HC := Lib.hid hc
  have hand := pk_and31 hx0 hx1
  clear hc
  rcases (show x % 32 = 24 ∨ x % 32 = 25 ∨ x % 32 = 26 ∨ x % 32 = 27 by omega) with e | e | e | e
  all_goals
    rw [e] at hand ⊢
    have HEE := Lib.hid e
    clear hl hl2 e
    go_enter Try.func38, Try.ntmps38
    go_wp2_with fail
    go_quiet (fail)
    go_wp2_with fail
    go_ret2
    refine ⟨rfl, CoreIn.keep0 ?_ ((Keeps.refl [] _).drewN _), Keeps.drewN ?_ _⟩
    · exact ((HC.out.putRest (i := 0) (u := .bool true)).putRest (i := 3) (u := .int .i64 (x / 32))).putRest (i := 4)
    · exact (((Keeps.refl _ _).setIn (coBlks_self _ _ _) _).setIn (coBlks_self _ _ _) _).setIn (coBlks_self _ _ _) _

set_option maxHeartbeats 1600000 in
set_option maxRecDepth 100000 in
theorem hstep_open {w : World} {base b : Nat} {T : TypeId} {post : List Value} {ov sv : Value} {k : Core} (hc : CoreIn w base b T (Hd.zero.cells ++ post) ov sv k) (x : Int) (hx0 : 0 ≤ x) (hx1 : x ≤ 255) (hl : x % 32 = 31) :
    Calls Try.prog 38 #[.pointer (some ⟨b, 12, none⟩), .int .u8 x] w fun r w' => r = .returned (.tuple #[.bool true, .int .i64 0]) ∧ HdPost w base b T post ov sv k ⟨true, true, true, x / 32, 0, 0, 0⟩ w' := by
  obtain ⟨g0, g1, g2, g3, g4, g5, g6⟩ := hd_facts hc
  obtain ⟨f0, f1, f2, f3, f4, f5, f6, f7, hbl⟩ := hd_free hc
  simp only [Hd.zero] at g0 g1 g2 g3 g4 g5 g6
  have HC := Lib.hid hc
  have hand := pk_and31 hx0 hx1
  rw [hl] at hand
  clear hc hl
  go_enter Try.func38, Try.ntmps38
  go_wp2_with fail
  go_quiet (fail)
  go_wp2_with fail
  go_ret2
  refine ⟨rfl, CoreIn.keep0 ?_ ((Keeps.refl [] _).drewN _), Keeps.drewN ?_ _⟩
  · exact (((HC.out.putRest (i := 0) (u := .bool true)).putRest (i := 3) (u := .int .i64 (x / 32))).putRest (i := 2) (u := .bool true)).putRest (i := 1) (u := .bool true)
  · exact ((((Keeps.refl _ _).setIn (coBlks_self _ _ _) _).setIn (coBlks_self _ _ _) _).setIn (coBlks_self _ _ _) _).setIn (coBlks_self _ _ _) _

set_option maxHeartbeats 1600000 in
set_option maxRecDepth 100000 in
theorem hstep_bad {w : World} {base b : Nat} {T : TypeId} {post : List Value} {ov sv : Value} {k : Core} (hc : CoreIn w base b T (Hd.zero.cells ++ post) ov sv k) (x : Int) (hx0 : 0 ≤ x) (hx1 : x ≤ 255) (hl : 28 ≤ x % 32) (hl2 : x % 32 < 31) :
    Calls Try.prog 38 #[.pointer (some ⟨b, 12, none⟩), .int .u8 x] w fun r w' => r = .returned (.tuple #[.bool false, .int .i64 2]) ∧ HdPost w base b T post ov sv k ⟨true, false, false, x / 32, 0, 0, 2⟩ w' := by
  obtain ⟨g0, g1, g2, g3, g4, g5, g6⟩ := hd_facts hc
  obtain ⟨f0, f1, f2, f3, f4, f5, f6, f7, hbl⟩ := hd_free hc
  simp only [Hd.zero] at g0 g1 g2 g3 g4 g5 g6
  have HC := Lib.hid hc
  have hand := pk_and31 hx0 hx1
  clear hc
  rcases (show x % 32 = 28 ∨ x % 32 = 29 ∨ x % 32 = 30 by omega) with e | e | e
  all_goals
    rw [e] at hand
    clear hl hl2 e
    go_enter Try.func38, Try.ntmps38
    go_wp2_with fail
    go_quiet (fail)
    go_wp2_with fail
    go_ret2
    refine ⟨rfl, CoreIn.keep0 ?_ ((Keeps.refl [] _).drewN _), Keeps.drewN ?_ _⟩
    · exact ((HC.out.putRest (i := 0) (u := .bool true)).putRest (i := 3) (u := .int .i64 (x / 32))).putRest (i := 6) (u := .int .i64 2)
    · exact (((Keeps.refl _ _).setIn (coBlks_self _ _ _) _).setIn (coBlks_self _ _ _) _).setIn (coBlks_self _ _ _) _

set_option maxHeartbeats 1600000 in
set_option maxRecDepth 100000 in
theorem hstep_more {w : World} {base b : Nat} {T : TypeId} {post : List Value} {ov sv : Value} {k : Core} {h : Hd} (hc : CoreIn w base b T (h.cells ++ post) ov sv k) (hf : h.Fit) (x : Int) (hx0 : 0 ≤ x) (hx1 : x ≤ 255) :
    Calls Try.prog 38 #[.pointer (some ⟨b, 12, none⟩), .int .u8 x] w fun r w' => r = .returned (.tuple #[.bool (decide (h.lack - 1 = 0)), .int .i64 0]) ∧ HdPost w base b T post ov sv k { h with v := h.v * 256 + x, lack := h.lack - 1, end_ := decide (h.lack - 1 = 0) } w' := by
  obtain ⟨g0, g1, g2, g3, g4, g5, g6⟩ := hd_facts hc
  obtain ⟨f0, f1, f2, f3, f4, f5, f6, f7, hbl⟩ := hd_free hc
  rw [hf.begun] at g0
  rw [hf.end_] at g1
  rw [hf.e] at g6
  have hv := hf.v
  have hl := hf.lack
  have hv4 : h.v * 256 + x ≤ 18446744073709551615 := by
    have h9 : (256 : Int) ^ (8 - h.lack).toNat ≤ 72057594037927936 := by
      have : (8 - h.lack).toNat ≤ 7 := by omega
      generalize (8 - h.lack).toNat = j at this
      rcases (show j = 0 ∨ j = 1 ∨ j = 2 ∨ j = 3 ∨ j = 4 ∨ j = 5 ∨ j = 6 ∨ j = 7 by omega) with rfl | rfl | rfl | rfl | rfl | rfl | rfl | rfl <;> simp
    omega
  have hbits := or_byte hv.1 hx0 hx1 hv4
  have hv3 : h.v * 256 ≤ 18446744073709551615 := by omega
  have hv0 := hv.1
  have HC := Lib.hid hc
  have hbeq : (h.lack - 1 == 0) = decide (h.lack - 1 = 0) := rfl
  have HBE := Lib.hid hbeq
  clear hc hv hbeq
  have HF := Lib.hid hf
  clear hf
  obtain ⟨y, hy⟩ : ∃ y, h.v * 256 + x = y := ⟨_, rfl⟩
  rw [hy] at hbits hv4 ⊢
  have hy0 : 0 ≤ y := by omega
  clear hy
  go_enter Try.func38, Try.ntmps38
  go_wp2_with fail
  go_ret2
  refine ⟨rfl, ?_, ?_⟩
  · exact ((HC.out.putRest (i := 5) (u := .int .u64 y)).putRest (i := 4) (u := .int .i64 (h.lack - 1))).putRest (i := 1) (u := .bool (h.lack - 1 == 0))
  · exact (((Keeps.refl _ _).setIn (coBlks_self _ _ _) _).setIn (coBlks_self _ _ _) _).setIn (coBlks_self _ _ _) _

theorem hmajor_any {w : World} {base b : Nat} {T : TypeId} {post : List Value} {ov sv : Value} {k : Core} {h : Hd} (hc : CoreIn w base b T (h.cells ++ post) ov sv k) (he : h.e = 0) :
    Calls Try.prog 39 #[.pointer (some ⟨b, 12, none⟩)] w fun r w' => r = .returned (.int .i64 h.major) ∧ w = w' := by
  obtain ⟨g0, g1, g2, g3, g4, g5, g6⟩ := hd_facts hc
  rw [he] at g6
  have hbl := hc.blk.lt
  clear hc he
  go_enter Try.func39, Try.ntmps39
  go_wp2
  go_ret
  exact ⟨rfl, rfl⟩

theorem hvalue_any {w : World} {base b : Nat} {T : TypeId} {post : List Value} {ov sv : Value} {k : Core} {h : Hd} (hc : CoreIn w base b T (h.cells ++ post) ov sv k) (he : h.e = 0) (hn : h.end_ = true) :
    Calls Try.prog 40 #[.pointer (some ⟨b, 12, none⟩)] w fun r w' => r = .returned (.int .u64 h.v) ∧ w = w' := by
  obtain ⟨g0, g1, g2, g3, g4, g5, g6⟩ := hd_facts hc
  rw [he] at g6
  rw [hn] at g1
  have hbl := hc.blk.lt
  clear hc he hn
  go_enter Try.func40, Try.ntmps40
  go_wp2
  go_ret
  exact ⟨rfl, rfl⟩

theorem hopen_any {w : World} {base b : Nat} {T : TypeId} {post : List Value} {ov sv : Value} {k : Core} {h : Hd} (hc : CoreIn w base b T (h.cells ++ post) ov sv k) (he : h.e = 0) :
    Calls Try.prog 41 #[.pointer (some ⟨b, 12, none⟩)] w fun r w' => r = .returned (.bool h.open_) ∧ w = w' := by
  obtain ⟨g0, g1, g2, g3, g4, g5, g6⟩ := hd_facts hc
  rw [he] at g6
  have hbl := hc.blk.lt
  clear hc he
  go_enter Try.func41, Try.ntmps41
  go_wp2
  go_ret
  exact ⟨rfl, rfl⟩

set_option maxHeartbeats 1600000 in
theorem hclear_any {w : World} {base b : Nat} {T : TypeId} {post : List Value} {ov sv : Value} {k : Core} {h : Hd} (hc : CoreIn w base b T (h.cells ++ post) ov sv k) :
    Calls Try.prog 42 #[.pointer (some ⟨b, 12, none⟩)] w fun r w' => (∃ v, r = .returned v) ∧ HdPost w base b T post ov sv k Hd.zero w' := by
  obtain ⟨g0, g1, g2, g3, g4, g5, g6⟩ := hd_facts hc
  obtain ⟨f0, f1, f2, f3, f4, f5, f6, f7, hbl⟩ := hd_free hc
  have HC := Lib.hid hc
  clear hc
  go_enter Try.func42, Try.ntmps42
  go_wp2_with fail
  refine bodyPost_end (v := .tuple #[]) (by simp [results, Try.results42, go_sem]) rfl ⟨⟨_, rfl⟩, ?_, ?_⟩
  · exact ((((((HC.out.putRest (i := 0) (u := .bool false)).putRest (i := 1) (u := .bool false)).putRest (i := 2) (u := .bool false)).putRest (i := 3) (u := .int .i64 0)).putRest (i := 4) (u := .int .i64 0)).putRest (i := 5) (u := .int .u64 0)).putRest (i := 6) (u := .int .i64 0)
  · exact (((((((Keeps.refl _ _).setIn (coBlks_self _ _ _) _).setIn (coBlks_self _ _ _) _).setIn (coBlks_self _ _ _) _).setIn (coBlks_self _ _ _) _).setIn (coBlks_self _ _ _) _).setIn (coBlks_self _ _ _) _).setIn (coBlks_self _ _ _) _
end Go.Proofs.Ytdfdajedcgmbfaa
