/-
  PackinLong's walk, by form. Printed by wip/genlong2.py.
-/
import Derived.Test.YtmcbdkhlbmhfeaaPackOne
import Derived.Test.YtmcbdkhlbmhfeaaPackLongPlain
import Derived.Test.YtmcbdkhlbmhfeaaRefUtf
import Derived.Test.YtmcbdkhlbmhfeaaPackAlive
import Derived.Deep.RegionHeld
import Derived.Deep.Cut
import Derived.Deep.QuietTactic
import Derived.BigQuiet
namespace Go.Proofs.Ytmcbdkhlbmhfeaa
open Go.RowKit Go.Tru

theorem lg_conv (c : UInt8) (W : World) (g : Nat) (hg : W.cell? ⟨g, 0, none⟩ = some (.int .u8 c.toNat)) : (convert 40 9 (.slice (some ⟨g, 0, none⟩) 1 1)).run Try.prog W = .ok (.string ⟨#[c]⟩) W :=
  run_convert_bytes_back W 40 9 5 ⟨g, 0, none⟩ 1 [c] Try.underlying40 Try.underlying5 Try.underlying9 (fun j hj => by
    obtain rfl : j = 0 := by simp at hj; omega
    exact hg)

theorem lg_tx (c : UInt8) (l : List UInt8) (s : ByteArray) : ((⟨#[c]⟩ : ByteArray) ++ bytesOf l ++ s).data.toList = c :: l ++ s.data.toList := by
  simp [ByteArray.data_append, bytesOf]

theorem lg_back (s : ByteArray) : bytesOf s.data.toList = s := by
  apply ByteArray.ext
  simp [bytesOf]

/-- so many nulls behind -/
def LgRel (n : Nat) (L0 : ByteArray) (w : World) (v i : Value) (wr : World) : Prop :=
  ∃ k : Nat, ∃ S : ByteArray, k ≤ n ∧ i = .int .i64 k ∧ v = .string S ∧ S.data.toList = L0.data.toList ++ List.replicate k 192 ∧ Keeps [] w wr

set_option maxHeartbeats 3200000 in
set_option maxRecDepth 100000 in
theorem long_0 (s : ByteArray) (hs : s.size ≤ 100) (hu : utf8 s.data.toList = true) (n : Nat) (hn : n ≤ 15) (form : Int) (hf : (wrap64 (form.tmod 3 + 3)).tmod 3 = 0) (w : World) :
    Calls Try.prog 5 #[.string s, .int .i64 n, .int .i64 form] w fun r w' => r = .returned (.bool true) ∧ Keeps [] w w' := by
  have hsl : s.data.toList.length = s.size := by rw [Array.length_toList]; rfl
  have h100 : ¬ 100 < (s.size : Int) := by omega
  have hn0 : ¬ (n : Int) < 0 := by omega
  have hn15 : ¬ 15 < (n : Int) := by omega
  have hws : IntKind.u64.wrap (s.size : Int) = s.size := by simp [IntKind.wrap, IntKind.bits, IntKind.signed]; omega
  have hwn : IntKind.u64.wrap (n : Int) = n := by simp [IntKind.wrap, IntKind.bits, IntKind.signed]; omega
  have hsh1 : Op.shift .shl .i64 1 .i64 0 = pure (.int .i64 1) := by rw [shift_shl_any _ _ _ _ (by decide)]; rfl
  have hsh2 : Op.shift .shl .i64 2 .i64 0 = pure (.int .i64 2) := by rw [shift_shl_any _ _ _ _ (by decide)]; rfl
  have hbs := fun W => big_any s.size 1 (by omega) (by omega) W
  have hbn := fun W => big_any n 2 (by omega) (by omega) W
  have ht := long_text true 0 0 (by omega) rfl s.data.toList (by rw [hsl]; exact hs) (fun _ => hu)
  have hb := long_text false 0 0 (by omega) rfl s.data.toList (by rw [hsl]; exact hs) (fun h => by cases h)
  have hl := long_list 0 n 1 (by omega) rfl hn
  rw [hsl] at ht hb
  have hgs : (bytesOf (bigB s.size 1)).size = 1 := by rw [bytesOf_sz, bigB_len]
  have hgn : (bytesOf (bigB n 2)).size = 2 := by rw [bytesOf_sz, bigB_len]
  have hst1 := lg_tx 217 (bigB s.size 1) s
  have hst2 := lg_tx 196 (bigB s.size 1) s
  obtain ⟨B1, hB1⟩ : ∃ B, bytesOf (bigB s.size 1) = B := ⟨_, rfl⟩
  obtain ⟨A1, hA1⟩ : ∃ A, (⟨#[217]⟩ : ByteArray) ++ B1 = A := ⟨_, rfl⟩
  obtain ⟨A2, hA2⟩ : ∃ A, (⟨#[196]⟩ : ByteArray) ++ B1 = A := ⟨_, rfl⟩
  obtain ⟨T1, hT1⟩ : ∃ T, A1 ++ s = T := ⟨_, rfl⟩
  obtain ⟨T2, hT2⟩ : ∃ T, A2 ++ s = T := ⟨_, rfl⟩
  obtain ⟨B3, hB3⟩ : ∃ B, bytesOf (bigB n 2) = B := ⟨_, rfl⟩
  obtain ⟨T3, hT3⟩ : ∃ A, (⟨#[220]⟩ : ByteArray) ++ B3 = A := ⟨_, rfl⟩
  have hT3d : T3.data.toList = 220 :: bigB n 2 := by rw [← hT3, ← hB3]; simp [ByteArray.data_append, bytesOf]
  rw [hB1] at hbs hgs hst1 hst2
  rw [hB3] at hbn hgn
  rw [hA1, hT1] at hst1
  rw [hA2, hT2] at hst2
  have hA1s : A1.size = 1 + B1.size := by rw [← hA1, ByteArray.size_append]; rfl
  have hA2s : A2.size = 1 + B1.size := by rw [← hA2, ByteArray.size_append]; rfl
  have hT1s : T1.size = A1.size + s.size := by rw [← hT1, ByteArray.size_append]
  have hT2s : T2.size = A2.size + s.size := by rw [← hT2, ByteArray.size_append]
  have hT3s : T3.size = 1 + B3.size := by rw [← hT3, ByteArray.size_append]; rfl
  have z1 : ¬ 281474976710656 < (⟨#[217]⟩ : ByteArray).size + B1.size := by show ¬ _ < 1 + B1.size; omega
  have z2 : ¬ 281474976710656 < (⟨#[196]⟩ : ByteArray).size + B1.size := by show ¬ _ < 1 + B1.size; omega
  have z3 : ¬ 281474976710656 < A1.size + s.size := by omega
  have z4 : ¬ 281474976710656 < A2.size + s.size := by omega
  have z5 : ¬ 281474976710656 < (⟨#[220]⟩ : ByteArray).size + B3.size := by show ¬ _ < 1 + B3.size; omega
  have hA := fun W => packAll_one (s := T1) (d := 1) (W := W) (by omega) (by rw [hst1]; exact ht)
  have hB := fun W => packAll_one (s := T2) (d := 1) (W := W) (by omega) (by rw [hst2]; exact hb)
  simp only [wordEv, if_true, if_false, Bool.false_eq_true, lg_back] at hA hB
  have HBS := Lib.hid hbs
  have HBN := Lib.hid hbn
  have HA := Lib.hid hA
  have HB := Lib.hid hB
  have HL := Lib.hid hl
  have HVD := Lib.hid (fun W => refValid_any s W (by omega))
  rw [hu] at HVD
  have HN := Lib.hid hn
  have HS := Lib.hid hs
  have HT3 := Lib.hid hT3d
  have HT3S := Lib.hid (show T3.size ≤ 10 by omega)
  clear ht hb hl hst1 hst2 hA hB hsl hn hu hbs hbn hgs hgn hB1 hB3 hA1s hA2s hT1s hT2s hT3s hT3d hs
  go_enter Try.func5, Try.ntmps5
  go_wp2_with fail
  refine (HVD.out w).mono ?_
  rintro e w0 ⟨rfl, rfl⟩
  go_wp2_with fail
  refine (palive_any w).mono ?_
  rintro e w1 ⟨rfl, k1⟩
  have K1 := Lib.hid k1
  clear k1
  have ca : ∀ (W : World) (t : TypeId), (convert 40 9 (.slice (some ⟨W.heap.size, 0, none⟩) 1 1)).run Try.prog (W.alloc (.cells #[.int .u8 217] t)) = .ok (.string ⟨#[217]⟩) (W.alloc (.cells #[.int .u8 217] t)) := fun W t =>
    lg_conv 217 _ _ ((Has.new' W #[.int .u8 217] t rfl).cell 0)
  have cb : ∀ (W : World) (t : TypeId), (convert 40 9 (.slice (some ⟨W.heap.size, 0, none⟩) 1 1)).run Try.prog (W.alloc (.cells #[.int .u8 217] t)).drew = .ok (.string ⟨#[217]⟩) (W.alloc (.cells #[.int .u8 217] t)).drew := fun W t =>
    lg_conv 217 _ _ ((Has.new' W #[.int .u8 217] t rfl).cell 0)
  have cw : IntKind.u8.wrap (IntKind.i64.wrap 217) = 217 := by decide
  go_upto_region 4 with fail
  go_cut [8] from 18 (fun s wx => s = .string T1 ∧ Keeps [] w1 wx)
  case first =>
    go_region_held (fun _ => True) (trivial) ((go_at_call 13; refine (HBS.out _).mono ?_; rintro e w9 ⟨rfl, k9⟩; try have c9 := lg_conv 217 w9 w1.heap.size (k9.cell ((Has.new' w1 #[.int .u8 217] _ rfl).cell 0) (by simp))))
    all_goals
      have KK : Keeps [] w1 w9 := by
        first
          | exact (((Keeps.refl [] w1).alloc _).drew).trans k9
          | exact ((Keeps.refl [] w1).drew).trans k9
          | exact (((Keeps.refl [] w1).drew).alloc _).trans k9
          | exact ((((Keeps.refl [] w1).drew).alloc _).drew).trans k9
      clear k9
      go_wp2_with fail
      go_meet
      case rel => exact ⟨rfl, by first | exact KK | exact KK.alloc _ | exact (KK.alloc _).drew | exact KK.drew⟩
  case rest =>
  obtain ⟨rfl, k2⟩ := hcut
  obtain ⟨wa, rfl⟩ : ∃ wa : World, wa = wc := ⟨_, rfl⟩
  have K2 := Lib.hid (K1.out.trans k2)
  clear k2 ca cb cw
  have ca : ∀ (W : World) (t : TypeId), (convert 40 9 (.slice (some ⟨W.heap.size, 0, none⟩) 1 1)).run Try.prog (W.alloc (.cells #[.int .u8 196] t)) = .ok (.string ⟨#[196]⟩) (W.alloc (.cells #[.int .u8 196] t)) := fun W t =>
    lg_conv 196 _ _ ((Has.new' W #[.int .u8 196] t rfl).cell 0)
  have cb : ∀ (W : World) (t : TypeId), (convert 40 9 (.slice (some ⟨W.heap.size, 0, none⟩) 1 1)).run Try.prog (W.alloc (.cells #[.int .u8 196] t)).drew = .ok (.string ⟨#[196]⟩) (W.alloc (.cells #[.int .u8 196] t)).drew := fun W t =>
    lg_conv 196 _ _ ((Has.new' W #[.int .u8 196] t rfl).cell 0)
  have cw : IntKind.u8.wrap (IntKind.i64.wrap 196) = 196 := by decide
  go_upto_region 5 with fail
  go_cut [9] from 18 (fun s wx => s = .string T2 ∧ Keeps [] wa wx)
  case first =>
    go_region_held (fun _ => True) (trivial) ((go_at_call 13; refine (HBS.out _).mono ?_; rintro e w9 ⟨rfl, k9⟩; try have c9 := lg_conv 196 w9 wa.heap.size (k9.cell ((Has.new' wa #[.int .u8 196] _ rfl).cell 0) (by simp))))
    all_goals
      have KK : Keeps [] wa w9 := by
        first
          | exact (((Keeps.refl [] wa).alloc _).drew).trans k9
          | exact ((Keeps.refl [] wa).drew).trans k9
          | exact (((Keeps.refl [] wa).drew).alloc _).trans k9
          | exact ((((Keeps.refl [] wa).drew).alloc _).drew).trans k9
      clear k9
      go_wp2_with fail
      go_meet
      case rel => exact ⟨rfl, by first | exact KK | exact KK.alloc _ | exact (KK.alloc _).drew | exact KK.drew⟩
  case rest =>
  obtain ⟨rfl, k3⟩ := hcut
  obtain ⟨wb, rfl⟩ : ∃ wb : World, wb = wc := ⟨_, rfl⟩
  have K3 := Lib.hid (K2.out.trans k3)
  clear k3 ca cb cw
  clear hsh1 hws hA1 hA2 hT1 hT2 z1 z2 z3 z4
  go_wp2_with fail
  refine (HA.out _).mono ?_
  rintro e w4 ⟨b2, o2, c2, rfl, p2, hc2, k4⟩
  simp only [evText] at p2
  have P2 := Lib.hid p2
  have K4 := Lib.hid (K3.out.trans k4)
  clear p2 k4
  go_wp2_with fail
  refine (HB.out _).mono ?_
  rintro e w5 ⟨b3, o3, c3, rfl, p3, hc3, k5⟩
  simp only [evBytes] at p3
  have P3 := Lib.hid p3
  have K5 := Lib.hid (K4.out.trans k5)
  have K45 := Lib.hid k5
  clear p3 k5
  have ca : ∀ (W : World) (t : TypeId), (convert 40 9 (.slice (some ⟨W.heap.size, 0, none⟩) 1 1)).run Try.prog (W.alloc (.cells #[.int .u8 220] t)) = .ok (.string ⟨#[220]⟩) (W.alloc (.cells #[.int .u8 220] t)) := fun W t =>
    lg_conv 220 _ _ ((Has.new' W #[.int .u8 220] t rfl).cell 0)
  have cb : ∀ (W : World) (t : TypeId), (convert 40 9 (.slice (some ⟨W.heap.size, 0, none⟩) 1 1)).run Try.prog (W.alloc (.cells #[.int .u8 220] t)).drew = .ok (.string ⟨#[220]⟩) (W.alloc (.cells #[.int .u8 220] t)).drew := fun W t =>
    lg_conv 220 _ _ ((Has.new' W #[.int .u8 220] t rfl).cell 0)
  have cw : IntKind.u8.wrap (IntKind.i64.wrap 220) = 220 := by decide
  go_upto_region 8 with fail
  go_cut [14] from 18 (fun s wx => s = .string T3 ∧ Keeps [] w5 wx)
  case first =>
    go_region_held (fun _ => True) (trivial) ((go_at_call 13; refine (HBN.out _).mono ?_; rintro e w9 ⟨rfl, k9⟩; try have c9 := lg_conv 220 w9 w5.heap.size (k9.cell ((Has.new' w5 #[.int .u8 220] _ rfl).cell 0) (by simp))))
    all_goals
      have KK : Keeps [] w5 w9 := by
        first
          | exact (((Keeps.refl [] w5).alloc _).drew).trans k9
          | exact ((Keeps.refl [] w5).drew).trans k9
          | exact (((Keeps.refl [] w5).drew).alloc _).trans k9
          | exact ((((Keeps.refl [] w5).drew).alloc _).drew).trans k9
      clear k9
      go_wp2_with fail
      go_meet
      case rel => exact ⟨rfl, by first | exact KK | exact KK.alloc _ | exact (KK.alloc _).drew | exact KK.drew⟩
  case rest =>
  obtain ⟨rfl, k6⟩ := hcut
  obtain ⟨wd, rfl⟩ : ∃ wd : World, wd = wc := ⟨_, rfl⟩
  have K6 := Lib.hid (K5.out.trans k6)
  have K65 := Lib.hid k6
  clear k6 ca cb cw
  clear hsh2 hwn hT3 z5
  go_wp2_with fail
  go_loopw [14, 15] (fun v i wr => LgRel n T3 wd v i wr) (fun _ i _ => n - (intOf i).toNat)
  case atStart => exact ⟨0, T3, Nat.zero_le _, rfl, rfl, by simp, Keeps.refl _ _⟩
  case round =>
    obtain ⟨k, S, hk, rfl, rfl, hS, hK⟩ := hrel
    have hSs : S.size ≤ 25 := by
      have h1 : S.size = S.data.toList.length := by rw [Array.length_toList]; rfl
      have h2 : T3.size = T3.data.toList.length := by rw [Array.length_toList]; rfl
      have h3 := HT3S.out
      have h4 := HN.out
      rw [h1, hS, List.length_append, List.length_replicate]
      omega
    have HS2 := Lib.hid hS
    have HK := Lib.hid hK
    clear hS hK
    by_cases hlt : k < n
    · have hi : (k : Int) < (n : Int) := by omega
      have hz : ¬ 281474976710656 < S.size + (⟨#[192]⟩ : ByteArray).size := by show ¬ _ < S.size + 1; omega
      go_wp2_with fail
      go_roundw
      case rel => exact ⟨k + 1, _, by omega, by go_num, rfl, by rw [ByteArray.data_append, Array.toList_append, HS2.out, List.append_assoc]; congr 1; exact (List.replicate_succ' ..).symm, HK.out⟩
      case measure => simp [intOf]; omega
    · have hke : k = n := by omega
      subst hke
      have hge : ¬ (k : Int) < (k : Int) := by omega
      have hall := fun W => packAll_any S 1 W (by omega)
      rw [HS2.out, HT3.out] at hall
      have hl2 := HL.out
      rw [show UInt8.ofNat (220 + 0) = (220 : UInt8) from rfl] at hl2
      rw [hl2] at hall
      have HALL := Lib.hid hall
      have heq1 : ∀ W, (binOp .eql 35 (.agg #[.int .i64 3, .bool false, .int .u64 0, .string s, .int .i64 0]) (.agg #[.int .i64 3, .bool false, .int .u64 0, .string s, .int .i64 0])).run Try.prog W = .ok (.bool true) W := fun W => by
        have := eql_ev (evText s) (evText s) W
        rw [show (evText s).same (evText s) = true from same_iff.2 rfl] at this
        exact this
      have heq2 : ∀ W, (binOp .eql 35 (.agg #[.int .i64 4, .bool false, .int .u64 0, .string s, .int .i64 0]) (.agg #[.int .i64 4, .bool false, .int .u64 0, .string s, .int .i64 0])).run Try.prog W = .ok (.bool true) W := fun W => by
        have := eql_ev (evBytes s) (evBytes s) W
        rw [show (evBytes s).same (evBytes s) = true from same_iff.2 rfl] at this
        exact this
      have heq3 : ∀ W, (binOp .eql 35 (.agg #[.int .i64 5, .bool false, .int .u64 0, .string ⟨#[]⟩, .int .i64 k]) (.agg #[.int .i64 5, .bool false, .int .u64 0, .string ⟨#[]⟩, .int .i64 k])).run Try.prog W = .ok (.bool true) W := fun W => by
        have := eql_ev (evArr k) (evArr k) W
        rw [show (evArr k).same (evArr k) = true from same_iff.2 rfl] at this
        exact this
      clear hall hl2
      obtain ⟨wo, rfl⟩ : ∃ wo : World, wo = wr := ⟨_, rfl⟩
      go_wp2_with fail
      refine (HALL.out _).mono ?_
      rintro e w7 ⟨v7, rfl, hown7, k7⟩
      obtain ⟨o7, c7, rfl, hin7⟩ := evsIn_of_owns hown7
      have K7 := Lib.hid (K6.out.trans (HK.out.trans k7))
      have k57 := (K65.out.trans (HK.out.trans k7))
      have k47 := K45.out.trans k57
      have hlen7 : (evArr k :: (List.replicate k evNull ++ [evEnd])).length = k + 2 := by simp
      rw [hlen7] at hin7 ⊢
      obtain ⟨b7, f7, rfl, q0, q1, q2, q3, q4⟩ := hin7.get (k := 0) (by omega) (by simp)
      simp only [List.getElem_cons_zero, evArr, noText, Nat.zero_mul, Nat.add_zero] at q0 q1 q2 q3 q4
      obtain ⟨a0, a1, a2, a3, a4⟩ := P2.out
      obtain ⟨r0, r1, r2, r3, r4⟩ := P3.out
      have a0' := k47.cell a0 (by simp)
      have a1' := k47.cell a1 (by simp)
      have a2' := k47.cell a2 (by simp)
      have a3' := k47.cell a3 (by simp)
      have a4' := k47.cell a4 (by simp)
      have r0' := k57.cell r0 (by simp)
      have r1' := k57.cell r1 (by simp)
      have r2' := k57.cell r2 (by simp)
      have r3' := k57.cell r3 (by simp)
      have r4' := k57.cell r4 (by simp)
      have hkk : (0 : Int) < ((k + 2 : Nat) : Int) := by omega
      have hm7 := hin7.room
      have hm8 := hin7.most
      unfold maxLen at hm8
      clear hown7 hin7 k7 k57 k47 a0 a1 a2 a3 a4 r0 r1 r2 r3 r4
      go_wp2_with fail
      go_ret
      exact ⟨rfl, K7.out⟩

set_option maxHeartbeats 3200000 in
set_option maxRecDepth 100000 in
theorem long_1 (s : ByteArray) (hs : s.size ≤ 100) (hu : utf8 s.data.toList = true) (n : Nat) (hn : n ≤ 15) (form : Int) (hf : (wrap64 (form.tmod 3 + 3)).tmod 3 = 1) (w : World) :
    Calls Try.prog 5 #[.string s, .int .i64 n, .int .i64 form] w fun r w' => r = .returned (.bool true) ∧ Keeps [] w w' := by
  have hsl : s.data.toList.length = s.size := by rw [Array.length_toList]; rfl
  have h100 : ¬ 100 < (s.size : Int) := by omega
  have hn0 : ¬ (n : Int) < 0 := by omega
  have hn15 : ¬ 15 < (n : Int) := by omega
  have hws : IntKind.u64.wrap (s.size : Int) = s.size := by simp [IntKind.wrap, IntKind.bits, IntKind.signed]; omega
  have hwn : IntKind.u64.wrap (n : Int) = n := by simp [IntKind.wrap, IntKind.bits, IntKind.signed]; omega
  have hsh1 : Op.shift .shl .i64 1 .i64 1 = pure (.int .i64 2) := by rw [shift_shl_any _ _ _ _ (by decide)]; rfl
  have hsh2 : Op.shift .shl .i64 2 .i64 1 = pure (.int .i64 4) := by rw [shift_shl_any _ _ _ _ (by decide)]; rfl
  have hbs := fun W => big_any s.size 2 (by omega) (by omega) W
  have hbn := fun W => big_any n 4 (by omega) (by omega) W
  have ht := long_text true 1 1 (by omega) rfl s.data.toList (by rw [hsl]; exact hs) (fun _ => hu)
  have hb := long_text false 1 1 (by omega) rfl s.data.toList (by rw [hsl]; exact hs) (fun h => by cases h)
  have hl := long_list 1 n 3 (by omega) rfl hn
  rw [hsl] at ht hb
  have hgs : (bytesOf (bigB s.size 2)).size = 2 := by rw [bytesOf_sz, bigB_len]
  have hgn : (bytesOf (bigB n 4)).size = 4 := by rw [bytesOf_sz, bigB_len]
  have hst1 := lg_tx 218 (bigB s.size 2) s
  have hst2 := lg_tx 197 (bigB s.size 2) s
  obtain ⟨B1, hB1⟩ : ∃ B, bytesOf (bigB s.size 2) = B := ⟨_, rfl⟩
  obtain ⟨A1, hA1⟩ : ∃ A, (⟨#[218]⟩ : ByteArray) ++ B1 = A := ⟨_, rfl⟩
  obtain ⟨A2, hA2⟩ : ∃ A, (⟨#[197]⟩ : ByteArray) ++ B1 = A := ⟨_, rfl⟩
  obtain ⟨T1, hT1⟩ : ∃ T, A1 ++ s = T := ⟨_, rfl⟩
  obtain ⟨T2, hT2⟩ : ∃ T, A2 ++ s = T := ⟨_, rfl⟩
  obtain ⟨B3, hB3⟩ : ∃ B, bytesOf (bigB n 4) = B := ⟨_, rfl⟩
  obtain ⟨T3, hT3⟩ : ∃ A, (⟨#[221]⟩ : ByteArray) ++ B3 = A := ⟨_, rfl⟩
  have hT3d : T3.data.toList = 221 :: bigB n 4 := by rw [← hT3, ← hB3]; simp [ByteArray.data_append, bytesOf]
  rw [hB1] at hbs hgs hst1 hst2
  rw [hB3] at hbn hgn
  rw [hA1, hT1] at hst1
  rw [hA2, hT2] at hst2
  have hA1s : A1.size = 1 + B1.size := by rw [← hA1, ByteArray.size_append]; rfl
  have hA2s : A2.size = 1 + B1.size := by rw [← hA2, ByteArray.size_append]; rfl
  have hT1s : T1.size = A1.size + s.size := by rw [← hT1, ByteArray.size_append]
  have hT2s : T2.size = A2.size + s.size := by rw [← hT2, ByteArray.size_append]
  have hT3s : T3.size = 1 + B3.size := by rw [← hT3, ByteArray.size_append]; rfl
  have z1 : ¬ 281474976710656 < (⟨#[218]⟩ : ByteArray).size + B1.size := by show ¬ _ < 1 + B1.size; omega
  have z2 : ¬ 281474976710656 < (⟨#[197]⟩ : ByteArray).size + B1.size := by show ¬ _ < 1 + B1.size; omega
  have z3 : ¬ 281474976710656 < A1.size + s.size := by omega
  have z4 : ¬ 281474976710656 < A2.size + s.size := by omega
  have z5 : ¬ 281474976710656 < (⟨#[221]⟩ : ByteArray).size + B3.size := by show ¬ _ < 1 + B3.size; omega
  have hA := fun W => packAll_one (s := T1) (d := 1) (W := W) (by omega) (by rw [hst1]; exact ht)
  have hB := fun W => packAll_one (s := T2) (d := 1) (W := W) (by omega) (by rw [hst2]; exact hb)
  simp only [wordEv, if_true, if_false, Bool.false_eq_true, lg_back] at hA hB
  have HBS := Lib.hid hbs
  have HBN := Lib.hid hbn
  have HA := Lib.hid hA
  have HB := Lib.hid hB
  have HL := Lib.hid hl
  have HVD := Lib.hid (fun W => refValid_any s W (by omega))
  rw [hu] at HVD
  have HN := Lib.hid hn
  have HS := Lib.hid hs
  have HT3 := Lib.hid hT3d
  have HT3S := Lib.hid (show T3.size ≤ 10 by omega)
  clear ht hb hl hst1 hst2 hA hB hsl hn hu hbs hbn hgs hgn hB1 hB3 hA1s hA2s hT1s hT2s hT3s hT3d hs
  go_enter Try.func5, Try.ntmps5
  go_wp2_with fail
  refine (HVD.out w).mono ?_
  rintro e w0 ⟨rfl, rfl⟩
  go_wp2_with fail
  refine (palive_any w).mono ?_
  rintro e w1 ⟨rfl, k1⟩
  have K1 := Lib.hid k1
  clear k1
  have ca : ∀ (W : World) (t : TypeId), (convert 40 9 (.slice (some ⟨W.heap.size, 0, none⟩) 1 1)).run Try.prog (W.alloc (.cells #[.int .u8 218] t)) = .ok (.string ⟨#[218]⟩) (W.alloc (.cells #[.int .u8 218] t)) := fun W t =>
    lg_conv 218 _ _ ((Has.new' W #[.int .u8 218] t rfl).cell 0)
  have cb : ∀ (W : World) (t : TypeId), (convert 40 9 (.slice (some ⟨W.heap.size, 0, none⟩) 1 1)).run Try.prog (W.alloc (.cells #[.int .u8 218] t)).drew = .ok (.string ⟨#[218]⟩) (W.alloc (.cells #[.int .u8 218] t)).drew := fun W t =>
    lg_conv 218 _ _ ((Has.new' W #[.int .u8 218] t rfl).cell 0)
  have cw : IntKind.u8.wrap (IntKind.i64.wrap 218) = 218 := by decide
  go_upto_region 4 with fail
  go_cut [8] from 18 (fun s wx => s = .string T1 ∧ Keeps [] w1 wx)
  case first =>
    go_region_held (fun _ => True) (trivial) ((go_at_call 13; refine (HBS.out _).mono ?_; rintro e w9 ⟨rfl, k9⟩; try have c9 := lg_conv 218 w9 w1.heap.size (k9.cell ((Has.new' w1 #[.int .u8 218] _ rfl).cell 0) (by simp))))
    all_goals
      have KK : Keeps [] w1 w9 := by
        first
          | exact (((Keeps.refl [] w1).alloc _).drew).trans k9
          | exact ((Keeps.refl [] w1).drew).trans k9
          | exact (((Keeps.refl [] w1).drew).alloc _).trans k9
          | exact ((((Keeps.refl [] w1).drew).alloc _).drew).trans k9
      clear k9
      go_wp2_with fail
      go_meet
      case rel => exact ⟨rfl, by first | exact KK | exact KK.alloc _ | exact (KK.alloc _).drew | exact KK.drew⟩
  case rest =>
  obtain ⟨rfl, k2⟩ := hcut
  obtain ⟨wa, rfl⟩ : ∃ wa : World, wa = wc := ⟨_, rfl⟩
  have K2 := Lib.hid (K1.out.trans k2)
  clear k2 ca cb cw
  have ca : ∀ (W : World) (t : TypeId), (convert 40 9 (.slice (some ⟨W.heap.size, 0, none⟩) 1 1)).run Try.prog (W.alloc (.cells #[.int .u8 197] t)) = .ok (.string ⟨#[197]⟩) (W.alloc (.cells #[.int .u8 197] t)) := fun W t =>
    lg_conv 197 _ _ ((Has.new' W #[.int .u8 197] t rfl).cell 0)
  have cb : ∀ (W : World) (t : TypeId), (convert 40 9 (.slice (some ⟨W.heap.size, 0, none⟩) 1 1)).run Try.prog (W.alloc (.cells #[.int .u8 197] t)).drew = .ok (.string ⟨#[197]⟩) (W.alloc (.cells #[.int .u8 197] t)).drew := fun W t =>
    lg_conv 197 _ _ ((Has.new' W #[.int .u8 197] t rfl).cell 0)
  have cw : IntKind.u8.wrap (IntKind.i64.wrap 197) = 197 := by decide
  go_upto_region 5 with fail
  go_cut [9] from 18 (fun s wx => s = .string T2 ∧ Keeps [] wa wx)
  case first =>
    go_region_held (fun _ => True) (trivial) ((go_at_call 13; refine (HBS.out _).mono ?_; rintro e w9 ⟨rfl, k9⟩; try have c9 := lg_conv 197 w9 wa.heap.size (k9.cell ((Has.new' wa #[.int .u8 197] _ rfl).cell 0) (by simp))))
    all_goals
      have KK : Keeps [] wa w9 := by
        first
          | exact (((Keeps.refl [] wa).alloc _).drew).trans k9
          | exact ((Keeps.refl [] wa).drew).trans k9
          | exact (((Keeps.refl [] wa).drew).alloc _).trans k9
          | exact ((((Keeps.refl [] wa).drew).alloc _).drew).trans k9
      clear k9
      go_wp2_with fail
      go_meet
      case rel => exact ⟨rfl, by first | exact KK | exact KK.alloc _ | exact (KK.alloc _).drew | exact KK.drew⟩
  case rest =>
  obtain ⟨rfl, k3⟩ := hcut
  obtain ⟨wb, rfl⟩ : ∃ wb : World, wb = wc := ⟨_, rfl⟩
  have K3 := Lib.hid (K2.out.trans k3)
  clear k3 ca cb cw
  clear hsh1 hws hA1 hA2 hT1 hT2 z1 z2 z3 z4
  go_wp2_with fail
  refine (HA.out _).mono ?_
  rintro e w4 ⟨b2, o2, c2, rfl, p2, hc2, k4⟩
  simp only [evText] at p2
  have P2 := Lib.hid p2
  have K4 := Lib.hid (K3.out.trans k4)
  clear p2 k4
  go_wp2_with fail
  refine (HB.out _).mono ?_
  rintro e w5 ⟨b3, o3, c3, rfl, p3, hc3, k5⟩
  simp only [evBytes] at p3
  have P3 := Lib.hid p3
  have K5 := Lib.hid (K4.out.trans k5)
  have K45 := Lib.hid k5
  clear p3 k5
  have ca : ∀ (W : World) (t : TypeId), (convert 40 9 (.slice (some ⟨W.heap.size, 0, none⟩) 1 1)).run Try.prog (W.alloc (.cells #[.int .u8 221] t)) = .ok (.string ⟨#[221]⟩) (W.alloc (.cells #[.int .u8 221] t)) := fun W t =>
    lg_conv 221 _ _ ((Has.new' W #[.int .u8 221] t rfl).cell 0)
  have cb : ∀ (W : World) (t : TypeId), (convert 40 9 (.slice (some ⟨W.heap.size, 0, none⟩) 1 1)).run Try.prog (W.alloc (.cells #[.int .u8 221] t)).drew = .ok (.string ⟨#[221]⟩) (W.alloc (.cells #[.int .u8 221] t)).drew := fun W t =>
    lg_conv 221 _ _ ((Has.new' W #[.int .u8 221] t rfl).cell 0)
  have cw : IntKind.u8.wrap (IntKind.i64.wrap 221) = 221 := by decide
  go_upto_region 8 with fail
  go_cut [14] from 18 (fun s wx => s = .string T3 ∧ Keeps [] w5 wx)
  case first =>
    go_region_held (fun _ => True) (trivial) ((go_at_call 13; refine (HBN.out _).mono ?_; rintro e w9 ⟨rfl, k9⟩; try have c9 := lg_conv 221 w9 w5.heap.size (k9.cell ((Has.new' w5 #[.int .u8 221] _ rfl).cell 0) (by simp))))
    all_goals
      have KK : Keeps [] w5 w9 := by
        first
          | exact (((Keeps.refl [] w5).alloc _).drew).trans k9
          | exact ((Keeps.refl [] w5).drew).trans k9
          | exact (((Keeps.refl [] w5).drew).alloc _).trans k9
          | exact ((((Keeps.refl [] w5).drew).alloc _).drew).trans k9
      clear k9
      go_wp2_with fail
      go_meet
      case rel => exact ⟨rfl, by first | exact KK | exact KK.alloc _ | exact (KK.alloc _).drew | exact KK.drew⟩
  case rest =>
  obtain ⟨rfl, k6⟩ := hcut
  obtain ⟨wd, rfl⟩ : ∃ wd : World, wd = wc := ⟨_, rfl⟩
  have K6 := Lib.hid (K5.out.trans k6)
  have K65 := Lib.hid k6
  clear k6 ca cb cw
  clear hsh2 hwn hT3 z5
  go_wp2_with fail
  go_loopw [14, 15] (fun v i wr => LgRel n T3 wd v i wr) (fun _ i _ => n - (intOf i).toNat)
  case atStart => exact ⟨0, T3, Nat.zero_le _, rfl, rfl, by simp, Keeps.refl _ _⟩
  case round =>
    obtain ⟨k, S, hk, rfl, rfl, hS, hK⟩ := hrel
    have hSs : S.size ≤ 25 := by
      have h1 : S.size = S.data.toList.length := by rw [Array.length_toList]; rfl
      have h2 : T3.size = T3.data.toList.length := by rw [Array.length_toList]; rfl
      have h3 := HT3S.out
      have h4 := HN.out
      rw [h1, hS, List.length_append, List.length_replicate]
      omega
    have HS2 := Lib.hid hS
    have HK := Lib.hid hK
    clear hS hK
    by_cases hlt : k < n
    · have hi : (k : Int) < (n : Int) := by omega
      have hz : ¬ 281474976710656 < S.size + (⟨#[192]⟩ : ByteArray).size := by show ¬ _ < S.size + 1; omega
      go_wp2_with fail
      go_roundw
      case rel => exact ⟨k + 1, _, by omega, by go_num, rfl, by rw [ByteArray.data_append, Array.toList_append, HS2.out, List.append_assoc]; congr 1; exact (List.replicate_succ' ..).symm, HK.out⟩
      case measure => simp [intOf]; omega
    · have hke : k = n := by omega
      subst hke
      have hge : ¬ (k : Int) < (k : Int) := by omega
      have hall := fun W => packAll_any S 1 W (by omega)
      rw [HS2.out, HT3.out] at hall
      have hl2 := HL.out
      rw [show UInt8.ofNat (220 + 1) = (221 : UInt8) from rfl] at hl2
      rw [hl2] at hall
      have HALL := Lib.hid hall
      have heq1 : ∀ W, (binOp .eql 35 (.agg #[.int .i64 3, .bool false, .int .u64 0, .string s, .int .i64 0]) (.agg #[.int .i64 3, .bool false, .int .u64 0, .string s, .int .i64 0])).run Try.prog W = .ok (.bool true) W := fun W => by
        have := eql_ev (evText s) (evText s) W
        rw [show (evText s).same (evText s) = true from same_iff.2 rfl] at this
        exact this
      have heq2 : ∀ W, (binOp .eql 35 (.agg #[.int .i64 4, .bool false, .int .u64 0, .string s, .int .i64 0]) (.agg #[.int .i64 4, .bool false, .int .u64 0, .string s, .int .i64 0])).run Try.prog W = .ok (.bool true) W := fun W => by
        have := eql_ev (evBytes s) (evBytes s) W
        rw [show (evBytes s).same (evBytes s) = true from same_iff.2 rfl] at this
        exact this
      have heq3 : ∀ W, (binOp .eql 35 (.agg #[.int .i64 5, .bool false, .int .u64 0, .string ⟨#[]⟩, .int .i64 k]) (.agg #[.int .i64 5, .bool false, .int .u64 0, .string ⟨#[]⟩, .int .i64 k])).run Try.prog W = .ok (.bool true) W := fun W => by
        have := eql_ev (evArr k) (evArr k) W
        rw [show (evArr k).same (evArr k) = true from same_iff.2 rfl] at this
        exact this
      clear hall hl2
      obtain ⟨wo, rfl⟩ : ∃ wo : World, wo = wr := ⟨_, rfl⟩
      go_wp2_with fail
      refine (HALL.out _).mono ?_
      rintro e w7 ⟨v7, rfl, hown7, k7⟩
      obtain ⟨o7, c7, rfl, hin7⟩ := evsIn_of_owns hown7
      have K7 := Lib.hid (K6.out.trans (HK.out.trans k7))
      have k57 := (K65.out.trans (HK.out.trans k7))
      have k47 := K45.out.trans k57
      have hlen7 : (evArr k :: (List.replicate k evNull ++ [evEnd])).length = k + 2 := by simp
      rw [hlen7] at hin7 ⊢
      obtain ⟨b7, f7, rfl, q0, q1, q2, q3, q4⟩ := hin7.get (k := 0) (by omega) (by simp)
      simp only [List.getElem_cons_zero, evArr, noText, Nat.zero_mul, Nat.add_zero] at q0 q1 q2 q3 q4
      obtain ⟨a0, a1, a2, a3, a4⟩ := P2.out
      obtain ⟨r0, r1, r2, r3, r4⟩ := P3.out
      have a0' := k47.cell a0 (by simp)
      have a1' := k47.cell a1 (by simp)
      have a2' := k47.cell a2 (by simp)
      have a3' := k47.cell a3 (by simp)
      have a4' := k47.cell a4 (by simp)
      have r0' := k57.cell r0 (by simp)
      have r1' := k57.cell r1 (by simp)
      have r2' := k57.cell r2 (by simp)
      have r3' := k57.cell r3 (by simp)
      have r4' := k57.cell r4 (by simp)
      have hkk : (0 : Int) < ((k + 2 : Nat) : Int) := by omega
      have hm7 := hin7.room
      have hm8 := hin7.most
      unfold maxLen at hm8
      clear hown7 hin7 k7 k57 k47 a0 a1 a2 a3 a4 r0 r1 r2 r3 r4
      go_wp2_with fail
      go_ret
      exact ⟨rfl, K7.out⟩

set_option maxHeartbeats 3200000 in
set_option maxRecDepth 100000 in
theorem long_2 (s : ByteArray) (hs : s.size ≤ 100) (hu : utf8 s.data.toList = true) (n : Nat) (hn : n ≤ 15) (form : Int) (hf : (wrap64 (form.tmod 3 + 3)).tmod 3 = 2) (w : World) :
    Calls Try.prog 5 #[.string s, .int .i64 n, .int .i64 form] w fun r w' => r = .returned (.bool true) ∧ Keeps [] w w' := by
  have hsl : s.data.toList.length = s.size := by rw [Array.length_toList]; rfl
  have h100 : ¬ 100 < (s.size : Int) := by omega
  have hn0 : ¬ (n : Int) < 0 := by omega
  have hn15 : ¬ 15 < (n : Int) := by omega
  have hws : IntKind.u64.wrap (s.size : Int) = s.size := by simp [IntKind.wrap, IntKind.bits, IntKind.signed]; omega
  have hwn : IntKind.u64.wrap (n : Int) = n := by simp [IntKind.wrap, IntKind.bits, IntKind.signed]; omega
  have hsh1 : Op.shift .shl .i64 1 .i64 2 = pure (.int .i64 4) := by rw [shift_shl_any _ _ _ _ (by decide)]; rfl
  have hsh2 : Op.shift .shl .i64 2 .i64 0 = pure (.int .i64 2) := by rw [shift_shl_any _ _ _ _ (by decide)]; rfl
  have hbs := fun W => big_any s.size 4 (by omega) (by omega) W
  have hbn := fun W => big_any n 2 (by omega) (by omega) W
  have ht := long_text true 2 3 (by omega) rfl s.data.toList (by rw [hsl]; exact hs) (fun _ => hu)
  have hb := long_text false 2 3 (by omega) rfl s.data.toList (by rw [hsl]; exact hs) (fun h => by cases h)
  have hl := long_list 0 n 1 (by omega) rfl hn
  rw [hsl] at ht hb
  have hgs : (bytesOf (bigB s.size 4)).size = 4 := by rw [bytesOf_sz, bigB_len]
  have hgn : (bytesOf (bigB n 2)).size = 2 := by rw [bytesOf_sz, bigB_len]
  have hst1 := lg_tx 219 (bigB s.size 4) s
  have hst2 := lg_tx 198 (bigB s.size 4) s
  obtain ⟨B1, hB1⟩ : ∃ B, bytesOf (bigB s.size 4) = B := ⟨_, rfl⟩
  obtain ⟨A1, hA1⟩ : ∃ A, (⟨#[219]⟩ : ByteArray) ++ B1 = A := ⟨_, rfl⟩
  obtain ⟨A2, hA2⟩ : ∃ A, (⟨#[198]⟩ : ByteArray) ++ B1 = A := ⟨_, rfl⟩
  obtain ⟨T1, hT1⟩ : ∃ T, A1 ++ s = T := ⟨_, rfl⟩
  obtain ⟨T2, hT2⟩ : ∃ T, A2 ++ s = T := ⟨_, rfl⟩
  obtain ⟨B3, hB3⟩ : ∃ B, bytesOf (bigB n 2) = B := ⟨_, rfl⟩
  obtain ⟨T3, hT3⟩ : ∃ A, (⟨#[220]⟩ : ByteArray) ++ B3 = A := ⟨_, rfl⟩
  have hT3d : T3.data.toList = 220 :: bigB n 2 := by rw [← hT3, ← hB3]; simp [ByteArray.data_append, bytesOf]
  rw [hB1] at hbs hgs hst1 hst2
  rw [hB3] at hbn hgn
  rw [hA1, hT1] at hst1
  rw [hA2, hT2] at hst2
  have hA1s : A1.size = 1 + B1.size := by rw [← hA1, ByteArray.size_append]; rfl
  have hA2s : A2.size = 1 + B1.size := by rw [← hA2, ByteArray.size_append]; rfl
  have hT1s : T1.size = A1.size + s.size := by rw [← hT1, ByteArray.size_append]
  have hT2s : T2.size = A2.size + s.size := by rw [← hT2, ByteArray.size_append]
  have hT3s : T3.size = 1 + B3.size := by rw [← hT3, ByteArray.size_append]; rfl
  have z1 : ¬ 281474976710656 < (⟨#[219]⟩ : ByteArray).size + B1.size := by show ¬ _ < 1 + B1.size; omega
  have z2 : ¬ 281474976710656 < (⟨#[198]⟩ : ByteArray).size + B1.size := by show ¬ _ < 1 + B1.size; omega
  have z3 : ¬ 281474976710656 < A1.size + s.size := by omega
  have z4 : ¬ 281474976710656 < A2.size + s.size := by omega
  have z5 : ¬ 281474976710656 < (⟨#[220]⟩ : ByteArray).size + B3.size := by show ¬ _ < 1 + B3.size; omega
  have hA := fun W => packAll_one (s := T1) (d := 1) (W := W) (by omega) (by rw [hst1]; exact ht)
  have hB := fun W => packAll_one (s := T2) (d := 1) (W := W) (by omega) (by rw [hst2]; exact hb)
  simp only [wordEv, if_true, if_false, Bool.false_eq_true, lg_back] at hA hB
  have HBS := Lib.hid hbs
  have HBN := Lib.hid hbn
  have HA := Lib.hid hA
  have HB := Lib.hid hB
  have HL := Lib.hid hl
  have HVD := Lib.hid (fun W => refValid_any s W (by omega))
  rw [hu] at HVD
  have HN := Lib.hid hn
  have HS := Lib.hid hs
  have HT3 := Lib.hid hT3d
  have HT3S := Lib.hid (show T3.size ≤ 10 by omega)
  clear ht hb hl hst1 hst2 hA hB hsl hn hu hbs hbn hgs hgn hB1 hB3 hA1s hA2s hT1s hT2s hT3s hT3d hs
  go_enter Try.func5, Try.ntmps5
  go_wp2_with fail
  refine (HVD.out w).mono ?_
  rintro e w0 ⟨rfl, rfl⟩
  go_wp2_with fail
  refine (palive_any w).mono ?_
  rintro e w1 ⟨rfl, k1⟩
  have K1 := Lib.hid k1
  clear k1
  have ca : ∀ (W : World) (t : TypeId), (convert 40 9 (.slice (some ⟨W.heap.size, 0, none⟩) 1 1)).run Try.prog (W.alloc (.cells #[.int .u8 219] t)) = .ok (.string ⟨#[219]⟩) (W.alloc (.cells #[.int .u8 219] t)) := fun W t =>
    lg_conv 219 _ _ ((Has.new' W #[.int .u8 219] t rfl).cell 0)
  have cb : ∀ (W : World) (t : TypeId), (convert 40 9 (.slice (some ⟨W.heap.size, 0, none⟩) 1 1)).run Try.prog (W.alloc (.cells #[.int .u8 219] t)).drew = .ok (.string ⟨#[219]⟩) (W.alloc (.cells #[.int .u8 219] t)).drew := fun W t =>
    lg_conv 219 _ _ ((Has.new' W #[.int .u8 219] t rfl).cell 0)
  have cw : IntKind.u8.wrap (IntKind.i64.wrap 219) = 219 := by decide
  go_upto_region 4 with fail
  go_cut [8] from 18 (fun s wx => s = .string T1 ∧ Keeps [] w1 wx)
  case first =>
    go_region_held (fun _ => True) (trivial) ((go_at_call 13; refine (HBS.out _).mono ?_; rintro e w9 ⟨rfl, k9⟩; try have c9 := lg_conv 219 w9 w1.heap.size (k9.cell ((Has.new' w1 #[.int .u8 219] _ rfl).cell 0) (by simp))))
    all_goals
      have KK : Keeps [] w1 w9 := by
        first
          | exact (((Keeps.refl [] w1).alloc _).drew).trans k9
          | exact ((Keeps.refl [] w1).drew).trans k9
          | exact (((Keeps.refl [] w1).drew).alloc _).trans k9
          | exact ((((Keeps.refl [] w1).drew).alloc _).drew).trans k9
      clear k9
      go_wp2_with fail
      go_meet
      case rel => exact ⟨rfl, by first | exact KK | exact KK.alloc _ | exact (KK.alloc _).drew | exact KK.drew⟩
  case rest =>
  obtain ⟨rfl, k2⟩ := hcut
  obtain ⟨wa, rfl⟩ : ∃ wa : World, wa = wc := ⟨_, rfl⟩
  have K2 := Lib.hid (K1.out.trans k2)
  clear k2 ca cb cw
  have ca : ∀ (W : World) (t : TypeId), (convert 40 9 (.slice (some ⟨W.heap.size, 0, none⟩) 1 1)).run Try.prog (W.alloc (.cells #[.int .u8 198] t)) = .ok (.string ⟨#[198]⟩) (W.alloc (.cells #[.int .u8 198] t)) := fun W t =>
    lg_conv 198 _ _ ((Has.new' W #[.int .u8 198] t rfl).cell 0)
  have cb : ∀ (W : World) (t : TypeId), (convert 40 9 (.slice (some ⟨W.heap.size, 0, none⟩) 1 1)).run Try.prog (W.alloc (.cells #[.int .u8 198] t)).drew = .ok (.string ⟨#[198]⟩) (W.alloc (.cells #[.int .u8 198] t)).drew := fun W t =>
    lg_conv 198 _ _ ((Has.new' W #[.int .u8 198] t rfl).cell 0)
  have cw : IntKind.u8.wrap (IntKind.i64.wrap 198) = 198 := by decide
  go_upto_region 5 with fail
  go_cut [9] from 18 (fun s wx => s = .string T2 ∧ Keeps [] wa wx)
  case first =>
    go_region_held (fun _ => True) (trivial) ((go_at_call 13; refine (HBS.out _).mono ?_; rintro e w9 ⟨rfl, k9⟩; try have c9 := lg_conv 198 w9 wa.heap.size (k9.cell ((Has.new' wa #[.int .u8 198] _ rfl).cell 0) (by simp))))
    all_goals
      have KK : Keeps [] wa w9 := by
        first
          | exact (((Keeps.refl [] wa).alloc _).drew).trans k9
          | exact ((Keeps.refl [] wa).drew).trans k9
          | exact (((Keeps.refl [] wa).drew).alloc _).trans k9
          | exact ((((Keeps.refl [] wa).drew).alloc _).drew).trans k9
      clear k9
      go_wp2_with fail
      go_meet
      case rel => exact ⟨rfl, by first | exact KK | exact KK.alloc _ | exact (KK.alloc _).drew | exact KK.drew⟩
  case rest =>
  obtain ⟨rfl, k3⟩ := hcut
  obtain ⟨wb, rfl⟩ : ∃ wb : World, wb = wc := ⟨_, rfl⟩
  have K3 := Lib.hid (K2.out.trans k3)
  clear k3 ca cb cw
  clear hsh1 hws hA1 hA2 hT1 hT2 z1 z2 z3 z4
  go_wp2_with fail
  refine (HA.out _).mono ?_
  rintro e w4 ⟨b2, o2, c2, rfl, p2, hc2, k4⟩
  simp only [evText] at p2
  have P2 := Lib.hid p2
  have K4 := Lib.hid (K3.out.trans k4)
  clear p2 k4
  go_wp2_with fail
  refine (HB.out _).mono ?_
  rintro e w5 ⟨b3, o3, c3, rfl, p3, hc3, k5⟩
  simp only [evBytes] at p3
  have P3 := Lib.hid p3
  have K5 := Lib.hid (K4.out.trans k5)
  have K45 := Lib.hid k5
  clear p3 k5
  have ca : ∀ (W : World) (t : TypeId), (convert 40 9 (.slice (some ⟨W.heap.size, 0, none⟩) 1 1)).run Try.prog (W.alloc (.cells #[.int .u8 220] t)) = .ok (.string ⟨#[220]⟩) (W.alloc (.cells #[.int .u8 220] t)) := fun W t =>
    lg_conv 220 _ _ ((Has.new' W #[.int .u8 220] t rfl).cell 0)
  have cb : ∀ (W : World) (t : TypeId), (convert 40 9 (.slice (some ⟨W.heap.size, 0, none⟩) 1 1)).run Try.prog (W.alloc (.cells #[.int .u8 220] t)).drew = .ok (.string ⟨#[220]⟩) (W.alloc (.cells #[.int .u8 220] t)).drew := fun W t =>
    lg_conv 220 _ _ ((Has.new' W #[.int .u8 220] t rfl).cell 0)
  have cw : IntKind.u8.wrap (IntKind.i64.wrap 220) = 220 := by decide
  go_upto_region 8 with fail
  go_cut [14] from 18 (fun s wx => s = .string T3 ∧ Keeps [] w5 wx)
  case first =>
    go_region_held (fun _ => True) (trivial) ((go_at_call 13; refine (HBN.out _).mono ?_; rintro e w9 ⟨rfl, k9⟩; try have c9 := lg_conv 220 w9 w5.heap.size (k9.cell ((Has.new' w5 #[.int .u8 220] _ rfl).cell 0) (by simp))))
    all_goals
      have KK : Keeps [] w5 w9 := by
        first
          | exact (((Keeps.refl [] w5).alloc _).drew).trans k9
          | exact ((Keeps.refl [] w5).drew).trans k9
          | exact (((Keeps.refl [] w5).drew).alloc _).trans k9
          | exact ((((Keeps.refl [] w5).drew).alloc _).drew).trans k9
      clear k9
      go_wp2_with fail
      go_meet
      case rel => exact ⟨rfl, by first | exact KK | exact KK.alloc _ | exact (KK.alloc _).drew | exact KK.drew⟩
  case rest =>
  obtain ⟨rfl, k6⟩ := hcut
  obtain ⟨wd, rfl⟩ : ∃ wd : World, wd = wc := ⟨_, rfl⟩
  have K6 := Lib.hid (K5.out.trans k6)
  have K65 := Lib.hid k6
  clear k6 ca cb cw
  clear hsh2 hwn hT3 z5
  go_wp2_with fail
  go_loopw [14, 15] (fun v i wr => LgRel n T3 wd v i wr) (fun _ i _ => n - (intOf i).toNat)
  case atStart => exact ⟨0, T3, Nat.zero_le _, rfl, rfl, by simp, Keeps.refl _ _⟩
  case round =>
    obtain ⟨k, S, hk, rfl, rfl, hS, hK⟩ := hrel
    have hSs : S.size ≤ 25 := by
      have h1 : S.size = S.data.toList.length := by rw [Array.length_toList]; rfl
      have h2 : T3.size = T3.data.toList.length := by rw [Array.length_toList]; rfl
      have h3 := HT3S.out
      have h4 := HN.out
      rw [h1, hS, List.length_append, List.length_replicate]
      omega
    have HS2 := Lib.hid hS
    have HK := Lib.hid hK
    clear hS hK
    by_cases hlt : k < n
    · have hi : (k : Int) < (n : Int) := by omega
      have hz : ¬ 281474976710656 < S.size + (⟨#[192]⟩ : ByteArray).size := by show ¬ _ < S.size + 1; omega
      go_wp2_with fail
      go_roundw
      case rel => exact ⟨k + 1, _, by omega, by go_num, rfl, by rw [ByteArray.data_append, Array.toList_append, HS2.out, List.append_assoc]; congr 1; exact (List.replicate_succ' ..).symm, HK.out⟩
      case measure => simp [intOf]; omega
    · have hke : k = n := by omega
      subst hke
      have hge : ¬ (k : Int) < (k : Int) := by omega
      have hall := fun W => packAll_any S 1 W (by omega)
      rw [HS2.out, HT3.out] at hall
      have hl2 := HL.out
      rw [show UInt8.ofNat (220 + 0) = (220 : UInt8) from rfl] at hl2
      rw [hl2] at hall
      have HALL := Lib.hid hall
      have heq1 : ∀ W, (binOp .eql 35 (.agg #[.int .i64 3, .bool false, .int .u64 0, .string s, .int .i64 0]) (.agg #[.int .i64 3, .bool false, .int .u64 0, .string s, .int .i64 0])).run Try.prog W = .ok (.bool true) W := fun W => by
        have := eql_ev (evText s) (evText s) W
        rw [show (evText s).same (evText s) = true from same_iff.2 rfl] at this
        exact this
      have heq2 : ∀ W, (binOp .eql 35 (.agg #[.int .i64 4, .bool false, .int .u64 0, .string s, .int .i64 0]) (.agg #[.int .i64 4, .bool false, .int .u64 0, .string s, .int .i64 0])).run Try.prog W = .ok (.bool true) W := fun W => by
        have := eql_ev (evBytes s) (evBytes s) W
        rw [show (evBytes s).same (evBytes s) = true from same_iff.2 rfl] at this
        exact this
      have heq3 : ∀ W, (binOp .eql 35 (.agg #[.int .i64 5, .bool false, .int .u64 0, .string ⟨#[]⟩, .int .i64 k]) (.agg #[.int .i64 5, .bool false, .int .u64 0, .string ⟨#[]⟩, .int .i64 k])).run Try.prog W = .ok (.bool true) W := fun W => by
        have := eql_ev (evArr k) (evArr k) W
        rw [show (evArr k).same (evArr k) = true from same_iff.2 rfl] at this
        exact this
      clear hall hl2
      obtain ⟨wo, rfl⟩ : ∃ wo : World, wo = wr := ⟨_, rfl⟩
      go_wp2_with fail
      refine (HALL.out _).mono ?_
      rintro e w7 ⟨v7, rfl, hown7, k7⟩
      obtain ⟨o7, c7, rfl, hin7⟩ := evsIn_of_owns hown7
      have K7 := Lib.hid (K6.out.trans (HK.out.trans k7))
      have k57 := (K65.out.trans (HK.out.trans k7))
      have k47 := K45.out.trans k57
      have hlen7 : (evArr k :: (List.replicate k evNull ++ [evEnd])).length = k + 2 := by simp
      rw [hlen7] at hin7 ⊢
      obtain ⟨b7, f7, rfl, q0, q1, q2, q3, q4⟩ := hin7.get (k := 0) (by omega) (by simp)
      simp only [List.getElem_cons_zero, evArr, noText, Nat.zero_mul, Nat.add_zero] at q0 q1 q2 q3 q4
      obtain ⟨a0, a1, a2, a3, a4⟩ := P2.out
      obtain ⟨r0, r1, r2, r3, r4⟩ := P3.out
      have a0' := k47.cell a0 (by simp)
      have a1' := k47.cell a1 (by simp)
      have a2' := k47.cell a2 (by simp)
      have a3' := k47.cell a3 (by simp)
      have a4' := k47.cell a4 (by simp)
      have r0' := k57.cell r0 (by simp)
      have r1' := k57.cell r1 (by simp)
      have r2' := k57.cell r2 (by simp)
      have r3' := k57.cell r3 (by simp)
      have r4' := k57.cell r4 (by simp)
      have hkk : (0 : Int) < ((k + 2 : Nat) : Int) := by omega
      have hm7 := hin7.room
      have hm8 := hin7.most
      unfold maxLen at hm8
      clear hown7 hin7 k7 k57 k47 a0 a1 a2 a3 a4 r0 r1 r2 r3 r4
      go_wp2_with fail
      go_ret
      exact ⟨rfl, K7.out⟩

end Go.Proofs.Ytmcbdkhlbmhfeaa
