/-
  DecimalFloats' walk.
-/
import Derived.Test.YtfgnjaelfjabmaaDoorDecRange
import Derived.Deep.RegionHeld
import Derived.Deep.QuietTactic
import Derived.BigQuiet
namespace Go.Proofs.YtfgnjaelfjabmaaDoor
open Go.RowKit Go.Tru

theorem str_c (W : World) (b : UInt8) (g : Nat) (h : W.cell? ⟨g, 0, none⟩ = some (.int .u8 b.toNat)) :
    (convert 39 9 (.slice (some ⟨g, 0, none⟩) 1 1)).run Tryd.prog W = .ok (.string ⟨[b].toArray⟩) W := by
  exact run_convert_bytes_back W 39 9 5 ⟨g, 0, none⟩ 1 [b] Tryd.underlying39 Tryd.underlying5 Tryd.underlying9 (fun j hj => by
    obtain rfl : j = 0 := by simp at hj; omega
    exact h)

theorem print_len (g : Bool) (m : Nat) (hm : m < 18446744073709551616) : (printW g m).length ≤ 21 := by
  cases g
  · have := dec_size m hm
    simp only [printW, Bool.false_eq_true, if_false]
    omega
  · by_cases ht : m = 18446744073709551615
    · subst ht
      simp only [printW, if_true]
      rw [dec_top]
      decide
    · have := dec_size (m + 1) (by omega)
      simp only [printW, if_true, List.length_cons]
      omega

theorem toList_str (s : ByteArray) : s = (⟨s.data.toList.toArray⟩ : ByteArray) := by apply ByteArray.ext; simp

set_option maxHeartbeats 16000000 in
set_option maxRecDepth 100000 in
theorem floats_at (c : UInt8) (j : Nat) (hc : c = 46 ∧ j = 0 ∨ c = 101 ∧ j = 1 ∨ c = 69 ∧ j = 2) (g : Bool) (m : Nat) (k : Int) (s : ByteArray) (w : World) (hm : m < 18446744073709551616) (hs : s.size ≤ 20)
    (hidx : (wrap64 (k.tmod 3 + 3)).tmod 3 = j) (htab : PowTab w) :
    Calls Tryd.prog 6 #[.agg #[.bool g, .int .u64 (m : Int)], .int .i64 k, .string s] w fun e w' => e = .returned (.bool true) ∧ Below w.heap.size w w' := by
  have hcc : c = 46 ∨ c = 101 ∨ c = 69 := by
    rcases hc with h | h | h
    · exact Or.inl h.1
    · exact Or.inr (Or.inl h.1)
    · exact Or.inr (Or.inr h.1)
  have hp := fun W h => print_any g m hm W h
  have hpl := dec_size m hm
  obtain ⟨P, hP⟩ : ∃ P, (⟨(printW g m).toArray⟩ : ByteArray) = P := ⟨_, rfl⟩
  have hPs : P.size ≤ 21 := by rw [← hP]; have := print_len g m hm; simpa [ByteArray.size] using this
  rw [hP] at hp
  obtain ⟨D, hD⟩ : ∃ D : ByteArray, (⟨[c].toArray⟩ : ByteArray) = D := ⟨_, rfl⟩
  have hDs : D.size = 1 := by rw [← hD]; rfl
  obtain ⟨A, hA⟩ : ∃ A, P ++ D = A := ⟨_, rfl⟩
  have hAs : A.size = P.size + D.size := by rw [← hA, ByteArray.size_append]
  obtain ⟨S1, h1⟩ : ∃ S1, A ++ s = S1 := ⟨_, rfl⟩
  obtain ⟨S2, h2⟩ : ∃ S2, D ++ s = S2 := ⟨_, rfl⟩
  obtain ⟨B, hB⟩ : ∃ B, (⟨#[45]⟩ : ByteArray) ++ D = B := ⟨_, rfl⟩
  have hBs : B.size = 1 + D.size := by rw [← hB, ByteArray.size_append]; rfl
  obtain ⟨S3, h3⟩ : ∃ S3, B ++ s = S3 := ⟨_, rfl⟩
  have hp1 := fun W => parse_any S1 W
  have hp2 := fun W => parse_any S2 W
  have hp3 := fun W => parse_any S3 W
  rw [show parseFrom Num.new S1.data.toList = (false, 0, 6) by rw [← h1, ← hA, ← hP, ← hD, toList_str s, cat_lists, cat_lists]; simpa using float_print g m hcc s.data.toList] at hp1
  rw [show parseFrom Num.new S2.data.toList = (false, 0, 2) by rw [← h2, ← hD, toList_str s, cat_lists]; simpa using (float_none hcc s.data.toList).1] at hp2
  rw [show parseFrom Num.new S3.data.toList = (false, 0, 2) by rw [← h3, ← hB, ← hD, toList_str s, show (⟨#[45]⟩ : ByteArray) = ⟨[45].toArray⟩ from rfl, cat_lists, cat_lists]; simpa using (float_none hcc s.data.toList).2] at hp3
  have z1 : ¬ 281474976710656 < P.size + D.size := by omega
  have z2 : ¬ 281474976710656 < A.size + s.size := by omega
  have z3 : ¬ 281474976710656 < D.size + s.size := by omega
  have z4 : ¬ 281474976710656 < (⟨#[45]⟩ : ByteArray).size + D.size := by show ¬ 281474976710656 < 1 + _; omega
  have z5 : ¬ 281474976710656 < B.size + s.size := by omega
  have z6 : ¬ 20 < (s.size : Int) := by omega
  have hconv : ∀ (W : World) (g : Nat), W.cell? ⟨g, 0, none⟩ = some (.int .u8 c.toNat) → (convert 39 9 (.slice (some ⟨g, 0, none⟩) 1 1)).run Tryd.prog W = .ok (.string D) W := fun W g h => by rw [← hD]; exact str_c W c g h
  have HT := Lib.hid htab
  have HP := Lib.hid hp
  have HP1 := Lib.hid hp1
  have HP2 := Lib.hid hp2
  have HP3 := Lib.hid hp3
  clear htab hp hp1 hp2 hp3 hpl hPs hDs hAs hBs hm hs hcc hP hD
  obtain ⟨x, hx⟩ : ∃ x : Int, (c.toNat : Int) = x := ⟨_, rfl⟩
  rw [hx] at hconv
  have hconvA : ∀ (W : World) (t : TypeId), (convert 39 9 (.slice (some ⟨W.heap.size, 0, none⟩) 1 1)).run Tryd.prog (W.alloc (.cells #[.int .u8 x] t)) = .ok (.string D) (W.alloc (.cells #[.int .u8 x] t)) := fun W t =>
    hconv _ _ ((Has.new' W #[.int .u8 x] t rfl).cell 0)
  have hconvB : ∀ (W : World) (t : TypeId), (convert 39 9 (.slice (some ⟨W.heap.size, 0, none⟩) 1 1)).run Tryd.prog (W.alloc (.cells #[.int .u8 x] t)).drew = .ok (.string D) (W.alloc (.cells #[.int .u8 x] t)).drew := fun W t =>
    hconv _ _ ((Has.new' W #[.int .u8 x] t rfl).cell 0)
  have hconvC : ∀ (W : World) (t : TypeId) (o : Obj), (convert 39 9 (.slice (some ⟨W.heap.size, 0, none⟩) 1 1)).run Tryd.prog ((W.alloc (.cells #[.int .u8 x] t)).alloc o) = .ok (.string D) ((W.alloc (.cells #[.int .u8 x] t)).alloc o) := fun W t o =>
    hconv _ _ (((Has.new' W #[.int .u8 x] t rfl).alloc o).cell 0)
  have hconvD : ∀ (W : World) (t : TypeId) (o : Obj), (convert 39 9 (.slice (some ⟨W.heap.size + 1, 0, none⟩) 1 1)).run Tryd.prog ((W.alloc o).alloc (.cells #[.int .u8 x] t)) = .ok (.string D) ((W.alloc o).alloc (.cells #[.int .u8 x] t)) := fun W t o =>
    hconv _ _ ((Has.new' (W.alloc o) #[.int .u8 x] t (by simp)).cell 0)
  have hconvE : ∀ (W : World) (t : TypeId) (o : Obj), (convert 39 9 (.slice (some ⟨W.heap.size, 0, none⟩) 1 1)).run Tryd.prog ((W.alloc (.cells #[.int .u8 x] t)).alloc o).drew = .ok (.string D) ((W.alloc (.cells #[.int .u8 x] t)).alloc o).drew := fun W t o =>
    hconv _ _ (((Has.new' W #[.int .u8 x] t rfl).alloc o).cell 0)
  have hconvF : ∀ (W : World) (t : TypeId) (o : Obj), (convert 39 9 (.slice (some ⟨W.heap.size + 1, 0, none⟩) 1 1)).run Tryd.prog ((W.alloc o).alloc (.cells #[.int .u8 x] t)).drew = .ok (.string D) ((W.alloc o).alloc (.cells #[.int .u8 x] t)).drew := fun W t o =>
    hconv _ _ ((Has.new' (W.alloc o) #[.int .u8 x] t (by simp)).cell 0)
  have HCONV := Lib.hid hconv
  clear hconv
  have hj3 : (j : Int) < ((⟨#[46, 101, 69]⟩ : ByteArray).size : Int) := by
    show (j : Int) < 3
    omega
  have hj4 : j < (⟨#[46, 101, 69]⟩ : ByteArray).size := by
    show j < 3
    omega
  have hlit : ∀ h, (((⟨#[46, 101, 69]⟩ : ByteArray)[j]'h).toNat : Int) = x := by
    intro h
    rw [← hx]
    rcases hc with ⟨rfl, rfl⟩ | ⟨rfl, rfl⟩ | ⟨rfl, rfl⟩ <;> rfl
  clear hx hc
  go_enter Tryd.func6, Tryd.ntmps6
  go_wp2_with fail
  refine (alive_any _ (Lib.tabIs_alloc HT.out _)).mono ?_
  rintro e w1 ⟨rfl, k1⟩
  have K1 := Lib.hid (((Keeps.refl [] w).alloc (.cells #[.bool g, .int .u64 (m : Int)] 24)).trans k1)
  have A1 := (Has.new' w #[.bool g, .int .u64 (m : Int)] 24 rfl).keeps k1 (by simp)
  have b0 := A1.cell 0
  have b1 := A1.cell 1
  simp only [List.getElem?_cons_zero, List.getElem?_cons_succ] at b0 b1
  have T1 := Lib.hid (pow_keeps HT.out K1.out)
  have HA1 := Lib.hid A1
  have l1 := A1.lt
  clear k1 A1
  go_wp2_with fail
  go_region_held (fun W => W.cell? ⟨w.heap.size, 0, none⟩ = some (.bool g) ∧ W.cell? ⟨w.heap.size, 1, none⟩ = some (.int .u64 (m : Int))) ((first | go_keep | exact ⟨((A5.out.other (by simp; omega) _).other (by simp; omega) _).cell 0, ((A5.out.other (by simp; omega) _).other (by simp; omega) _).cell 1⟩)) ((first | (go_at_call 11; refine (HP.out _ (by exact pow_keeps T1.out ((Keeps.refl [] w1).drew))).mono ?_; rintro e w4 ⟨rfl, k4⟩; have KR := Lib.hid (((Keeps.refl [] w1).drew).trans k4); have A4 := Lib.hid (HA1.out.keeps KR.out (by simp)); have d0 := A4.out.cell 0; have d1 := A4.out.cell 1; simp only [List.getElem?_cons_zero, List.getElem?_cons_succ] at d0 d1; have l4 := A4.out.lt; clear k4) | (go_at_call 11; refine (HP.out _ (by exact pow_keeps T1.out (((Keeps.refl [] w1).alloc (.cells #[.int .u8 x] 5)).drew))).mono ?_; rintro e w4 ⟨rfl, k4⟩; have KR := Lib.hid ((((Keeps.refl [] w1).alloc (.cells #[.int .u8 x] 5)).drew).trans k4); have A4 := Lib.hid (HA1.out.keeps KR.out (by simp)); have d0 := A4.out.cell 0; have d1 := A4.out.cell 1; simp only [List.getElem?_cons_zero, List.getElem?_cons_succ] at d0 d1; have l4 := A4.out.lt; have S4 := (Has.new' w1 #[.int .u8 x] 5 (n := w1.heap.size) (by simp)).drew.keeps k4 (by simp); have c5 := HCONV.out _ _ (S4.cell 0); have c6 := fun o => HCONV.out _ _ ((S4.alloc o).cell 0); have S4 := Lib.hid S4; clear k4) | (go_at_call 11; refine (HP.out _ (by exact pow_keeps T1.out (((Keeps.refl [] w1).alloc (.cells #[.bool false, .int .u64 0] 24)).drew))).mono ?_; rintro e w4 ⟨rfl, k4⟩; have KR := Lib.hid ((((Keeps.refl [] w1).alloc (.cells #[.bool false, .int .u64 0] 24)).drew).trans k4); have A4 := Lib.hid (HA1.out.keeps KR.out (by simp)); have d0 := A4.out.cell 0; have d1 := A4.out.cell 1; simp only [List.getElem?_cons_zero, List.getElem?_cons_succ] at d0 d1; have l4 := A4.out.lt; have V4 := Lib.hid ((Has.new' w1 #[.bool false, .int .u64 0] 24 (n := w1.heap.size) (by simp)).drew.keeps k4 (by simp)); clear k4) | (go_at_call 11; refine (HP.out _ (by exact pow_keeps T1.out ((((Keeps.refl [] w1).alloc (.cells #[.int .u8 x] 5)).alloc (.cells #[.bool false, .int .u64 0] 24)).drew))).mono ?_; rintro e w4 ⟨rfl, k4⟩; have KR := Lib.hid (((((Keeps.refl [] w1).alloc (.cells #[.int .u8 x] 5)).alloc (.cells #[.bool false, .int .u64 0] 24)).drew).trans k4); have A4 := Lib.hid (HA1.out.keeps KR.out (by simp)); have d0 := A4.out.cell 0; have d1 := A4.out.cell 1; simp only [List.getElem?_cons_zero, List.getElem?_cons_succ] at d0 d1; have l4 := A4.out.lt; have S4 := ((Has.new' w1 #[.int .u8 x] 5 (n := w1.heap.size) (by simp)).alloc (.cells #[.bool false, .int .u64 0] 24)).drew.keeps k4 (by simp); have c5 := HCONV.out _ _ (S4.cell 0); have c6 := fun o => HCONV.out _ _ ((S4.alloc o).cell 0); have S4 := Lib.hid S4; have V4 := Lib.hid ((Has.new' (w1.alloc (.cells #[.int .u8 x] 5)) #[.bool false, .int .u64 0] 24 (n := w1.heap.size + 1) (by simp)).drew.keeps k4 (by simp)); clear k4) | (go_at_call 11; refine (HP.out _ (by exact pow_keeps T1.out ((((Keeps.refl [] w1).alloc (.cells #[.bool false, .int .u64 0] 24)).alloc (.cells #[.int .u8 x] 5)).drew))).mono ?_; rintro e w4 ⟨rfl, k4⟩; have KR := Lib.hid (((((Keeps.refl [] w1).alloc (.cells #[.bool false, .int .u64 0] 24)).alloc (.cells #[.int .u8 x] 5)).drew).trans k4); have A4 := Lib.hid (HA1.out.keeps KR.out (by simp)); have d0 := A4.out.cell 0; have d1 := A4.out.cell 1; simp only [List.getElem?_cons_zero, List.getElem?_cons_succ] at d0 d1; have l4 := A4.out.lt; have S4 := (Has.new' (w1.alloc (.cells #[.bool false, .int .u64 0] 24)) #[.int .u8 x] 5 (n := w1.heap.size + 1) (by simp)).drew.keeps k4 (by simp); have c5 := HCONV.out _ _ (S4.cell 0); have c6 := fun o => HCONV.out _ _ ((S4.alloc o).cell 0); have S4 := Lib.hid S4; have V4 := Lib.hid (((Has.new' w1 #[.bool false, .int .u64 0] 24 (n := w1.heap.size) (by simp)).alloc (.cells #[.int .u8 x] 5)).drew.keeps k4 (by simp)); clear k4) | (go_at_call 10; refine (HP1.out _).mono ?_; rintro e w5 ⟨he5, k5⟩; simp only [resVal] at he5; subst he5; have A5 := (A4.out.alloc (.cells #[.int .u8 x] 5)).keeps k5 (by simp); have f0 := A5.cell 0; have f1 := A5.cell 1; simp only [List.getElem?_cons_zero, List.getElem?_cons_succ] at f0 f1; have KQ := Lib.hid ((KR.out.alloc (.cells #[.int .u8 x] 5)).trans k5); have R5 := (V4.out.alloc (.cells #[.int .u8 x] 5)).keeps k5 (by simp); have r0 := R5.free 0; have r1 := R5.free 1; have lr := R5.lt; have q0 := R5.cell 0; have q1 := R5.cell 1; simp only [List.getElem?_cons_zero, List.getElem?_cons_succ] at q0 q1; have R5 := Lib.hid R5; have l5 := A5.lt; have A5 := Lib.hid A5; clear k5) | (go_at_call 10; refine (HP1.out _).mono ?_; rintro e w5 ⟨he5, k5⟩; simp only [resVal] at he5; subst he5; have A5 := A4.out.keeps k5 (by simp); have f0 := A5.cell 0; have f1 := A5.cell 1; simp only [List.getElem?_cons_zero, List.getElem?_cons_succ] at f0 f1; have KQ := Lib.hid (KR.out.trans k5); have R5 := V4.out.keeps k5 (by simp); have r0 := R5.free 0; have r1 := R5.free 1; have lr := R5.lt; have q0 := R5.cell 0; have q1 := R5.cell 1; simp only [List.getElem?_cons_zero, List.getElem?_cons_succ] at q0 q1; have R5 := Lib.hid R5; have l5 := A5.lt; have A5 := Lib.hid A5; clear k5) | (go_at_call 10; refine (HP1.out _).mono ?_; rintro e w5 ⟨he5, k5⟩; simp only [resVal] at he5; subst he5; have A5 := ((A4.out.alloc (.cells #[.int .u8 x] 5)).alloc (.cells #[.bool false, .int .u64 0] 24)).keeps k5 (by simp); have f0 := A5.cell 0; have f1 := A5.cell 1; simp only [List.getElem?_cons_zero, List.getElem?_cons_succ] at f0 f1; have KQ := Lib.hid (((KR.out.alloc (.cells #[.int .u8 x] 5)).alloc (.cells #[.bool false, .int .u64 0] 24)).trans k5); have R5 := (Has.new' (w4.alloc (.cells #[.int .u8 x] 5)) #[.bool false, .int .u64 0] 24 (n := w4.heap.size + 1) (by simp)).keeps k5 (by simp); have r0 := R5.free 0; have r1 := R5.free 1; have lr := R5.lt; have q0 := R5.cell 0; have q1 := R5.cell 1; simp only [List.getElem?_cons_zero, List.getElem?_cons_succ] at q0 q1; have R5 := Lib.hid R5; have l5 := A5.lt; have A5 := Lib.hid A5; clear k5) | (go_at_call 10; refine (HP1.out _).mono ?_; rintro e w5 ⟨he5, k5⟩; simp only [resVal] at he5; subst he5; have A5 := ((A4.out.alloc (.cells #[.bool false, .int .u64 0] 24)).alloc (.cells #[.int .u8 x] 5)).keeps k5 (by simp); have f0 := A5.cell 0; have f1 := A5.cell 1; simp only [List.getElem?_cons_zero, List.getElem?_cons_succ] at f0 f1; have KQ := Lib.hid (((KR.out.alloc (.cells #[.bool false, .int .u64 0] 24)).alloc (.cells #[.int .u8 x] 5)).trans k5); have R5 := ((Has.new' w4 #[.bool false, .int .u64 0] 24 (n := w4.heap.size) (by simp)).alloc (.cells #[.int .u8 x] 5)).keeps k5 (by simp); have r0 := R5.free 0; have r1 := R5.free 1; have lr := R5.lt; have q0 := R5.cell 0; have q1 := R5.cell 1; simp only [List.getElem?_cons_zero, List.getElem?_cons_succ] at q0 q1; have R5 := Lib.hid R5; have l5 := A5.lt; have A5 := Lib.hid A5; clear k5) | (go_at_call 10; refine (HP1.out _).mono ?_; rintro e w5 ⟨he5, k5⟩; simp only [resVal] at he5; subst he5; have A5 := (A4.out.alloc (.cells #[.int .u8 x] 5)).keeps k5 (by simp); have f0 := A5.cell 0; have f1 := A5.cell 1; simp only [List.getElem?_cons_zero, List.getElem?_cons_succ] at f0 f1; have KQ := Lib.hid ((KR.out.alloc (.cells #[.int .u8 x] 5)).trans k5); have l5 := A5.lt; have A5 := Lib.hid A5; clear k5) | (go_at_call 10; refine (HP1.out _).mono ?_; rintro e w5 ⟨he5, k5⟩; simp only [resVal] at he5; subst he5; have A5 := (A4.out.alloc (.cells #[.bool false, .int .u64 0] 24)).keeps k5 (by simp); have f0 := A5.cell 0; have f1 := A5.cell 1; simp only [List.getElem?_cons_zero, List.getElem?_cons_succ] at f0 f1; have KQ := Lib.hid ((KR.out.alloc (.cells #[.bool false, .int .u64 0] 24)).trans k5); have R5 := (Has.new' w4 #[.bool false, .int .u64 0] 24 (n := w4.heap.size) (by simp)).keeps k5 (by simp); have r0 := R5.free 0; have r1 := R5.free 1; have lr := R5.lt; have q0 := R5.cell 0; have q1 := R5.cell 1; simp only [List.getElem?_cons_zero, List.getElem?_cons_succ] at q0 q1; have R5 := Lib.hid R5; have l5 := A5.lt; have A5 := Lib.hid A5; clear k5) | (go_at_call 10; refine (HP1.out _).mono ?_; rintro e w5 ⟨he5, k5⟩; simp only [resVal] at he5; subst he5; have A5 := A4.out.keeps k5 (by simp); have f0 := A5.cell 0; have f1 := A5.cell 1; simp only [List.getElem?_cons_zero, List.getElem?_cons_succ] at f0 f1; have KQ := Lib.hid (KR.out.trans k5); have l5 := A5.lt; have A5 := Lib.hid A5; clear k5)))
  all_goals
    have KA := Lib.hid (K1.out.trans KQ.out)
    have hz1 := K1.out.size
    have hz4 := KR.out.size
    have hconvG : ∀ (W : World) (n : Nat), n = W.heap.size → (convert 39 9 (.slice (some ⟨n, 0, none⟩) 1 1)).run Tryd.prog (W.alloc (.cells #[.int .u8 x] 5)) = .ok (.string D) (W.alloc (.cells #[.int .u8 x] 5)) := fun W n hn => by
      subst hn
      exact hconvA W _
    go_wp2_with fail
    refine (HP2.out _).mono ?_
    rintro e w6 ⟨he, k6⟩
    simp only [resVal] at he
    subst he
    have K6 := Lib.hid (Keeps.trans (a := w) (by first | exact (KA.out.alloc _).alloc _ | exact ((KA.out.setCell (Or.inr (by simp; omega)) _).setCell (Or.inr (by simp; omega)) _).alloc _ | exact (((KA.out.alloc _).setCell (Or.inr (by simp; omega)) _).setCell (Or.inr (by simp; omega)) _).alloc _) k6)
    clear k6
    go_wp2_with fail
    refine (HP3.out _).mono ?_
    rintro e w7 ⟨he, k7⟩
    simp only [resVal] at he
    subst he
    have K7 := Lib.hid (((K6.out.alloc _).alloc _).trans k7)
    clear k7
    go_wp2_with fail
    go_ret
    exact ⟨rfl, (K7.out.alloc _).all⟩
end Go.Proofs.YtfgnjaelfjabmaaDoor
