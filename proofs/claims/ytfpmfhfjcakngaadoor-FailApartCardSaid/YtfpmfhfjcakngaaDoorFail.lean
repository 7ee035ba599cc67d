/-
  The contracts of package fail.
-/
import Derived.Test.YtfpmfhfjcakngaaDoorFailLaid
import Derived.Test.YtfpmfhfjcakngaaDoorShelf
namespace Go.Proofs.YtfpmfhfjcakngaaDoor
open Go.RowKit Go.Tru

/-- a Failure in an interface -/
abbrev failVal (b : Nat) : Value := .iface 38 (.pointer (some ⟨b, 0, none⟩))

@[go_sem] theorem ta_fail (v : Value) (w : World) : (Instr.typeAssert (.iface 38 v) 29 38 true).run Tryd.prog w = .ok (.tuple #[v, .bool true]) w := by kernel_rfl
@[go_sem] theorem ta_fail1 (v : Value) (w : World) : (Instr.typeAssert (.iface 38 v) 29 38 false).run Tryd.prog w = .ok v w := by kernel_rfl

/-- the names, in a row -/
def nameText : ByteArray := ⟨#[111, 107, 32, 97, 114, 103, 32, 102, 111, 114, 109, 32, 109, 111, 114, 101, 32, 100, 101, 101, 112, 32, 108, 97, 114, 103, 101, 32, 102, 108, 111, 97, 116, 32, 114, 97, 110, 103, 101, 32, 107, 105, 110, 100, 32, 117, 116, 102, 32, 115, 116, 97, 103, 101, 32, 98, 117, 100, 103, 101, 116, 32, 116, 105, 109, 101, 32, 99, 97, 110, 99, 101, 108, 32, 115, 116, 97, 116, 101, 32, 102, 117, 108, 108]⟩
def names : List (List UInt8) := [[111, 107], [97, 114, 103], [102, 111, 114, 109], [109, 111, 114, 101], [100, 101, 101, 112], [108, 97, 114, 103, 101], [102, 108, 111, 97, 116], [114, 97, 110, 103, 101], [107, 105, 110, 100], [117, 116, 102], [115, 116, 97, 103, 101], [98, 117, 100, 103, 101, 116], [116, 105, 109, 101], [99, 97, 110, 99, 101, 108], [115, 116, 97, 116, 101], [102, 117, 108, 108]]
theorem names_fields : Lib.fields nameText.data.toList = names := by decide
theorem names_ascii : ∀ (j : Nat) b, nameText.data.toList[j]? = some b → b.toNat < 128 := by
  have h : ∀ b ∈ nameText.data.toList, b.toNat < 128 := by decide
  intro j b hj
  exact h b (List.mem_of_getElem? hj)

theorem fields_any (w : World) (htab : PowTab w) : Calls Tryd.prog 18 #[.string nameText] w fun e w' =>
    e = .returned (.slice (some ⟨w.heap.size, 0, none⟩) 16 16) ∧ w' = w.alloc (.cells (names.map fun l => Value.string ⟨l.toArray⟩).toArray 9) := by
  have h := Tryd.strings_Fields_laid nameText w (by decide) names_ascii htab
  rw [names_fields] at h
  exact h

/-- fail.Name -/
def nameOf (n : Int) : List UInt8 := if n < 0 then [] else (names[n.toNat]?).getD []

set_option maxHeartbeats 1000000 in
set_option maxRecDepth 100000 in
theorem name_below (n : Int) (h0 : n < 0) (w : World) (htab : PowTab w) :
    Calls Tryd.prog 10 #[.int .i64 n] w fun e w' => e = .returned (.string ⟨#[]⟩) ∧ Keeps [] w w' := by
  have HT := Lib.hid htab
  clear htab
  go_enter Tryd.func10, Tryd.ntmps10
  go_wp2_with fail
  refine (fields_any w HT.out).mono ?_
  rintro e w1 ⟨rfl, rfl⟩
  have H1 := Has.new' w (names.map fun l => Value.string ⟨l.toArray⟩).toArray 9 rfl
  have K1 := Lib.hid ((Keeps.refl [] w).alloc (.cells (names.map fun l => Value.string ⟨l.toArray⟩).toArray 9))
  obtain ⟨W, hW⟩ : ∃ W, w.alloc (.cells (names.map fun l => Value.string ⟨l.toArray⟩).toArray 9) = W := ⟨_, rfl⟩
  rw [hW] at H1 K1
  rw [hW]
  have hlt := H1.lt
  clear H1 hW
  go_wp2_with fail
  all_goals go_tidy
  all_goals first | (exfalso; omega) | (go_ret; exact ⟨rfl, K1.out⟩)

set_option maxHeartbeats 1000000 in
set_option maxRecDepth 100000 in
theorem name_above (m : Nat) (h1 : 16 ≤ m) (hn : m ≤ 9223372036854775807) (w : World) (htab : PowTab w) :
    Calls Tryd.prog 10 #[.int .i64 m] w fun e w' => e = .returned (.string ⟨#[]⟩) ∧ Keeps [] w w' := by
  have HT := Lib.hid htab
  clear htab
  go_enter Tryd.func10, Tryd.ntmps10
  go_wp2_with fail
  refine (fields_any w HT.out).mono ?_
  rintro e w1 ⟨rfl, rfl⟩
  have H1 := Has.new' w (names.map fun l => Value.string ⟨l.toArray⟩).toArray 9 rfl
  have K1 := Lib.hid ((Keeps.refl [] w).alloc (.cells (names.map fun l => Value.string ⟨l.toArray⟩).toArray 9))
  obtain ⟨W, hW⟩ : ∃ W, w.alloc (.cells (names.map fun l => Value.string ⟨l.toArray⟩).toArray 9) = W := ⟨_, rfl⟩
  rw [hW] at H1 K1
  rw [hW]
  have hlt := H1.lt
  clear H1 hW
  go_wp2_with fail
  all_goals go_tidy
  all_goals first | (exfalso; omega) | (go_ret; exact ⟨rfl, K1.out⟩)

set_option maxHeartbeats 1000000 in
set_option maxRecDepth 100000 in
theorem name_in (m : Nat) (h1 : m < 16) (l : List UInt8) (hl : names[m]? = some l) (w : World) (htab : PowTab w) :
    Calls Tryd.prog 10 #[.int .i64 m] w fun e w' => e = .returned (.string ⟨l.toArray⟩) ∧ Keeps [] w w' := by
  have HT := Lib.hid htab
  clear htab
  go_enter Tryd.func10, Tryd.ntmps10
  go_wp2_with fail
  refine (fields_any w HT.out).mono ?_
  rintro e w1 ⟨rfl, rfl⟩
  have H1 := Has.new' w (names.map fun l => Value.string ⟨l.toArray⟩).toArray 9 rfl
  have K1 := Lib.hid ((Keeps.refl [] w).alloc (.cells (names.map fun l => Value.string ⟨l.toArray⟩).toArray 9))
  obtain ⟨W, hW⟩ : ∃ W, w.alloc (.cells (names.map fun l => Value.string ⟨l.toArray⟩).toArray 9) = W := ⟨_, rfl⟩
  rw [hW] at H1 K1
  rw [hW]
  have hlt := H1.lt
  have c := H1.cell m
  simp only [List.getElem?_map, hl, Option.map_some] at c
  clear H1 hW
  go_wp2_with fail
  all_goals go_tidy
  all_goals first | (exfalso; omega) | (go_ret; exact ⟨rfl, K1.out⟩)

theorem name_any (n : Int) (hn : -9223372036854775808 ≤ n ∧ n ≤ 9223372036854775807) (w : World) (htab : PowTab w) :
    Calls Tryd.prog 10 #[.int .i64 n] w fun e w' => e = .returned (.string ⟨(nameOf n).toArray⟩) ∧ Keeps [] w w' := by
  by_cases h0 : n < 0
  · have e0 : nameOf n = [] := by simp [nameOf, h0]
    rw [e0]
    exact name_below n h0 w htab
  · obtain ⟨m, rfl⟩ : ∃ m : Nat, n = m := ⟨n.toNat, by omega⟩
    have e0 : nameOf m = (names[m]?).getD [] := by
      simp only [nameOf, if_neg h0]
      rfl
    rw [e0]
    by_cases h1 : m < 16
    · have hm : m < names.length := h1
      rw [List.getElem?_eq_getElem hm, Option.getD_some]
      exact name_in m h1 _ (List.getElem?_eq_getElem hm) w htab
    · have hm : names.length ≤ m := by show 16 ≤ m; omega
      rw [List.getElem?_eq_none hm]
      exact name_above m (by omega) (by omega) w htab

/-- fail.Add -/
def addOk (a b : Int) : Bool := decide (0 ≤ a ∧ 0 ≤ b ∧ a + b ≤ 9223372036854775807)

set_option maxHeartbeats 1000000 in
theorem add_any (a b : Int) (ha : -9223372036854775808 ≤ a ∧ a ≤ 9223372036854775807) (hb : -9223372036854775808 ≤ b ∧ b ≤ 9223372036854775807) (w : World) :
    Calls Tryd.prog 9 #[.int .i64 a, .int .i64 b] w fun e w' => e = .returned (.tuple #[.int .i64 (if addOk a b then a + b else 0), .bool (addOk a b)]) ∧ w' = w := by
  go_enter Tryd.func9, Tryd.ntmps9
  by_cases h : 0 ≤ a ∧ 0 ≤ b ∧ a + b ≤ 9223372036854775807
  · have e0 : addOk a b = true := by simp only [addOk, decide_eq_true_eq]; exact h
    rw [e0]
    go_wp2_with fail
    all_goals go_tidy
    all_goals first | (exfalso; omega) | (go_ret2; refine ⟨?_, rfl⟩; rfl) | (go_ret2; refine ⟨?_, rfl⟩; simp; done) | (go_ret2; refine ⟨?_, rfl⟩; simp; omega)
  · have e0 : addOk a b = false := by simp only [addOk, decide_eq_false_iff_not]; exact h
    rw [e0]
    go_wp2_with fail
    all_goals go_tidy
    all_goals first | (exfalso; omega) | (go_ret2; refine ⟨?_, rfl⟩; rfl) | (go_ret2; refine ⟨?_, rfl⟩; simp; done) | (go_ret2; refine ⟨?_, rfl⟩; simp; omega)

theorem new_ok (at' : Int) (w : World) : Calls Tryd.prog 11 #[.int .i64 0, .int .i64 at'] w fun e w' => e = .returned .nilIface ∧ w' = w := by
  go_enter Tryd.func11, Tryd.ntmps11
  go_wp2_with fail
  all_goals go_tidy
  all_goals (go_ret; exact ⟨rfl, rfl⟩)

theorem new_any (n at' : Int) (hn : n ≠ 0) (w : World) : Calls Tryd.prog 11 #[.int .i64 n, .int .i64 at'] w fun e w' =>
    e = .returned (failVal w.heap.size) ∧ w' = w.alloc (.cells #[.int .i64 n, .int .i64 at'] 41) := by
  go_enter Tryd.func11, Tryd.ntmps11
  go_wp2_with fail
  all_goals go_tidy
  all_goals first | (exfalso; omega) | (go_ret; exact ⟨rfl, rfl⟩)

set_option maxHeartbeats 1000000 in
theorem errno_any (b : Nat) (n at' : Int) (w : World) (h : Has w b [.int .i64 n, .int .i64 at'] 41) :
    Calls Tryd.prog 14 #[failVal b] w fun e w' => e = .returned (.int .i64 n) ∧ w' = w := by
  have c0 := h.cell 0
  have c1 := h.cell 1
  have hlt := h.lt
  simp only [List.getElem?_cons_zero, List.getElem?_cons_succ] at c0 c1
  clear h
  go_enter Tryd.func14, Tryd.ntmps14
  go_wp2_with fail
  all_goals go_tidy
  all_goals (go_ret; exact ⟨rfl, rfl⟩)

theorem errno_nil (w : World) : Calls Tryd.prog 14 #[.nilIface] w fun e w' => e = .returned (.int .i64 0) ∧ w' = w := by
  go_enter Tryd.func14, Tryd.ntmps14
  go_wp2_with fail
  all_goals go_tidy
  all_goals (go_ret; exact ⟨rfl, rfl⟩)

set_option maxHeartbeats 1000000 in
theorem at_any (b : Nat) (n at' : Int) (w : World) (h : Has w b [.int .i64 n, .int .i64 at'] 41) :
    Calls Tryd.prog 13 #[failVal b] w fun e w' => e = .returned (.tuple #[.int .i64 at', .bool true]) ∧ w' = w := by
  have c0 := h.cell 0
  have c1 := h.cell 1
  have hlt := h.lt
  simp only [List.getElem?_cons_zero, List.getElem?_cons_succ] at c0 c1
  clear h
  go_enter Tryd.func13, Tryd.ntmps13
  go_wp2_with fail
  all_goals go_tidy
  all_goals (go_ret2; exact ⟨rfl, rfl⟩)

theorem must_any (b : Nat) (w : World) :
    Calls Tryd.prog 17 #[failVal b] w fun e w' => e = .returned (.pointer (some ⟨b, 0, none⟩)) ∧ w' = w := by
  go_enter Tryd.func17, Tryd.ntmps17
  go_wp2_with fail
  all_goals go_tidy
  all_goals (go_ret; exact ⟨rfl, rfl⟩)
end Go.Proofs.YtfpmfhfjcakngaaDoor
