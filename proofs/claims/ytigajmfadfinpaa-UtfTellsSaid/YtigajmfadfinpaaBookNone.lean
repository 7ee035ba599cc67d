/-
  truchmanbook.Book: where there are no lists of a kind. Printed by wip/genbook0.py.
-/
import Derived.Test.YtigajmfadfinpaaBookInts
namespace Go.Proofs.Ytigajmfadfinpaa
open Go.RowKit Go.Tru

set_option maxHeartbeats 400000 in
theorem stillTexts_none {w : World} {base b : Nat} {iv wv : Value} {vs us : List Value} (h : BookIn w base b iv wv vs us) :
    Calls Try.prog 20 #[.pointer (some ⟨b, 0, none⟩)] w fun e w' => e = .returned (.bool true) ∧ Keeps [] w w' := by
  obtain ⟨q0, q1, q2, q3, q4, q5⟩ := h.cells
  clear h
  go_enter Try.func20, Try.ntmps20
  go_wp2_with fail
  go_loopw [3] (fun i0 wr => i0 = .int .i64 0 ∧ Keeps [] w wr) (fun i0 _ => 0)
  case atStart => exact ⟨rfl, Keeps.refl _ _⟩
  case round =>
    obtain ⟨rfl, hK⟩ := hrel
    have e0 := hK.cell q0 (by simp)
    have e4 := hK.cell q4 (by simp)
    have HK := Lib.hid hK
    clear hK
    go_wp2_with fail
    go_ret
    exact ⟨rfl, HK.out⟩

set_option maxHeartbeats 400000 in
theorem putTexts_none {w : World} {base b : Nat} {iv wv : Value} {vs us : List Value} (h : BookIn w base b iv wv vs us) :
    Calls Try.prog 23 #[.pointer (some ⟨b, 0, none⟩)] w fun e w' => e = .returned (.tuple #[]) ∧ Keeps [] w w' := by
  obtain ⟨q0, q1, q2, q3, q4, q5⟩ := h.cells
  clear h
  go_enter Try.func23, Try.ntmps23
  go_wp2_with fail
  go_loopw [2] (fun i0 wr => i0 = .int .i64 0 ∧ Keeps [] w wr) (fun i0 _ => 0)
  case atStart => exact ⟨rfl, Keeps.refl _ _⟩
  case round =>
    obtain ⟨rfl, hK⟩ := hrel
    have e0 := hK.cell q0 (by simp)
    have e4 := hK.cell q4 (by simp)
    have HK := Lib.hid hK
    clear hK
    go_wp2_with fail
    go_end0
    exact ⟨rfl, HK.out⟩

set_option maxHeartbeats 400000 in
theorem growTexts_none {w : World} {base b : Nat} {iv wv : Value} {vs us : List Value} (h : BookIn w base b iv wv vs us) :
    Calls Try.prog 26 #[.pointer (some ⟨b, 0, none⟩)] w fun e w' => e = .returned (.slice none 0 0) ∧ Keeps [] w w' := by
  obtain ⟨q0, q1, q2, q3, q4, q5⟩ := h.cells
  clear h
  go_enter Try.func26, Try.ntmps26
  go_wp2_with fail
  go_loopw [3, 4] (fun i0 i1 wr => i1 = .int .i64 0 ∧ i0 = .slice none 0 0 ∧ Keeps [] w wr) (fun i0 i1 _ => 0)
  case atStart => exact ⟨rfl, rfl, Keeps.refl _ _⟩
  case round =>
    obtain ⟨rfl, rfl, hK⟩ := hrel
    have e0 := hK.cell q0 (by simp)
    have e4 := hK.cell q4 (by simp)
    have HK := Lib.hid hK
    clear hK
    go_wp2_with fail
    go_ret
    exact ⟨rfl, HK.out⟩

set_option maxHeartbeats 400000 in
theorem markedTexts_none (w : World) :
    Calls Try.prog 29 #[.slice none 0 0] w fun e w' => e = .returned (.bool true) ∧ Keeps [] w w' := by
  go_enter Try.func29, Try.ntmps29
  go_wp2_with fail
  go_loopw [3] (fun i0 wr => i0 = .int .i64 0 ∧ Keeps [] w wr) (fun i0 _ => 0)
  case atStart => exact ⟨rfl, Keeps.refl _ _⟩
  case round =>
    obtain ⟨rfl, hK⟩ := hrel
    have HK := Lib.hid hK
    clear hK
    go_wp2_with fail
    go_ret
    exact ⟨rfl, HK.out⟩

set_option maxHeartbeats 400000 in
theorem stillEvs_none {w : World} {base b : Nat} {iv wv : Value} {vs us : List Value} (h : BookIn w base b iv wv vs us) :
    Calls Try.prog 22 #[.pointer (some ⟨b, 0, none⟩)] w fun e w' => e = .returned (.bool true) ∧ Keeps [] w w' := by
  obtain ⟨q0, q1, q2, q3, q4, q5⟩ := h.cells
  clear h
  go_enter Try.func22, Try.ntmps22
  go_wp2_with fail
  go_loopw [3] (fun i0 wr => i0 = .int .i64 0 ∧ Keeps [] w wr) (fun i0 _ => 0)
  case atStart => exact ⟨rfl, Keeps.refl _ _⟩
  case round =>
    obtain ⟨rfl, hK⟩ := hrel
    have e0 := hK.cell q0 (by simp)
    have e4 := hK.cell q4 (by simp)
    have HK := Lib.hid hK
    clear hK
    go_wp2_with fail
    go_ret
    exact ⟨rfl, HK.out⟩

set_option maxHeartbeats 400000 in
theorem putEvs_none {w : World} {base b : Nat} {iv wv : Value} {vs us : List Value} (h : BookIn w base b iv wv vs us) :
    Calls Try.prog 25 #[.pointer (some ⟨b, 0, none⟩)] w fun e w' => e = .returned (.tuple #[]) ∧ Keeps [] w w' := by
  obtain ⟨q0, q1, q2, q3, q4, q5⟩ := h.cells
  clear h
  go_enter Try.func25, Try.ntmps25
  go_wp2_with fail
  go_loopw [2] (fun i0 wr => i0 = .int .i64 0 ∧ Keeps [] w wr) (fun i0 _ => 0)
  case atStart => exact ⟨rfl, Keeps.refl _ _⟩
  case round =>
    obtain ⟨rfl, hK⟩ := hrel
    have e0 := hK.cell q0 (by simp)
    have e4 := hK.cell q4 (by simp)
    have HK := Lib.hid hK
    clear hK
    go_wp2_with fail
    go_end0
    exact ⟨rfl, HK.out⟩

set_option maxHeartbeats 400000 in
theorem growEvs_none {w : World} {base b : Nat} {iv wv : Value} {vs us : List Value} (h : BookIn w base b iv wv vs us) :
    Calls Try.prog 28 #[.pointer (some ⟨b, 0, none⟩)] w fun e w' => e = .returned (.slice none 0 0) ∧ Keeps [] w w' := by
  obtain ⟨q0, q1, q2, q3, q4, q5⟩ := h.cells
  clear h
  go_enter Try.func28, Try.ntmps28
  go_wp2_with fail
  go_loopw [3, 4] (fun i0 i1 wr => i1 = .int .i64 0 ∧ i0 = .slice none 0 0 ∧ Keeps [] w wr) (fun i0 i1 _ => 0)
  case atStart => exact ⟨rfl, rfl, Keeps.refl _ _⟩
  case round =>
    obtain ⟨rfl, rfl, hK⟩ := hrel
    have e0 := hK.cell q0 (by simp)
    have e4 := hK.cell q4 (by simp)
    have HK := Lib.hid hK
    clear hK
    go_wp2_with fail
    go_ret
    exact ⟨rfl, HK.out⟩

set_option maxHeartbeats 400000 in
theorem markedEvs_none (w : World) :
    Calls Try.prog 31 #[.slice none 0 0] w fun e w' => e = .returned (.bool true) ∧ Keeps [] w w' := by
  go_enter Try.func31, Try.ntmps31
  go_wp2_with fail
  go_loopw [3] (fun i0 wr => i0 = .int .i64 0 ∧ Keeps [] w wr) (fun i0 _ => 0)
  case atStart => exact ⟨rfl, Keeps.refl _ _⟩
  case round =>
    obtain ⟨rfl, hK⟩ := hrel
    have HK := Lib.hid hK
    clear hK
    go_wp2_with fail
    go_ret
    exact ⟨rfl, HK.out⟩

end Go.Proofs.Ytigajmfadfinpaa
