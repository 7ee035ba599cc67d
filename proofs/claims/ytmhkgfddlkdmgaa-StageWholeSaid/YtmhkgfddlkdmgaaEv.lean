/-
  A document's parts: api.Ev as plain data; the values that event.Of makes of them.
-/
import Derived.Test.YtmhkgfddlkdmgaaRows
import Derived.Test.YtmhkgfddlkdmgaaTru
import Derived.Test.YtmhkgfddlkdmgaaAssert
namespace Go.Tru

/-- api.Ev -/
structure Ev where
  kind : Int
  yes : Bool
  mag : Int
  text : ByteArray
  count : Int

def Ev.cells (e : Ev) : List Value := [.int .i64 e.kind, .bool e.yes, .int .u64 e.mag, .string e.text, .int .i64 e.count]
def Ev.val (e : Ev) : Value := .agg e.cells.toArray

def noText : ByteArray := ⟨#[]⟩
def evNull : Ev := ⟨0, false, 0, noText, 0⟩
def evBool (b : Bool) : Ev := ⟨1, b, 0, noText, 0⟩
def evInt (neg : Bool) (mag : Int) : Ev := ⟨2, neg, mag, noText, 0⟩
def evText (s : ByteArray) : Ev := ⟨3, false, 0, s, 0⟩
def evBytes (s : ByteArray) : Ev := ⟨4, false, 0, s, 0⟩
def evArr (n : Int) : Ev := ⟨5, false, 0, noText, n⟩
def evMap (n : Int) : Ev := ⟨6, false, 0, noText, n⟩
def evEnd : Ev := ⟨7, false, 0, noText, 0⟩

/-- what may be a part, cleared of what does not belong to its kind -/
def tidy (e : Ev) : Option Ev :=
  if e.kind = 0 then some evNull
  else if e.kind = 1 then some (evBool e.yes)
  else if e.kind = 2 then some (evInt e.yes e.mag)
  else if e.kind = 3 then some (evText e.text)
  else if e.kind = 4 then some (evBytes e.text)
  else if e.kind = 5 then (if e.count < -1 then none else some (evArr e.count))
  else if e.kind = 6 then (if e.count < -1 then none else some (evMap e.count))
  else if e.kind = 7 then some evEnd
  else none

/-- a part that is clear -/
def Clear (e : Ev) : Prop :=
  e = evNull ∨ (∃ b, e = evBool b) ∨ (∃ n m, e = evInt n m) ∨ (∃ s, e = evText s) ∨ (∃ s, e = evBytes s) ∨ (∃ n, -1 ≤ n ∧ e = evArr n) ∨ (∃ n, -1 ≤ n ∧ e = evMap n) ∨ e = evEnd

theorem tidy_clear {e p : Ev} (h : tidy e = some p) : Clear p := by
  unfold tidy at h
  unfold Clear
  by_cases h0 : e.kind = 0
  · simp [h0] at h; exact Or.inl h.symm
  by_cases h1 : e.kind = 1
  · simp [h1] at h; exact Or.inr (Or.inl ⟨_, h.symm⟩)
  by_cases h2 : e.kind = 2
  · simp [h2] at h; exact Or.inr (Or.inr (Or.inl ⟨_, _, h.symm⟩))
  by_cases h3 : e.kind = 3
  · simp [h3] at h; exact Or.inr (Or.inr (Or.inr (Or.inl ⟨_, h.symm⟩)))
  by_cases h4 : e.kind = 4
  · simp [h4] at h; exact Or.inr (Or.inr (Or.inr (Or.inr (Or.inl ⟨_, h.symm⟩))))
  by_cases h5 : e.kind = 5
  · simp [h5] at h; exact Or.inr (Or.inr (Or.inr (Or.inr (Or.inr (Or.inl ⟨_, h.1, h.2.symm⟩)))))
  by_cases h6 : e.kind = 6
  · simp [h6] at h; exact Or.inr (Or.inr (Or.inr (Or.inr (Or.inr (Or.inr (Or.inl ⟨_, h.1, h.2.symm⟩))))))
  by_cases h7 : e.kind = 7
  · simp [h7] at h; exact Or.inr (Or.inr (Or.inr (Or.inr (Or.inr (Or.inr (Or.inr h.symm))))))
  · simp [h0, h1, h2, h3, h4, h5, h6, h7] at h

theorem clear_tidy {p : Ev} (h : Clear p) : tidy p = some p := by
  rcases h with rfl | ⟨b, rfl⟩ | ⟨n, m, rfl⟩ | ⟨s, rfl⟩ | ⟨s, rfl⟩ | ⟨n, hn, rfl⟩ | ⟨n, hn, rfl⟩ | rfl
  · simp [tidy, evNull]
  · simp [tidy, evBool]
  · simp [tidy, evInt]
  · simp [tidy, evText]
  · simp [tidy, evBytes]
  · simp [tidy, evArr, show ¬ n < -1 by omega]
  · simp [tidy, evMap, show ¬ n < -1 by omega]
  · simp [tidy, evEnd]

/-- a clear part as a value of whatever type -/
def Ev.part (e : Ev) : Value :=
  if e.kind = 0 then .nilIface
  else if e.kind = 1 then .iface 4 (.bool e.yes)
  else if e.kind = 2 then .iface 52 (.agg #[.bool e.yes, .int .u64 e.mag])
  else if e.kind = 3 then .iface 58 (.string e.text)
  else if e.kind = 4 then .iface 59 (.string e.text)
  else if e.kind = 5 then .iface 43 (.agg #[.bool false, .int .i64 e.count])
  else if e.kind = 6 then .iface 43 (.agg #[.bool true, .int .i64 e.count])
  else .iface 46 (.agg #[])

theorem part_null : evNull.part = .nilIface := rfl
theorem part_bool (b : Bool) : (evBool b).part = .iface 4 (.bool b) := rfl
theorem part_int (n : Bool) (m : Int) : (evInt n m).part = .iface 52 (.agg #[.bool n, .int .u64 m]) := rfl
theorem part_text (s : ByteArray) : (evText s).part = .iface 58 (.string s) := rfl
theorem part_bytes (s : ByteArray) : (evBytes s).part = .iface 59 (.string s) := rfl
theorem part_arr (n : Int) : (evArr n).part = .iface 43 (.agg #[.bool false, .int .i64 n]) := rfl
theorem part_map (n : Int) : (evMap n).part = .iface 43 (.agg #[.bool true, .int .i64 n]) := rfl
theorem part_end : evEnd.part = .iface 46 (.agg #[]) := rfl

end Go.Tru

namespace Go.Proofs.Ytmhkgfddlkdmgaa
open Go.RowKit Go.Tru

set_option maxHeartbeats 400000 in
theorem of_yes (e p : Ev) (w : World) (h : tidy e = some p) :
    Calls Try.prog 7 #[e.val] w fun r w' => r = .returned (.tuple #[p.part, .bool true]) ∧ Keeps [] w w' := by
  obtain ⟨k, y, m, t, c⟩ := e
  simp only [Ev.val, Ev.cells]
  unfold tidy at h
  simp only [] at h
  rcases (show k = 0 ∨ k = 1 ∨ k = 2 ∨ k = 3 ∨ k = 4 ∨ (k = 5 ∧ ¬ c < -1) ∨ (k = 6 ∧ ¬ c < -1) ∨ k = 7 by
    by_cases h0 : k = 0; · exact Or.inl h0
    by_cases h1 : k = 1; · exact Or.inr (Or.inl h1)
    by_cases h2 : k = 2; · exact Or.inr (Or.inr (Or.inl h2))
    by_cases h3 : k = 3; · exact Or.inr (Or.inr (Or.inr (Or.inl h3)))
    by_cases h4 : k = 4; · exact Or.inr (Or.inr (Or.inr (Or.inr (Or.inl h4))))
    by_cases h7 : k = 7; · omega
    by_cases h5 : k = 5
    · simp [h5] at h; omega
    by_cases h6 : k = 6
    · simp [h6] at h; omega
    simp [h0, h1, h2, h3, h4, h5, h6, h7] at h) with rfl | rfl | rfl | rfl | rfl | ⟨rfl, hc⟩ | ⟨rfl, hc⟩ | rfl
  all_goals
    simp at h
    first | (obtain ⟨h, rfl⟩ := h) | (subst h)
    go_enter Try.func7, Try.ntmps7
    go_wp2
    go_ret2
    exact ⟨rfl, (Keeps.refl _ _).alloc _⟩

set_option maxHeartbeats 400000 in
theorem of_no (e : Ev) (w : World) (h : tidy e = none) :
    Calls Try.prog 7 #[e.val] w fun r w' => r = .returned (.tuple #[.nilIface, .bool false]) ∧ Keeps [] w w' := by
  obtain ⟨k, y, m, t, c⟩ := e
  simp only [Ev.val, Ev.cells]
  unfold tidy at h
  simp only [] at h
  rcases (show k < 0 ∨ 7 < k ∨ (k = 5 ∧ c < -1) ∨ (k = 6 ∧ c < -1) by
    by_cases h0 : k = 0; · simp [h0] at h
    by_cases h1 : k = 1; · simp [h1] at h
    by_cases h2 : k = 2; · simp [h2] at h
    by_cases h3 : k = 3; · simp [h3] at h
    by_cases h4 : k = 4; · simp [h4] at h
    by_cases h7 : k = 7; · simp [h7] at h
    by_cases h5 : k = 5
    · simp [h5] at h; omega
    by_cases h6 : k = 6
    · simp [h6] at h; omega
    omega) with hk | hk | ⟨rfl, hc⟩ | ⟨rfl, hc⟩
  all_goals
    clear h
    go_enter Try.func7, Try.ntmps7
    go_wp2
    go_ret2
    exact ⟨rfl, (Keeps.refl _ _).alloc _⟩

set_option maxHeartbeats 400000 in
theorem plain_null (w : World) :
    Calls Try.prog 14 #[evNull.part] w fun r w' => r = .returned (.tuple #[evNull.val, .bool true]) ∧ Keeps [] w w' := by
  rw [part_null]
  go_enter Try.func14, Try.ntmps14
  go_wp2
  refine bodyPost_ret (v := .tuple #[evNull.val, .bool true]) (by simp [results, Try.results14, go_sem]; first | done | rfl | simp [Ev.val, Ev.cells, evNull, evBool, evInt, evText, evBytes, evArr, evMap, evEnd, noText]) rfl ⟨rfl, ?_⟩
  repeat first | exact Keeps.refl _ _ | apply Keeps.alloc

set_option maxHeartbeats 400000 in
theorem plain_bool (b : Bool) (w : World) :
    Calls Try.prog 14 #[(evBool b).part] w fun r w' => r = .returned (.tuple #[(evBool b).val, .bool true]) ∧ Keeps [] w w' := by
  rw [part_bool]
  go_enter Try.func14, Try.ntmps14
  go_wp2
  refine bodyPost_ret (v := .tuple #[(evBool b).val, .bool true]) (by simp [results, Try.results14, go_sem]; first | done | rfl | simp [Ev.val, Ev.cells, evNull, evBool, evInt, evText, evBytes, evArr, evMap, evEnd, noText]) rfl ⟨rfl, ?_⟩
  repeat first | exact Keeps.refl _ _ | apply Keeps.alloc

set_option maxHeartbeats 400000 in
theorem plain_int (n : Bool) (m : Int) (w : World) :
    Calls Try.prog 14 #[(evInt n m).part] w fun r w' => r = .returned (.tuple #[(evInt n m).val, .bool true]) ∧ Keeps [] w w' := by
  rw [part_int]
  go_enter Try.func14, Try.ntmps14
  go_wp2
  refine bodyPost_ret (v := .tuple #[(evInt n m).val, .bool true]) (by simp [results, Try.results14, go_sem]; first | done | rfl | simp [Ev.val, Ev.cells, evNull, evBool, evInt, evText, evBytes, evArr, evMap, evEnd, noText]) rfl ⟨rfl, ?_⟩
  repeat first | exact Keeps.refl _ _ | apply Keeps.alloc

set_option maxHeartbeats 400000 in
theorem plain_text (s : ByteArray) (w : World) :
    Calls Try.prog 14 #[(evText s).part] w fun r w' => r = .returned (.tuple #[(evText s).val, .bool true]) ∧ Keeps [] w w' := by
  rw [part_text]
  go_enter Try.func14, Try.ntmps14
  go_wp2
  refine bodyPost_ret (v := .tuple #[(evText s).val, .bool true]) (by simp [results, Try.results14, go_sem]; first | done | rfl | simp [Ev.val, Ev.cells, evNull, evBool, evInt, evText, evBytes, evArr, evMap, evEnd, noText]) rfl ⟨rfl, ?_⟩
  repeat first | exact Keeps.refl _ _ | apply Keeps.alloc

set_option maxHeartbeats 400000 in
theorem plain_bytes (s : ByteArray) (w : World) :
    Calls Try.prog 14 #[(evBytes s).part] w fun r w' => r = .returned (.tuple #[(evBytes s).val, .bool true]) ∧ Keeps [] w w' := by
  rw [part_bytes]
  go_enter Try.func14, Try.ntmps14
  go_wp2
  refine bodyPost_ret (v := .tuple #[(evBytes s).val, .bool true]) (by simp [results, Try.results14, go_sem]; first | done | rfl | simp [Ev.val, Ev.cells, evNull, evBool, evInt, evText, evBytes, evArr, evMap, evEnd, noText]) rfl ⟨rfl, ?_⟩
  repeat first | exact Keeps.refl _ _ | apply Keeps.alloc

set_option maxHeartbeats 400000 in
theorem plain_arr (n : Int) (hn : -1 ≤ n) (w : World) :
    Calls Try.prog 14 #[(evArr n).part] w fun r w' => r = .returned (.tuple #[(evArr n).val, .bool true]) ∧ Keeps [] w w' := by
  rw [part_arr]
  go_enter Try.func14, Try.ntmps14
  go_wp2
  refine bodyPost_ret (v := .tuple #[(evArr n).val, .bool true]) (by simp [results, Try.results14, go_sem]; first | done | rfl | simp [Ev.val, Ev.cells, evNull, evBool, evInt, evText, evBytes, evArr, evMap, evEnd, noText]) rfl ⟨rfl, ?_⟩
  repeat first | exact Keeps.refl _ _ | apply Keeps.alloc

set_option maxHeartbeats 400000 in
theorem plain_map (n : Int) (hn : -1 ≤ n) (w : World) :
    Calls Try.prog 14 #[(evMap n).part] w fun r w' => r = .returned (.tuple #[(evMap n).val, .bool true]) ∧ Keeps [] w w' := by
  rw [part_map]
  go_enter Try.func14, Try.ntmps14
  go_wp2
  refine bodyPost_ret (v := .tuple #[(evMap n).val, .bool true]) (by simp [results, Try.results14, go_sem]; first | done | rfl | simp [Ev.val, Ev.cells, evNull, evBool, evInt, evText, evBytes, evArr, evMap, evEnd, noText]) rfl ⟨rfl, ?_⟩
  repeat first | exact Keeps.refl _ _ | apply Keeps.alloc

set_option maxHeartbeats 400000 in
theorem plain_end (w : World) :
    Calls Try.prog 14 #[evEnd.part] w fun r w' => r = .returned (.tuple #[evEnd.val, .bool true]) ∧ Keeps [] w w' := by
  rw [part_end]
  go_enter Try.func14, Try.ntmps14
  go_wp2
  refine bodyPost_ret (v := .tuple #[evEnd.val, .bool true]) (by simp [results, Try.results14, go_sem]; first | done | rfl | simp [Ev.val, Ev.cells, evNull, evBool, evInt, evText, evBytes, evArr, evMap, evEnd, noText]) rfl ⟨rfl, ?_⟩
  repeat first | exact Keeps.refl _ _ | apply Keeps.alloc

theorem plain_any (p : Ev) (h : Clear p) (w : World) :
    Calls Try.prog 14 #[p.part] w fun r w' => r = .returned (.tuple #[p.val, .bool true]) ∧ Keeps [] w w' := by
  rcases h with rfl | ⟨b, rfl⟩ | ⟨n, m, rfl⟩ | ⟨s, rfl⟩ | ⟨s, rfl⟩ | ⟨n, hn, rfl⟩ | ⟨n, hn, rfl⟩ | rfl
  · exact plain_null w
  · exact plain_bool b w
  · exact plain_int n m w
  · exact plain_text s w
  · exact plain_bytes s w
  · exact plain_arr n hn w
  · exact plain_map n hn w
  · exact plain_end w
end Go.Proofs.Ytmhkgfddlkdmgaa
