/-
  packin.All where one part is told.
-/
import Derived.Test.YtmcbdkhlbmhfeaaPackAlive
import Derived.Test.YtmcbdkhlbmhfeaaBig
namespace Go.Tru
theorem str_cons (c : UInt8) (l : List UInt8) : (⟨#[c]⟩ : ByteArray) ++ bytesOf l = bytesOf (c :: l) := by
  apply ByteArray.ext
  rw [ByteArray.data_append]
  simp [bytesOf]
theorem bytesOf_sz (l : List UInt8) : (bytesOf l).size = l.length := by simp [bytesOf, ByteArray.size]
theorem cat_bytes (l : List UInt8) (t : ByteArray) : bytesOf l ++ t = bytesOf (l ++ t.data.toList) := by
  apply ByteArray.ext
  rw [ByteArray.data_append]
  simp [bytesOf]
theorem bytesOf_list (l : List UInt8) : (bytesOf l).data.toList = l := by simp [bytesOf]
end Go.Tru
namespace Go.Proofs.Ytmcbdkhlbmhfeaa
open Go.RowKit Go.Tru

/-- one part is told, and no error -/
theorem packAll_one {s : ByteArray} {d : Int} {p : Ev} {W : World} (hs : s.size ≤ 1000000) (h : packAll s.data.toList d = ([p], 0)) :
    Calls Try.prog 10 #[.string s, .int .i64 d] W fun r w' => ∃ b off c, r = .returned (.tuple #[.slice (some ⟨b, off, none⟩) 1 c, .int .i64 0]) ∧
      (w'.cell? ⟨b, off, none⟩ = some (.int .i64 p.kind) ∧ w'.cell? ⟨b, off + 1, none⟩ = some (.bool p.yes) ∧ w'.cell? ⟨b, off + 2, none⟩ = some (.int .u64 p.mag) ∧ w'.cell? ⟨b, off + 3, none⟩ = some (.string p.text) ∧ w'.cell? ⟨b, off + 4, none⟩ = some (.int .i64 p.count)) ∧ 1 ≤ c ∧ Keeps [] W w' := by
  refine (packAll_any s d W hs).mono ?_
  rintro e w' ⟨v, rfl, hown, k⟩
  rw [h] at hown ⊢
  obtain ⟨o1, c1, rfl, hin⟩ := evsIn_of_owns hown
  obtain ⟨b1, f1, rfl, q0, q1, q2, q3, q4⟩ := hin.get (k := 0) (by simp) (by simp)
  simp only [List.getElem_cons_zero, Nat.zero_mul, Nat.add_zero] at q0 q1 q2 q3 q4
  have hr := hin.room
  exact ⟨b1, f1, c1, rfl, ⟨q0, q1, q2, q3, q4⟩, by simpa using hr, k⟩
end Go.Proofs.Ytmcbdkhlbmhfeaa
