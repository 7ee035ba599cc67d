/-
  make([]byte, n) at any length; a row of one byte.
-/
import Derived.Test.YtmcbdkhlbmhfeaaBig
import Derived.Laws.OwnMore
namespace Go.Proofs.Ytmcbdkhlbmhfeaa
open Go.RowKit Go.Tru

theorem make_bytes_any (n : Nat) (hn : n ≤ 1000000) (W : World) :
    ∃ W', (Instr.makeSlice 40 (.int .i64 n) (.int .i64 n)).run Try.prog W = .ok (.slice (some ⟨W.heap.size, 0, none⟩) n n) W' ∧ Has W' W.heap.size (byteVals (List.replicate n 0)) 5 ∧ Keeps [] W W' := by
  obtain ⟨i0, hi, hz0, hz1, hz2⟩ := info_parts info_byte
  have hr := run_makeSlice (P := Try.prog) W 40 5 i0 (.int .u8 0) Try.underlying40 hi hz0 .i64 .i64 n n (by omega) (by omega) (by rw [hz1]; simp only [Int.toNat_natCast]; omega) (by rw [hz2]; omega) (by omega)
  rw [hz1] at hr
  simp only [Int.toNat_natCast] at hr
  refine ⟨_, hr, ?_, (Keeps.refl _ _).alloc _⟩
  have h := Has.new' W (madeCells (Value.int .u8 0).cells (n * 1)) 5 rfl
  have e : (madeCells (Value.int .u8 0).cells (n * 1)).toList = byteVals (List.replicate n 0) := by
    rw [Nat.mul_one]
    show (madeCells #[Value.int .u8 0] n).toList = _
    rw [toList_madeCells_one]
    simp [byteVals]
  rw [e] at h
  exact h

theorem fill_get (n k : Nat) (c : UInt8) (h : k < n) : (byteVals (List.replicate k c ++ List.replicate (n - k) 0))[k]? = some (.int .u8 0) := by
  have : (List.replicate k c ++ List.replicate (n - k) (0 : UInt8))[k]? = some 0 := by
    rw [List.getElem?_append_right (by simp), List.length_replicate, Nat.sub_self, List.getElem?_replicate, if_pos (by omega)]
  rw [byteVals, List.getElem?_map, this]
  rfl

theorem fill_set (n k : Nat) (c : UInt8) (h : k < n) : (byteVals (List.replicate k c ++ List.replicate (n - k) 0)).set k (.int .u8 (c.toNat : Int)) = byteVals (List.replicate (k + 1) c ++ List.replicate (n - (k + 1)) 0) := by
  obtain ⟨m, hm⟩ : ∃ m, n - k = m + 1 := ⟨n - k - 1, by omega⟩
  rw [hm, show n - (k + 1) = m by omega, List.replicate_succ, List.replicate_succ', List.append_assoc]
  unfold byteVals
  rw [List.map_append, List.map_append, List.set_append_right _ _ (by simp)]
  simp
end Go.Proofs.Ytmcbdkhlbmhfeaa
