/-
  truchmanbook: marks of a list, a copy of one: their contracts.
-/
import Derived.Test.YtigajmfadfinpaaOwnInts
namespace Go.Tru

/-- the marks of list i, from one place on -/
def marksI (i frm n : Nat) : List Int := (List.range n).map fun k => -1000000 * (i : Int) - ((frm + k : Nat) : Int) - 7

theorem marksI_len (i frm n : Nat) : (marksI i frm n).length = n := by simp [marksI]

theorem marksI_succ (i frm n : Nat) : marksI i frm (n + 1) = marksI i frm n ++ [-1000000 * (i : Int) - ((frm + n : Nat) : Int) - 7] := by
  unfold marksI
  rw [List.range_succ]
  simp

theorem marksI_add (i frm n : Nat) : ∀ m, marksI i frm (n + m) = marksI i frm n ++ marksI i (frm + n) m
  | 0 => by simp [marksI]
  | m + 1 => by
    rw [← Nat.add_assoc, marksI_succ, marksI_add i frm n m, marksI_succ, List.append_assoc]
    congr 3
    omega

theorem marksI_in (i frm n : Nat) (hi : i ≤ 2) (hf : frm ≤ 100000) (hn : n ≤ 100000) : ∀ x ∈ marksI i frm n, -9223372036854775808 ≤ x ∧ x ≤ 9223372036854775807 := by
  intro x hx
  unfold marksI at hx
  obtain ⟨k, hk, rfl⟩ := List.mem_map.1 hx
  have := List.mem_range.1 hk
  omega
end Go.Tru
namespace Go.Proofs.Ytigajmfadfinpaa
open Go.RowKit Go.Tru

def MkRel (i frm n : Nat) (w : World) (v k : Value) (wr : World) : Prop :=
  ∃ j : Nat, j ≤ n ∧ k = .int .i64 ((frm : Int) + (j : Int)) ∧ OwnsInts wr w.heap.size v (marksI i frm j) ∧ Keeps [] w wr

set_option maxHeartbeats 800000 in
theorem markInts_any (i frm n : Nat) (hi : i ≤ 2) (hf : frm ≤ 100000) (hn : n ≤ 100000) (w : World) :
    Calls Try.prog 35 #[.int .i64 i, .int .i64 frm, .int .i64 n] w fun e w' => ∃ v, e = .returned v ∧ OwnsInts w' w.heap.size v (marksI i frm n) ∧ Keeps [] w w' := by
  obtain ⟨I, hI⟩ : ∃ I : Int, (i : Int) = I := ⟨_, rfl⟩
  obtain ⟨F, hF⟩ : ∃ F : Int, (frm : Int) = F := ⟨_, rfl⟩
  obtain ⟨N, hN⟩ : ∃ N : Int, (n : Int) = N := ⟨_, rfl⟩
  have I0 : 0 ≤ I := by omega
  have I1 : I ≤ 2 := by omega
  have F0 : 0 ≤ F := by omega
  have F1 : F ≤ 100000 := by omega
  have N0 : 0 ≤ N := by omega
  have N1 : N ≤ 100000 := by omega
  rw [hI, hF, hN]
  have HI := Lib.hid hI
  have HF := Lib.hid hF
  have HN := Lib.hid hN
  clear hI hF hN hi hf
  go_enter Try.func35, Try.ntmps35
  go_wp2_with fail
  go_loopw [7, 8] (fun v k wr => MkRel i frm n w v k wr) (fun _ k _ => ((frm : Int) + (n : Int) - intOf k).toNat)
  case atStart => exact ⟨0, Nat.zero_le _, by rw [HF.out]; simp, OwnsInts.nil _ _, Keeps.refl _ _⟩
  case round =>
    obtain ⟨j, hj, rfl, hown, hK⟩ := hrel
    rw [HF.out]
    obtain ⟨J, hJ⟩ : ∃ J : Int, F + (j : Int) = J := ⟨_, rfl⟩
    have J0 : 0 ≤ J := by omega
    have J1 : J ≤ 200000 := by have := HN.out; omega
    rw [hJ]
    by_cases hlt : j < n
    · have hlt' : J < F + N := by have := HN.out; omega
      have HO := Lib.hid hown
      have HK := Lib.hid hK
      have HJ := Lib.hid hJ
      clear hown hK hJ
      go_wp2_with (at_builtin; go_must (refine app_ints rfl _ _ rfl w.heap.size _ (marksI i frm j) rfl (ownsRow_keeps HO.out ((Keeps.refl [] _).alloc _) (by simp)) ⟨_, 0, none⟩ 1 1 [-1000000 * I - J - 7] rfl rfl (cell_one_new _ _ _) (by rw [marksI_len]; omega) (by have := HK.out.size; simp; omega) ?_))
      intro v2 w2 hown2 hk2 _hnil _hb
      have hlo := World.ownsRow.lt HO.out
      have HO2 := Lib.hid hown2
      have HK2 := Lib.hid hk2
      clear hown2 hk2 _hnil _hb
      go_wp2_with fail
      go_roundw
      case rel =>
        refine ⟨j + 1, by omega, by rw [HF.out]; have := HJ.out; congr 1; omega, ?_, (HK.out.alloc _).trans' HK2.out (fun i hi => Or.inr (hlo i (mem_blks.1 hi)).1)⟩
        rw [marksI_succ, show -1000000 * (i : Int) - ((frm + j : Nat) : Int) - 7 = -1000000 * I - J - 7 by have := HI.out; have := HF.out; have := HJ.out; omega]
        exact HO2.out
      case measure =>
        have h1 := HN.out
        have h2 := HF.out
        have h3 := HJ.out
        simp only [intOf]
        omega
    · have hge : ¬ J < F + N := by have := HN.out; omega
      obtain rfl : j = n := by omega
      have HO := Lib.hid hown
      have HK := Lib.hid hK
      clear hown hK hJ
      go_wp2_with fail
      go_ret
      exact ⟨_, rfl, HO.out, HK.out⟩

set_option maxHeartbeats 800000 in
theorem copyInts_any {base : Nat} {v : Value} {xs : List Int} {w : World} (h : OwnsInts w base v xs) (hn : xs.length ≤ 1000000) :
    Calls Try.prog 19 #[v] w fun e w' => ∃ u, e = .returned u ∧ OwnsInts w' w.heap.size u xs ∧ Keeps [] w w' := by
  rcases h.2 with ⟨h1, h2⟩ | ⟨g, cap, cur, h1, _⟩
  · obtain rfl : xs = [] := List.eq_nil_of_length_eq_zero h2
    subst h1
    go_enter Try.func19, Try.ntmps19
    go_wp2_with fail
    go_ret
    exact ⟨_, rfl, OwnsInts.nil _ _, Keeps.refl _ _⟩
  · subst h1
    have hcells := World.ownsRow.cells h (g := g) rfl
    have HC := Lib.hid hcells
    clear h hcells
    go_enter Try.func19, Try.ntmps19
    go_wp2_with (at_builtin; go_must (refine app_ints rfl _ _ rfl w.heap.size _ [] rfl (OwnsInts.nil _ _) ⟨g, 0, none⟩ xs.length cap xs rfl rfl HC.out (by simp; omega) (Nat.le_refl _) ?_))
    intro v2 w2 hown2 hk2 _hnil _hb
    have HO2 := Lib.hid hown2
    have HK2 := Lib.hid hk2
    clear hown2 hk2 _hnil _hb
    go_wp2_with fail
    go_ret
    exact ⟨_, rfl, HO2.out, HK2.out⟩
end Go.Proofs.Ytigajmfadfinpaa
