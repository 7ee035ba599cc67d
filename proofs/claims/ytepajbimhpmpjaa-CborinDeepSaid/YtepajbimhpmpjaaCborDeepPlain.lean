/-
  CborinDeep, plain: arrays of one part in one another.
-/
import Derived.Test.YtepajbimhpmpjaaCborModel
namespace Go.Tru
def nest (d : Int) (j : Nat) : Cb := ⟨⟨d, List.replicate j ⟨false, 1, 0⟩, false, 0, false, false, 0, [], Chk.zero⟩, Hd.zero, false⟩

theorem close_nest : ∀ j, closeUp (List.replicate j ⟨false, 1, 0⟩) = (List.replicate j evEnd, [], true)
  | 0 => rfl
  | j + 1 => by
    rw [List.replicate_succ, closeUp, if_pos (by decide), close_nest j]
    rfl

theorem nest_key (d : Int) (j : Nat) : (nest d j).c.atKey = false := by
  cases j with
  | zero => rfl
  | succ j => rfl

theorem nest_item (d : Int) (j : Nat) (x : Int) : (nest d j).step x = (nest d j).item x := by
  unfold Cb.step
  rw [if_neg (by simp [nest]), if_neg (by simp [nest]), if_neg (by simp [nest]), if_neg (by simp [nest])]

theorem nest_open {d : Int} {j : Nat} (h : (j : Int) < d) : (nest d j).step 129 = ([evArr 1], nest d (j + 1)) := by
  rw [nest_item]
  unfold Cb.item
  rw [if_neg (by simp [nest]), if_neg (by decide), if_neg (by decide), if_neg (by rw [nest_key]; simp), if_neg (by decide), if_neg (by simp [Core.full, nest]; omega)]
  rfl

theorem nest_full {d : Int} {j : Nat} (h : ¬ (j : Int) < d) : (nest d j).step 129 = (nest d j).put ((nest d j).c.fail 4) := by
  rw [nest_item]
  unfold Cb.item
  rw [if_neg (by simp [nest]), if_neg (by decide), if_neg (by decide), if_neg (by rw [nest_key]; simp), if_neg (by decide), if_pos ⟨by decide, by simp [Core.full, nest]; omega⟩]

theorem nest_five (d : Int) (j : Nat) : (nest d j).step 5 = (nest d j).put ((nest d j).c.value (evInt false 5)) := by
  rw [nest_item]
  unfold Cb.item
  rw [if_neg (by simp [nest]), if_neg (by decide), if_neg (by decide), if_neg (by rw [nest_key]; simp), if_neg (by decide), if_neg (fun h => absurd h.1 (by decide))]
  rfl

theorem deep_run (d : Int) : ∀ (m j : Nat), (j : Int) ≤ d →
    ((nest d j).run (List.replicate m 129 ++ [5])).2 = (if d < (j : Int) + m then 4 else 0) ∧ (((nest d j).run (List.replicate m 129 ++ [5])).1.length : Int) = if d < (j : Int) + m then d - j else 2 * (m : Int) + 1 + j
  | 0, j, hj => by
    have e5 : ((5 : UInt8).toNat : Int) = 5 := rfl
    rw [List.replicate_zero, List.nil_append, Cb.run, e5, nest_five, if_neg (by simp [Cb.put, Core.value, nest])]
    have hc : (nest d j).c.value (evInt false 5) = (evInt false 5 :: List.replicate j evEnd, { (nest d j).c with open_ := [], done := true }) := by
      unfold Core.value
      rw [show (nest d j).c.open_ = List.replicate j ⟨false, 1, 0⟩ from rfl, close_nest]
      simp [nest]
    rw [hc, if_neg (by omega), if_neg (by omega)]
    refine ⟨?_, ?_⟩
    · simp [Cb.put, Cb.run, Core.over, nest]
    · simp only [Cb.put, Cb.run, List.append_nil, List.length_cons, List.length_replicate]; omega
  | m + 1, j, hj => by
    have e129 : ((129 : UInt8).toNat : Int) = 129 := rfl
    rw [List.replicate_succ, List.cons_append, Cb.run, e129]
    by_cases hf : (j : Int) < d
    · rw [nest_open hf, if_neg (by simp [nest])]
      obtain ⟨h1, h2⟩ := deep_run d m (j + 1) (by omega)
      refine ⟨?_, ?_⟩
      · simp only []
        rw [h1]
        congr 1
        apply propext; constructor <;> intro h <;> omega
      · simp only [List.length_append, List.length_singleton]
        rw [Int.natCast_add, h2]
        split <;> split <;> omega
    · rw [nest_full hf, if_pos (by simp [Cb.put, Core.fail]), if_pos (by omega), if_pos (by omega)]
      refine ⟨rfl, ?_⟩
      simp only [Cb.put, Core.fail, List.length_nil]
      omega

theorem deep_all {d : Int} (hd : 1 ≤ d ∧ d ≤ 16) (n : Nat) :
    (cborAll (List.replicate n 129 ++ [5]) d).2 = (if d < n then 4 else 0) ∧ ((cborAll (List.replicate n 129 ++ [5]) d).1.length : Int) = if d < n then d else 2 * (n : Int) + 1 := by
  have h := deep_run d n 0 (by omega)
  unfold cborAll
  rw [if_neg (by omega)]
  simp only [Int.natCast_zero, Int.zero_add, Int.sub_zero, Int.add_zero] at h
  exact h
end Go.Tru
