/-
  PackinOthers, plain: the error of an item's first byte.
-/
import Derived.Test.YthiennlanokdjaaPackModel
namespace Go.Tru
def othersErr (key : Bool) (x : Int) : Int :=
  if x = 193 then 2 else if (key = true ∧ isTextB x = false) ∨ (199 ≤ x ∧ x ≤ 201 ∨ 212 ≤ x ∧ x ≤ 216) then 8 else if x = 202 ∨ x = 203 then 6 else 0

theorem count_e {p : Pk} {pairs : Bool} {n : Int} (hn : n ≤ 1000000) : (p.count pairs n).2.c.e = p.c.e := by
  unfold Pk.count
  rw [if_neg (by omega)]
  show (p.c.begin pairs n).2.e = _
  unfold Core.begin
  split <;> rfl

theorem length_e {k : Core} {word : Bool} {n : Int} (hn : n ≤ 200 - (k.s.length : Int)) : (k.length word n).2.e = k.e := by
  unfold Core.length
  rw [if_neg (by omega)]
  simp only []
  split <;> rfl

theorem others_plain {p : Pk} (he : p.c.e = 0) (hl : p.c.lack = 0) (hk : p.kind = 0) (hd : p.c.done = false) (hf : p.c.full = false) (hs : p.c.s = []) (x : Int) : (p.step x).2.c.e = othersErr p.c.atKey x := by
  unfold Pk.step othersErr
  rw [if_neg (by simp [he]), if_neg (by omega), if_neg (by simp [hk])]
  unfold Pk.item
  by_cases h1 : x = 193
  · rw [if_pos (Or.inr h1), if_pos h1]; rfl
  rw [if_neg (show ¬ (p.c.done = true ∨ x = 193) by rw [hd]; simp; exact h1), if_neg h1]
  by_cases h2 : p.c.atKey = true ∧ isTextB x = false
  · rw [if_pos h2, if_pos (Or.inl h2)]; rfl
  rw [if_neg h2]
  by_cases h3 : 199 ≤ x ∧ x ≤ 201 ∨ 212 ≤ x ∧ x ≤ 216
  · rw [if_pos h3, if_pos (Or.inr h3)]; rfl
  rw [if_neg h3, if_neg (show ¬ ((p.c.atKey = true ∧ isTextB x = false) ∨ (199 ≤ x ∧ x ≤ 201 ∨ 212 ≤ x ∧ x ≤ 216)) from fun h => h.elim h2 h3)]
  by_cases h4 : x = 202 ∨ x = 203
  · rw [if_pos h4, if_pos h4]; rfl
  rw [if_neg h4, if_neg h4, if_neg (show ¬ (isContB x = true ∧ p.c.full = true) by rw [hf]; simp)]
  split
  · exact he
  split
  · exact he
  split
  · rw [count_e (by omega)]; exact he
  split
  · show (p.c.length true (x % 32)).2.e = 0
    rw [length_e (by rw [hs]; simp; omega)]; exact he
  split
  · exact he
  split
  · exact he
  unfold Pk.long
  split
  · exact he
  split
  · exact he
  split
  · exact he
  split
  · exact he
  split
  · exact he
  · exact he

def pkArr : Pk := ⟨⟨4, [⟨false, 1, 0⟩], false, 0, false, false, 0, [], Chk.zero⟩, 0, 0, 0, 0⟩
def pkMap : Pk := ⟨⟨4, [⟨true, 1, 0⟩], false, 0, false, false, 0, [], Chk.zero⟩, 0, 0, 0, 0⟩
theorem step_arr1 : (Pk.new 4).step 145 = ([evArr 1], pkArr) := by rfl
theorem step_map1 : (Pk.new 4).step 129 = ([evMap 1], pkMap) := by rfl
end Go.Tru
