/-
  PackinNumbers, plain: a number behind its first byte.
-/
import Derived.Test.YtcmeebciolegbaaPackRuns
namespace Go.Tru
theorem pk_first (b : Int) (hb : 204 ≤ b ∧ b ≤ 211) : (Pk.new 1).step b = (Pk.new 1).follows (if b ≤ 207 then 1 else 2) (2 ^ (if b ≤ 207 then b - 204 else b - 208).toNat) := by
  unfold Pk.step
  rw [if_neg (by simp [Pk.new, Core.new]), if_neg (by simp [Pk.new, Core.new]), if_neg (by simp [Pk.new])]
  unfold Pk.item
  have hc : isContB b = false := by unfold isContB; exact decide_eq_false (by omega)
  rw [if_neg (by simp [Pk.new, Core.new]; omega), if_neg (by simp [Pk.new, Core.new, Core.atKey]), if_neg (by omega), if_neg (by omega), if_neg (by simp [hc]), if_neg (by omega), if_neg (by omega), if_neg (by omega), if_neg (by omega), if_neg (by omega), if_neg (by omega)]
  unfold Pk.long
  rw [if_neg (by omega)]
  by_cases h : b ≤ 207
  · simp only [if_pos h]
  · simp only [if_neg h]
    rw [if_pos (by omega)]

theorem pk_num (f T n : Nat) (hf : f < 8) (hn : n + 1 = 2 ^ (f % 4)) (hT : T / 256 ^ (n + 1) = 0) :
    packAll (UInt8.ofNat (204 + f) :: bigB T (n + 1)) 1 = ([if f < 4 then evInt false T else signedEv ((n + 1 : Nat) : Int) T], 0) := by
  unfold packAll
  rw [if_neg (by omega), run_cons]
  have hb : ((UInt8.ofNat (204 + f)).toNat : Int) = 204 + (f : Int) := by
    have : (UInt8.ofNat (204 + f)).toNat = 204 + f := by simp; omega
    rw [this]; simp
  rw [hb, pk_first _ (by omega)]
  have hp : (2 : Int) ^ (if 204 + (f : Int) ≤ 207 then 204 + (f : Int) - 204 else 204 + (f : Int) - 208).toNat = ((n + 1 : Nat) : Int) := by
    rw [hn]
    have e : (if 204 + (f : Int) ≤ 207 then 204 + (f : Int) - 204 else 204 + (f : Int) - 208).toNat = f % 4 := by split <;> omega
    rw [e]
    simp
  rw [hp]
  have h := num_run T [] n ((Pk.new 1).follows (if 204 + (f : Int) ≤ 207 then 1 else 2) ((n + 1 : Nat) : Int)).2 rfl (by simp [Pk.follows, Pk.new, Core.new]) (by simp only [Pk.follows]; split <;> decide) (by simp [Pk.follows]) (by rw [hT]; rfl)
  rw [List.append_nil] at h
  refine (cont_none (p := ((Pk.new 1).follows (if 204 + (f : Int) ≤ 207 then 1 else 2) ((n + 1 : Nat) : Int)).2) rfl _).trans ?_
  rw [h]
  unfold Pk.told
  simp only [Pk.follows]
  by_cases h4 : f < 4
  · simp only [if_pos (show 204 + (f : Int) ≤ 207 by omega), if_pos h4, if_true]
    rfl
  · simp only [if_neg (show ¬ 204 + (f : Int) ≤ 207 by omega), if_neg h4]
    rw [if_neg (by decide), if_pos trivial]
    obtain ⟨b, m, hbm⟩ := signed_kind ((n + 1 : Nat) : Int) T
    rw [hbm]
    rfl

theorem signed_pos {n T : Nat} (h : (T : Int) < 2 ^ (8 * n - 1)) : signedEv (n : Int) T = evInt false T := by
  unfold signedEv
  rw [if_pos (by simpa using h)]
theorem signed_neg {n T : Nat} {v : Int} (h0 : (2 : Int) ^ (8 * n - 1) ≤ T) (h : (T : Int) = 2 ^ (8 * n) + v) : signedEv (n : Int) T = evInt true (-1 - v) := by
  unfold signedEv
  rw [if_neg (by simpa using h0)]
  congr 1
  simp only [Int.toNat_natCast]
  omega
end Go.Tru
