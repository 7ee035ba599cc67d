/-
  PackinCounts, plain.
-/
import Derived.Test.YtcmeebciolegbaaPackRuns
namespace Go.Tru
structure PCnt (m : Bool) (n items j : Nat) (p : Pk) : Prop where
  depth : p.c.depth = 2
  e : p.c.e = 0
  lack : p.c.lack = 0
  kind : p.kind = 0
  chunks : p.c.chunks = false
  s : p.c.s = []
  done : p.c.done = decide (j = items)
  open_ : p.c.open_ = if j = items then [] else [⟨m, n, j⟩]

def cntItems (m : Bool) (n : Nat) : Nat := if m then 2 * n else n

theorem pcnt_first (m : Bool) (n : Nat) (hn : n ≤ 15) : PCnt m n (cntItems m n) 0 ((Pk.new 2).step ((if m then 128 else 144) + (n : Int))).2 := by
  obtain ⟨b, hb⟩ : ∃ b : Int, (if m = true then 128 else 144) + (n : Int) = b := ⟨_, rfl⟩
  have hb1 : 128 ≤ b ∧ b < 160 := by rw [← hb]; split <;> omega
  have hb2 : decide (b < 144) = m := by rw [← hb]; cases m <;> simp <;> omega
  have hb3 : b % 16 = n := by rw [← hb]; split <;> omega
  rw [hb]
  unfold Pk.step
  rw [if_neg (by simp [Pk.new, Core.new]), if_neg (by simp [Pk.new, Core.new]), if_neg (by simp [Pk.new])]
  unfold Pk.item
  rw [if_neg (by simp [Pk.new, Core.new]; omega), if_neg (by simp [Pk.new, Core.new, Core.atKey]), if_neg (by omega), if_neg (by omega), if_neg (by simp [Pk.new, Core.new, Core.full]), if_neg (by omega), if_neg (by omega), if_pos (by omega), hb2, hb3]
  unfold Pk.count
  rw [if_neg (by omega)]
  unfold Core.begin
  cases n with
  | zero =>
    rw [if_pos (show ((0 : Nat) : Int) = 0 from rfl)]
    cases m <;> exact ⟨rfl, rfl, rfl, rfl, rfl, rfl, rfl, rfl⟩
  | succ n =>
    have h0 : ¬ 0 = cntItems m (n + 1) := by unfold cntItems; split <;> omega
    rw [if_neg (by omega)]
    exact ⟨rfl, rfl, rfl, rfl, rfl, rfl, by rw [decide_eq_false h0]; rfl, by rw [if_neg h0]; rfl⟩

theorem pcnt_step {m : Bool} {n j : Nat} {p : Pk} (hj : j < cntItems m n) (hp : PCnt m n (cntItems m n) j p) : PCnt m n (cntItems m n) (j + 1) (p.step 160).2 := by
  have hop := hp.open_
  rw [if_neg (by omega)] at hop
  have hdone := hp.done
  rw [decide_eq_false (by omega)] at hdone
  have hs : p.step 160 = p.put (p.c.length true 0) := by
    unfold Pk.step
    rw [if_neg (by simp [hp.e]), if_neg (by rw [hp.lack]; decide), if_neg (by simp [hp.kind])]
    unfold Pk.item
    rw [if_neg (by simp [hdone]), if_neg (by rintro ⟨_, h⟩; exact absurd h (by decide)), if_neg (by decide), if_neg (by decide), if_neg (by rintro ⟨h, _⟩; exact absurd h (by decide)), if_neg (by decide), if_neg (by decide), if_neg (by decide), if_pos (by decide)]
    rfl
  rw [hs]
  unfold Core.length
  rw [if_neg (by rw [hp.s]; decide), if_neg (by simp only []; rw [hp.chunks]; decide)]
  unfold Core.text Core.value
  simp only [hop]
  have hj' : (⟨m, n, (j : Int) + 1⟩ : Cont).met = decide (j + 1 = cntItems m n) := by
    unfold Cont.met cntItems at *
    cases m
    · simp only [Bool.false_eq_true, if_false] at *
      exact decide_eq_decide.2 (by omega)
    · simp only [if_true] at *
      exact decide_eq_decide.2 (by omega)
  unfold closeUp
  simp only [hj']
  by_cases hl : j + 1 = cntItems m n
  · rw [decide_eq_true hl, if_pos rfl]
    exact ⟨hp.depth, hp.e, rfl, hp.kind, rfl, rfl, by rw [decide_eq_true hl]; simp [closeUp, Pk.put], by rw [if_pos hl]; rfl⟩
  · rw [decide_eq_false hl, if_neg (by simp)]
    exact ⟨hp.depth, hp.e, rfl, hp.kind, rfl, rfl, by rw [decide_eq_false hl]; simp [hdone, Pk.put], by rw [if_neg hl]; rfl⟩

theorem told_count {q : Pk} {kind all v : Int} (h : kind = 5 ∨ kind = 6) : q.told kind all v = q.count (decide (kind = 6)) v := by
  unfold Pk.told
  rw [if_neg (by omega), if_neg (by omega), if_neg (by omega)]

theorem count_end {q : Pk} (hq : q.c = Core.new 2) (m : Bool) (v : Nat) : (Pk.cont (q.count m v) []).2 = if v = 0 then 0 else if 1000000 < v then 7 else 3 := by
  unfold Pk.count
  by_cases h0 : v = 0
  · subst h0
    rw [if_neg (show ¬ (1000000 : Int) < ((0 : Nat) : Int) by decide), if_pos rfl, hq]
    cases m <;> rfl
  · rw [if_neg h0]
    by_cases h1 : 1000000 < v
    · rw [if_pos (by omega), if_pos h1, hq]
      rfl
    · rw [if_neg (by omega), if_neg h1, hq]
      unfold Core.begin
      rw [if_neg (by omega)]
      rfl

set_option maxRecDepth 100000 in
theorem pcnt_all (m : Bool) (v : Nat) (hv : v < 4294967296) : (packAll ((if m then 223 else 221) :: bigB v 4) 2).2 = if v = 0 then 0 else if 1000000 < v then 7 else 3 := by
  unfold packAll
  rw [if_neg (by omega), run_cons]
  have hst : (Pk.new 2).step (((if m = true then (223 : UInt8) else 221).toNat : Nat) : Int) = (Pk.new 2).follows (if m then 6 else 5) 4 := by
    cases m <;> rfl
  rw [hst]
  obtain ⟨kd, hkd⟩ : ∃ kd : Int, (if m = true then (6 : Int) else 5) = kd := ⟨_, rfl⟩
  have hk2 : kd = 5 ∨ kd = 6 := by rw [← hkd]; split <;> simp
  rw [hkd]
  have hv0 : v / 256 ^ (3 + 1) = 0 := Nat.div_eq_of_lt (by omega)
  have h := num_run v [] 3 ((Pk.new 2).follows kd 4).2 rfl (by simp [Pk.follows, Pk.new, Core.new]) (by simp only [Pk.follows]; omega) (by simp [Pk.follows]) (by rw [hv0]; rfl)
  rw [List.append_nil] at h
  refine Eq.trans (congrArg Prod.snd ((cont_none (p := ((Pk.new 2).follows kd 4).2) rfl _).trans h)) ?_
  rw [told_count (by exact hk2)]
  exact count_end rfl _ v
end Go.Tru
