/-
  packin's Parser, plain: a number's bytes; a text's bytes.
-/
import Derived.Test.YtmcbdkhlbmhfeaaPackRun
import Derived.Test.YtmcbdkhlbmhfeaaBig
namespace Go.Tru

/-- what comes of a step, and of the bytes behind it -/
def Pk.cont (t : List Ev × Pk) (r : List UInt8) : List Ev × Int :=
  if t.2.c.e ≠ 0 then (t.1, t.2.c.e) else (t.1 ++ (t.2.run r).1, (t.2.run r).2)

theorem run_cons (p : Pk) (b : UInt8) (r : List UInt8) : p.run (b :: r) = Pk.cont (p.step b.toNat) r := rfl
theorem cont_ok {t : List Ev × Pk} (h : t.2.c.e = 0) (r : List UInt8) : Pk.cont t r = (t.1 ++ (t.2.run r).1, (t.2.run r).2) := by unfold Pk.cont; rw [if_neg (by simp [h])]
theorem cont_err {t : List Ev × Pk} (h : t.2.c.e ≠ 0) (r : List UInt8) : Pk.cont t r = (t.1, t.2.c.e) := by unfold Pk.cont; rw [if_pos h]
theorem cont_none {p : Pk} (h : p.c.e = 0) (r : List UInt8) : Pk.cont ([], p) r = p.run r := by rw [cont_ok h]; simp

theorem num_run (T : Nat) (rest : List UInt8) : ∀ (m : Nat) (p : Pk), p.c.e = 0 → ¬ 0 < p.c.lack → p.kind ≠ 0 → p.lack = (m : Int) + 1 → p.v = ((T / 256 ^ (m + 1) : Nat) : Int) →
    p.run (bigB T (m + 1) ++ rest) = Pk.cont (Pk.told { p with v := T, lack := 0, kind := 0 } p.kind p.all T) rest
  | m, p, he, hl, hk, hlk, hv => by
    have hb : (UInt8.ofNat (T / 256 ^ m % 256)).toNat = T / 256 ^ m % 256 := by simp
    have hstep : p.step ((UInt8.ofNat (T / 256 ^ m % 256)).toNat : Int) = p.number ((T / 256 ^ m % 256 : Nat) : Int) := by
      rw [hb]
      unfold Pk.step
      rw [if_neg (by simp [he]), if_neg hl, if_pos hk]
    have hv2 : p.v * 256 + ((T / 256 ^ m % 256 : Nat) : Int) = ((T / 256 ^ m : Nat) : Int) := by
      rw [hv, Nat.pow_succ, ← Nat.div_div_eq_div_mul]
      omega
    rw [bigB, List.cons_append, run_cons, hstep]
    cases m with
    | zero =>
      unfold Pk.number
      rw [if_neg (by omega), hv2]
      have : p.lack - 1 = 0 := by omega
      rw [this]
      simp [bigB]
    | succ m =>
      unfold Pk.number
      rw [if_pos (by omega), hv2]
      refine (cont_none (p := { p with v := ((T / 256 ^ (m + 1) : Nat) : Int), lack := p.lack - 1 }) he _).trans ?_
      exact num_run T rest m { p with v := ((T / 256 ^ (m + 1) : Nat) : Int), lack := p.lack - 1 } he hl hk (by simp only []; omega) rfl

theorem bigB_mod (v : Nat) : ∀ (n k : Nat), n ≤ k → bigB (v % 256 ^ k) n = bigB v n
  | 0, _, _ => rfl
  | n + 1, k, h => by
    rw [bigB, bigB, bigB_mod v n k (by omega)]
    congr 2
    obtain ⟨j, rfl⟩ : ∃ j, k = n + 1 + j := ⟨k - (n + 1), by omega⟩
    rw [Nat.mod_pow_div_mod v n j]
where
  Nat.mod_pow_div_mod (v n j : Nat) : v % 256 ^ (n + 1 + j) / 256 ^ n % 256 = v / 256 ^ n % 256 := by
    have h1 : 256 ^ (n + 1 + j) = 256 ^ n * (256 * 256 ^ j) := by rw [Nat.pow_add, Nat.pow_succ, Nat.mul_assoc]
    rw [h1, Nat.mod_mul_right_div_self, Nat.mod_mul_right_mod]

/-- a text's bytes, behind its length -/
theorem word_run (word : Bool) (all rest : List UInt8) (hu : word = true → (Chk.zero.run all).whole = true) : ∀ (l pre : List UInt8) (p : Pk), all = pre ++ l → l ≠ [] → p.c.e = 0 → p.c.word = word → p.c.chunks = false → p.c.lack = l.length → p.c.s = pre → (word = true → p.c.c = Chk.zero.run pre) →
    ∃ c' : Chk, p.run (l ++ rest) = Pk.cont (p.put (Core.text { p.c with s := all, lack := 0, c := c' })) rest
  | [], _, _, _, h, _, _, _, _, _, _ => absurd rfl h
  | b :: l, pre, p, hall, _, he, hw, hc, hl, hs, hcc => by
    have hb : UInt8.ofNat ((b.toNat : Int)).toNat = b := by simp
    have hstep : p.step (b.toNat : Int) = p.put (p.c.byte b.toNat) := by
      unfold Pk.step
      rw [if_neg (by simp [he]), if_pos (by rw [hl]; simp only [List.length_cons]; omega)]
    rw [List.cons_append, run_cons, hstep]
    have hall2 : all = (pre ++ [b]) ++ l := by rw [hall]; simp
    obtain ⟨c', hc'⟩ : ∃ c', (if p.c.word then p.c.c.step b.toNat else p.c.c) = c' := ⟨_, rfl⟩
    have hcz : word = true → c' = Chk.zero.run (pre ++ [b]) := fun h => by
      rw [← hc', hw, h, if_pos rfl, hcc h, Chk.run_append]
      rfl
    have hnb : word = true → c'.bad = false := fun h => by
      cases hbad : c'.bad with
      | false => rfl
      | true =>
        have h1 := hu h
        rw [hall2, Chk.run_append, ← hcz h, Chk.run_bad hbad] at h1
        simp [Chk.whole, hbad] at h1
    have hlen : p.c.lack - 1 = (l.length : Int) := by rw [hl]; simp only [List.length_cons]; omega
    have hwh : word = true → l = [] → c'.whole = true := fun h h0 => by
      rw [hcz h]
      have h1 := hu h
      rw [hall2, h0, List.append_nil] at h1
      exact h1
    have hbyte : p.c.byte b.toNat = if 0 < (l.length : Int) then ([], { p.c with s := pre ++ [b], lack := l.length, c := c' }) else Core.text { p.c with s := pre ++ [b], lack := l.length, c := c' } := by
      unfold Core.byte
      rw [hc']
      simp only [hs, hb, hlen]
      rw [if_neg (by
        rintro ⟨h, h1 | ⟨h1, h2⟩⟩
        · rw [hnb (hw ▸ h)] at h1; cases h1
        · have h3 : l = [] := List.length_eq_zero_iff.1 (by omega)
          rw [hwh (hw ▸ h) h3] at h2; cases h2)]
      simp [hc]
    rw [hbyte]
    cases l with
    | nil =>
      rw [if_neg (by simp)]
      refine ⟨c', ?_⟩
      rw [List.nil_append, hall2, List.append_nil]
      rfl
    | cons b2 l =>
      rw [if_pos (by simp only [List.length_cons]; omega)]
      show ∃ c'', Pk.cont ([], { p with c := { p.c with s := pre ++ [b], lack := ((b2 :: l).length : Nat), c := c' } }) _ = _
      have h := word_run word all rest hu (b2 :: l) (pre ++ [b]) { p with c := { p.c with s := pre ++ [b], lack := ((b2 :: l).length : Nat), c := c' } } hall2 (by simp) he hw hc rfl rfl hcz
      obtain ⟨c'', h⟩ := h
      refine ⟨c'', ?_⟩
      rw [cont_none (by exact he)]
      exact h
end Go.Tru
