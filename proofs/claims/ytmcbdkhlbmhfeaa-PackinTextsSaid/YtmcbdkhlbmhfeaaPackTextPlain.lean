/-
  PackinTexts, plain: a text of so many bytes below 128, byte by byte.
-/
import Derived.Test.YtmcbdkhlbmhfeaaPackRuns
import Derived.Test.YtmcbdkhlbmhfeaaPackHd
namespace Go.Tru

/-- one byte below 128 behind others -/
theorem asc_step {k : Chk} (h : k.bad = false ∧ k.lack = 0) {b : Int} (hb : b < 128) : (k.step b).bad = false ∧ (k.step b).lack = 0 := by
  have hl : leadLack k.lack b = 0 := by unfold leadLack; rw [if_pos hb]; exact h.2
  have ho : leadOk b = true := by unfold leadOk; exact decide_eq_true (Or.inl hb)
  unfold Chk.step Chk.begin
  simp only [h.1, h.2, Bool.false_eq_true, if_false, if_true, ho, Bool.not_true]
  rw [h.2] at hl
  exact ⟨trivial, hl⟩

theorem asc_whole {k : Chk} (h : k.bad = false ∧ k.lack = 0) : k.whole = true := by simp [Chk.whole, h.1, h.2]

/-- between the bytes of a text's inside: j have come, of n -/
structure TxIn (word : Bool) (n j : Nat) (c : UInt8) (p : Pk) : Prop where
  e : p.c.e = 0
  lack : p.c.lack = (n : Int) - j
  kind : p.kind = 0
  chunks : p.c.chunks = false
  word : p.c.word = word
  s : p.c.s = List.replicate j c
  open_ : p.c.open_ = []
  done : p.c.done = false
  chk : p.c.c.bad = false ∧ p.c.c.lack = 0

theorem tx_in {word : Bool} {n j : Nat} {c : UInt8} (hc : (c.toNat : Int) < 128) {p : Pk} (hp : TxIn word n j c p) (hj : j < n) :
    (j + 1 < n → (p.step c.toNat).1 = [] ∧ TxIn word n (j + 1) c (p.step c.toNat).2) ∧
    (j + 1 = n → (p.step c.toNat).1 = [wordEv word (List.replicate n c)] ∧ (p.step c.toNat).2.c.e = 0 ∧ (p.step c.toNat).2.c.done = true ∧ (p.step c.toNat).2.c.held = 0) := by
  have hst : p.step c.toNat = p.put (p.c.byte c.toNat) := by
    unfold Pk.step
    rw [if_neg (by simp [hp.e]), if_pos (by rw [hp.lack]; omega)]
  have hb : UInt8.ofNat ((c.toNat : Int)).toNat = c := by simp
  obtain ⟨c', hc'⟩ : ∃ c', (if p.c.word = true then p.c.c.step c.toNat else p.c.c) = c' := ⟨_, rfl⟩
  have hcc : c'.bad = false ∧ c'.lack = 0 := by
    rw [← hc']
    split
    · exact asc_step hp.chk hc
    · exact hp.chk
  have hs : p.c.s ++ [c] = List.replicate (j + 1) c := by rw [hp.s, List.replicate_succ']
  have hl1 : p.c.lack - 1 = (n : Int) - (j + 1 : Nat) := by rw [hp.lack]; omega
  have hbyte : p.c.byte c.toNat = if 0 < p.c.lack - 1 ∨ p.c.chunks = true then ([], { p.c with s := List.replicate (j + 1) c, lack := (n : Int) - (j + 1 : Nat), c := c' }) else Core.text { p.c with s := List.replicate (j + 1) c, lack := (n : Int) - (j + 1 : Nat), c := c' } := by
    unfold Core.byte
    simp only [hb, hs]
    rw [hc', hl1]
    rw [if_neg (by
      rintro ⟨_, h1 | ⟨_, h2⟩⟩
      · rw [hcc.1] at h1; cases h1
      · rw [asc_whole hcc] at h2; cases h2)]
  rw [hst, hbyte]
  refine ⟨fun h => ?_, fun h => ?_⟩
  · rw [if_pos (Or.inl (by rw [hl1]; omega))]
    exact ⟨rfl, hp.e, rfl, hp.kind, hp.chunks, hp.word, rfl, hp.open_, hp.done, hcc⟩
  · rw [if_neg (by rw [hl1, hp.chunks]; simp; omega)]
    unfold Core.text Core.value
    simp only [hp.open_, hp.word, h]
    refine ⟨rfl, hp.e, by simp [Pk.put, closeUp], ?_⟩
    unfold Core.held
    simp [Pk.put, closeUp, hp.e]

/-- within a head: k bytes of it have come (0 < k) -/
def PxHd (t : Bool) (n k : Nat) (p : Pk) : Prop := p = ⟨Core.new 3, if t then 4 else 3, ((pMore t n + 1 - k : Nat) : Int), ((pMore t n : Nat) : Int), ((n / 256 ^ (pMore t n + 1 - k) : Nat) : Int)⟩

theorem pMore_le (t : Bool) (n : Nat) : pMore t n ≤ 2 := by unfold pMore; repeat' (first | omega | split)

/-- the length is there -/
theorem px_told {t : Bool} {n : Nat} (c : UInt8) (q : Pk) (hq : q.c = Core.new 3) (hk : q.kind = 0) :
    (200 < n → (q.put (q.c.length t n)).1 = [] ∧ (q.put (q.c.length t n)).2.c.e = 5) ∧
    (n ≤ 200 → 0 < n → (q.put (q.c.length t n)).1 = [] ∧ TxIn t n 0 c (q.put (q.c.length t n)).2) ∧
    (n = 0 → (q.put (q.c.length t n)).1 = [wordEv t []] ∧ (q.put (q.c.length t n)).2.c.e = 0 ∧ (q.put (q.c.length t n)).2.c.done = true ∧ (q.put (q.c.length t n)).2.c.held = 0) := by
  rw [hq]
  refine ⟨fun h => ?_, fun h h0 => ?_, fun h => ?_⟩
  · have : (Core.new 3).length t n = (Core.new 3).fail 5 := by
      unfold Core.length
      rw [if_pos (by simp [Core.new]; omega)]
    rw [this]
    exact ⟨rfl, rfl⟩
  · have : (Core.new 3).length t n = ([], { Core.new 3 with word := t, lack := (n : Nat), c := Chk.zero }) := by
      unfold Core.length
      rw [if_neg (by simp [Core.new]; omega), if_pos (Or.inl (by omega))]
    rw [this]
    exact ⟨rfl, rfl, by simp [Pk.put], hk, rfl, rfl, rfl, rfl, rfl, ⟨rfl, rfl⟩⟩
  · subst h
    cases t <;> exact ⟨rfl, rfl, rfl, rfl⟩

/-- the first byte of a text's head that stands alone -/
theorem px_first (b : Int) (hb : 160 ≤ b ∧ b < 192) : (Pk.new 3).step b = (Pk.new 3).put ((Core.new 3).length true (b - 160)) := by
  unfold Pk.step
  rw [if_neg (by simp [Pk.new, Core.new]), if_neg (by simp [Pk.new, Core.new]), if_neg (by simp [Pk.new])]
  unfold Pk.item
  have hc : isContB b = false := by unfold isContB; exact decide_eq_false (by omega)
  rw [if_neg (by simp [Pk.new, Core.new]; omega), if_neg (by simp [Pk.new, Core.new, Core.atKey]), if_neg (by omega), if_neg (by omega), if_neg (by simp [hc]), if_neg (by omega), if_neg (by omega), if_neg (by omega), if_pos (by omega), show b % 32 = b - 160 by omega]
  rfl

theorem px_long (t : Bool) (j : Nat) (hj : j < 2) : (Pk.new 3).step ((if t then 217 else 196) + (j : Int)) = (Pk.new 3).follows (if t then 4 else 3) ((j : Int) + 1) := by
  rcases (show j = 0 ∨ j = 1 by omega) with rfl | rfl <;> cases t <;> rfl

/-- a head, byte by byte: at its last byte the length is told -/
theorem px_head {t : Bool} {n k : Nat} (hn : n < 65536) {p : Pk} (hp : (k = 0 ∧ p = Pk.new 3) ∨ (0 < k ∧ PxHd t n k p)) (hk : k < pMore t n + 1) (b : UInt8) (hb : (pHead t n)[k]? = some b) :
    (k < pMore t n → (p.step b.toNat).1 = [] ∧ PxHd t n (k + 1) (p.step b.toNat).2) ∧
    (k = pMore t n → ∃ q : Pk, q.c = Core.new 3 ∧ q.kind = 0 ∧ p.step b.toNat = q.put (q.c.length t n)) := by
  by_cases hs : t = true ∧ n < 32
  · have hm : pMore t n = 0 := by unfold pMore; rw [if_pos hs]
    obtain rfl : k = 0 := by omega
    obtain ⟨rfl, hn32⟩ := hs
    rcases hp with ⟨_, rfl⟩ | ⟨h, _⟩
    · unfold pHead at hb
      rw [if_pos ⟨rfl, hn32⟩] at hb
      simp only [List.getElem?_cons_zero, Option.some.injEq] at hb
      have hbn : ((b.toNat : Nat) : Int) = 160 + (n : Int) := by
        rw [← hb]
        have : (UInt8.ofNat (160 + n)).toNat = 160 + n := by simp; omega
        rw [this]; simp
      refine ⟨fun h => by omega, fun _ => ⟨Pk.new 3, rfl, rfl, ?_⟩⟩
      rw [hbn, px_first _ (by omega), show 160 + (n : Int) - 160 = n by omega]
      rfl
    · omega
  · have hm : pMore t n = if n < 256 then 1 else 2 := by unfold pMore; rw [if_neg hs]
    have hhd : pHead t n = (UInt8.ofNat ((if t then 217 else 196) + (pMore t n - 1))) :: bigB n (pMore t n) := by
      unfold pHead
      rw [if_neg hs, hm]
      by_cases h : n < 256
      · simp only [if_pos h]; cases t <;> rfl
      · simp only [if_neg h]; cases t <;> rfl
    have hm12 : pMore t n = 1 ∨ pMore t n = 2 := by rw [hm]; split <;> simp
    have hsz : n / 256 ^ pMore t n = 0 := by
      apply Nat.div_eq_of_lt
      rw [hm]
      split <;> omega
    rw [hhd] at hb
    rcases hp with ⟨rfl, rfl⟩ | ⟨h0, rfl⟩
    · simp only [List.getElem?_cons_zero, Option.some.injEq] at hb
      have hbn : ((b.toNat : Nat) : Int) = (if t then 217 else 196) + ((pMore t n - 1 : Nat) : Int) := by
        rw [← hb]
        rcases hm12 with h | h <;> rw [h] <;> cases t <;> rfl
      rw [hbn, px_long t _ (by omega)]
      refine ⟨fun _ => ⟨rfl, ?_⟩, fun h => by omega⟩
      unfold PxHd
      simp only [Nat.zero_add, Nat.add_sub_cancel]
      rw [hsz, show (((pMore t n - 1 : Nat) : Int) + 1) = ((pMore t n : Nat) : Int) by omega]
      rfl
    · obtain ⟨j, rfl⟩ : ∃ j, k = j + 1 := ⟨k - 1, by omega⟩
      simp only [List.getElem?_cons_succ] at hb
      have hbj : b = UInt8.ofNat (n / 256 ^ (pMore t n - j - 1) % 256) := by
        rcases hm12 with h | h
        · rw [h] at hb ⊢
          obtain rfl : j = 0 := by omega
          simpa [bigB] using hb.symm
        · rw [h] at hb ⊢
          rcases (show j = 0 ∨ j = 1 by omega) with rfl | rfl
          · simpa [bigB] using hb.symm
          · simpa [bigB] using hb.symm
      have hbn : ((b.toNat : Nat) : Int) = ((n / 256 ^ (pMore t n - j - 1) % 256 : Nat) : Int) := by rw [hbj]; simp
      have hv : ((n / 256 ^ (pMore t n + 1 - (j + 1)) : Nat) : Int) * 256 + ((n / 256 ^ (pMore t n - j - 1) % 256 : Nat) : Int) = ((n / 256 ^ (pMore t n - j - 1) : Nat) : Int) := by
        obtain ⟨q, hq⟩ : ∃ q, pMore t n - j - 1 = q := ⟨_, rfl⟩
        rw [show pMore t n + 1 - (j + 1) = q + 1 by omega, hq, Nat.pow_succ, ← Nat.div_div_eq_div_mul]
        omega
      have hstep : Pk.step ⟨Core.new 3, if t then 4 else 3, ((pMore t n + 1 - (j + 1) : Nat) : Int), ((pMore t n : Nat) : Int), ((n / 256 ^ (pMore t n + 1 - (j + 1)) : Nat) : Int)⟩ b.toNat = Pk.number ⟨Core.new 3, if t then 4 else 3, ((pMore t n + 1 - (j + 1) : Nat) : Int), ((pMore t n : Nat) : Int), ((n / 256 ^ (pMore t n + 1 - (j + 1)) : Nat) : Int)⟩ b.toNat := by
        unfold Pk.step
        rw [if_neg (by simp [Core.new]), if_neg (by simp [Core.new]), if_pos (by simp only []; split <;> decide)]
      rw [hstep]
      unfold Pk.number
      rw [hbn]
      simp only []
      rw [hv]
      refine ⟨fun h => ?_, fun h => ?_⟩
      · rw [if_pos (by omega)]
        refine ⟨rfl, ?_⟩
        unfold PxHd
        rw [show pMore t n + 1 - (j + 1 + 1) = pMore t n - j - 1 by omega]
        simp only [Pk.mk.injEq, true_and, and_true]
        omega
      · rw [if_neg (by omega), show pMore t n - j - 1 = 0 by omega]
        refine ⟨⟨Core.new 3, 0, ((pMore t n + 1 - (j + 1) : Nat) : Int) - 1, ((pMore t n : Nat) : Int), ((n / 256 ^ 0 : Nat) : Int)⟩, rfl, rfl, ?_⟩
        have hd : decide ((if t = true then (4 : Int) else 3) = 4) = t := by cases t <;> rfl
        unfold Pk.told
        rw [if_neg (by cases t <;> decide), if_neg (by cases t <;> decide), if_pos (by cases t <;> decide), hd]
        simp

/-- all of it: what is left behind k bytes -/
def PxSt (t : Bool) (n : Nat) (c : UInt8) (k : Nat) (p : Pk) : Prop :=
  (k = 0 ∧ p = Pk.new 3) ∨ (0 < k ∧ k < pMore t n + 1 ∧ PxHd t n k p) ∨ (∃ j, k = pMore t n + 1 + j ∧ j < n ∧ n ≤ 200 ∧ TxIn t n j c p) ∨ (k = pMore t n + 1 + n ∧ n ≤ 200 ∧ p.c.e = 0 ∧ p.c.done = true ∧ p.c.held = 0)

theorem px_len (t : Bool) (n : Nat) : (pHead t n).length = pMore t n + 1 := by
  unfold pHead pMore
  repeat' split
  all_goals simp [bigB_len]

/-- a step -/
theorem px_step {t : Bool} {n k : Nat} (hn : n < 65536) {c : UInt8} (hc : (c.toNat : Int) < 128) {p : Pk} (hp : PxSt t n c k p) (b : UInt8) (hb : (pHead t n ++ List.replicate n c)[k]? = some b) :
    (n ≤ 200 → (p.step b.toNat).2.c.e = 0 ∧ ((p.step b.toNat).1.length : Int) = (if k + 1 = pMore t n + 1 + n then 1 else 0) ∧ ((p.step b.toNat).2.c.held : Int) = (if k + 1 = pMore t n + 1 + n then 0 else ((k - pMore t n : Nat) : Int)) ∧ PxSt t n c (k + 1) (p.step b.toNat).2) ∧
    (200 < n → (k < pMore t n → (p.step b.toNat).2.c.e = 0 ∧ PxSt t n c (k + 1) (p.step b.toNat).2) ∧ (k = pMore t n → (p.step b.toNat).2.c.e = 5 ∧ (p.step b.toNat).1 = [])) := by
  have hL := px_len t n
  have hhead : ((k = 0 ∧ p = Pk.new 3) ∨ (0 < k ∧ PxHd t n k p)) → k < pMore t n + 1 →
      (n ≤ 200 → (p.step b.toNat).2.c.e = 0 ∧ ((p.step b.toNat).1.length : Int) = (if k + 1 = pMore t n + 1 + n then 1 else 0) ∧ ((p.step b.toNat).2.c.held : Int) = (if k + 1 = pMore t n + 1 + n then 0 else ((k - pMore t n : Nat) : Int)) ∧ PxSt t n c (k + 1) (p.step b.toNat).2) ∧
      (200 < n → (k < pMore t n → (p.step b.toNat).2.c.e = 0 ∧ PxSt t n c (k + 1) (p.step b.toNat).2) ∧ (k = pMore t n → (p.step b.toNat).2.c.e = 5 ∧ (p.step b.toNat).1 = [])) := by
    intro hp hk
    rw [List.getElem?_append_left (by rw [hL]; exact hk)] at hb
    obtain ⟨h1, h2⟩ := px_head hn hp hk b hb
    refine ⟨fun hs => ?_, fun hs => ⟨fun hk2 => ?_, fun hk2 => ?_⟩⟩
    · by_cases hk2 : k < pMore t n
      · obtain ⟨g1, g2⟩ := h1 hk2
        have hx := g2
        unfold PxHd at hx
        rw [g1, hx, if_neg (show ¬ (k + 1 = pMore t n + 1 + n) by omega), if_neg (show ¬ (k + 1 = pMore t n + 1 + n) by omega), show k - pMore t n = 0 by omega]
        refine ⟨rfl, rfl, rfl, ?_⟩
        rw [← hx]
        exact Or.inr (Or.inl ⟨by omega, by omega, g2⟩)
      · have hke : k = pMore t n := by omega
        obtain ⟨q, hq1, hq2, hq3⟩ := h2 hke
        obtain ⟨t1, t2, t3⟩ := px_told (t := t) (n := n) c q hq1 hq2
        rw [hq3]
        by_cases h0 : n = 0
        · obtain ⟨g1, g2, g3, g4⟩ := t3 h0
          rw [g1, g2, g4, if_pos (by omega), if_pos (by omega)]
          exact ⟨rfl, rfl, rfl, Or.inr (Or.inr (Or.inr ⟨by omega, hs, g2, g3, g4⟩))⟩
        · obtain ⟨g1, g2⟩ := t2 hs (by omega)
          rw [g1, g2.e, if_neg (by omega), if_neg (by omega)]
          refine ⟨rfl, rfl, ?_, Or.inr (Or.inr (Or.inl ⟨0, by omega, by omega, hs, g2⟩))⟩
          unfold Core.held
          rw [g2.e, g2.s, g2.open_]
          simp; omega
    · obtain ⟨g1, g2⟩ := h1 hk2
      refine ⟨?_, Or.inr (Or.inl ⟨by omega, by omega, g2⟩)⟩
      unfold PxHd at g2
      rw [g2]
      rfl
    · obtain ⟨q, hq1, hq2, hq3⟩ := h2 hk2
      obtain ⟨t1, t2, t3⟩ := px_told (t := t) (n := n) c q hq1 hq2
      rw [hq3]
      exact ⟨(t1 hs).2, (t1 hs).1⟩
  rcases hp with hp | ⟨h0, hk, hp⟩ | ⟨j, rfl, hj, hs, hp⟩ | ⟨rfl, _⟩
  · exact hhead (Or.inl hp) (by omega)
  · exact hhead (Or.inr ⟨h0, hp⟩) hk
  · rw [List.getElem?_append_right (by rw [hL]; omega), hL, show pMore t n + 1 + j - (pMore t n + 1) = j by omega, List.getElem?_replicate, if_pos hj, Option.some.injEq] at hb
    subst hb
    obtain ⟨h1, h2⟩ := tx_in hc hp hj
    refine ⟨fun _ => ?_, fun h => by omega⟩
    by_cases hl : j + 1 = n
    · obtain ⟨g1, g2, g3, g4⟩ := h2 hl
      rw [g1, g2, g4, if_pos (by omega), if_pos (by omega)]
      exact ⟨rfl, rfl, rfl, Or.inr (Or.inr (Or.inr ⟨by omega, hs, g2, g3, g4⟩))⟩
    · obtain ⟨g1, g2⟩ := h1 (by omega)
      rw [g1, g2.e, if_neg (by omega), if_neg (by omega)]
      refine ⟨rfl, rfl, ?_, Or.inr (Or.inr (Or.inl ⟨j + 1, by omega, by omega, hs, g2⟩))⟩
      unfold Core.held
      rw [g2.e, g2.s, g2.open_]
      simp; omega
  · rw [List.getElem?_append_right (by rw [hL]; omega), hL, List.getElem?_replicate, if_neg (by omega)] at hb
    cases hb
end Go.Tru
