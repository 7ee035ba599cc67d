/-
  CborinTexts, plain: a text of so many bytes below 128, byte by byte.
-/
import Derived.Test.YtepajbimhpmpjaaCborRuns
namespace Go.Tru

/-- one byte below 128 behind others -/
theorem asc_step {k : Chk} (h : k.bad = false ∧ k.lack = 0) {b : Int} (hb : b < 128) : (k.step b).bad = false ∧ (k.step b).lack = 0 := by
  have hl : leadLack k.lack b = 0 := by unfold leadLack; rw [if_pos hb]; exact h.2
  have ho : leadOk b = true := by unfold leadOk; exact decide_eq_true (Or.inl hb)
  unfold Chk.step Chk.begin
  simp only [h.1, h.2, Bool.false_eq_true, if_false, if_true, ho, Bool.not_true]
  rw [h.2] at hl
  exact ⟨trivial, hl⟩

theorem asc_whole {k : Chk} (h : k.bad = false ∧ k.lack = 0) : k.whole = true := by simp [Chk.whole, h.1, h.2]

/-- between the bytes of a text's inside: j have come, of n -/
structure TxIn (word : Bool) (n j : Nat) (c : UInt8) (p : Cb) : Prop where
  e : p.c.e = 0
  lack : p.c.lack = (n : Int) - j
  begun : p.begun = false
  chunks : p.c.chunks = false
  word : p.c.word = word
  s : p.c.s = List.replicate j c
  open_ : p.c.open_ = []
  done : p.c.done = false
  chk : p.c.c.bad = false ∧ p.c.c.lack = 0
  h : p.h = Hd.zero

theorem tx_in {word : Bool} {n j : Nat} {c : UInt8} (hc : (c.toNat : Int) < 128) {p : Cb} (hp : TxIn word n j c p) (hj : j < n) :
    (j + 1 < n → (p.step c.toNat).1 = [] ∧ TxIn word n (j + 1) c (p.step c.toNat).2) ∧
    (j + 1 = n → (p.step c.toNat).1 = [wordEv word (List.replicate n c)] ∧ (p.step c.toNat).2.c.e = 0 ∧ (p.step c.toNat).2.c.done = true ∧ (p.step c.toNat).2.c.held = 0) := by
  have hst : p.step c.toNat = p.put (p.c.byte c.toNat) := by
    unfold Cb.step
    rw [if_neg (by simp [hp.e]), if_pos (by rw [hp.lack]; omega)]
  have hb : UInt8.ofNat ((c.toNat : Int)).toNat = c := by simp
  obtain ⟨c', hc'⟩ : ∃ c', (if p.c.word = true then p.c.c.step c.toNat else p.c.c) = c' := ⟨_, rfl⟩
  have hcc : c'.bad = false ∧ c'.lack = 0 := by
    rw [← hc']
    split
    · exact asc_step hp.chk hc
    · exact hp.chk
  have hs : p.c.s ++ [c] = List.replicate (j + 1) c := by rw [hp.s, List.replicate_succ']
  have hl1 : p.c.lack - 1 = (n : Int) - (j + 1 : Nat) := by rw [hp.lack]; omega
  have hbyte : p.c.byte c.toNat = if 0 < p.c.lack - 1 ∨ p.c.chunks = true then ([], { p.c with s := List.replicate (j + 1) c, lack := (n : Int) - (j + 1 : Nat), c := c' }) else Core.text { p.c with s := List.replicate (j + 1) c, lack := (n : Int) - (j + 1 : Nat), c := c' } := by
    unfold Core.byte
    simp only [hb, hs]
    rw [hc', hl1]
    rw [if_neg (by
      rintro ⟨_, h1 | ⟨_, h2⟩⟩
      · rw [hcc.1] at h1; cases h1
      · rw [asc_whole hcc] at h2; cases h2)]
  rw [hst, hbyte]
  refine ⟨fun h => ?_, fun h => ?_⟩
  · rw [if_pos (Or.inl (by rw [hl1]; omega))]
    exact ⟨rfl, hp.e, rfl, hp.begun, hp.chunks, hp.word, rfl, hp.open_, hp.done, hcc, hp.h⟩
  · rw [if_neg (by rw [hl1, hp.chunks]; simp; omega)]
    unfold Core.text Core.value
    simp only [hp.open_, hp.word, h]
    refine ⟨rfl, hp.e, by simp [Cb.put, closeUp], ?_⟩
    unfold Core.held
    simp [Cb.put, closeUp, hp.e]

/-- the bytes that a length's head has behind its first one -/
def txMore (n : Nat) : Nat := if n < 24 then 0 else if n < 256 then 1 else 2

theorem tx_headB {M n : Nat} (hn : n < 65536) : headB M n = UInt8.ofNat (32 * M + (if n < 24 then n else 23 + txMore n)) :: bigB n (txMore n) := by
  unfold headB txMore
  by_cases h1 : n < 24
  · simp only [if_pos h1]; rfl
  by_cases h2 : n < 256
  · simp only [if_neg h1, if_pos h2]
  · simp only [if_neg h1, if_neg h2, if_pos hn]

/-- within a head: k bytes of it have come (0 < k) -/
def TxHd (M n k : Nat) (p : Cb) : Prop := p = ⟨Core.new 3, ⟨true, false, false, M, ((txMore n + 1 - k : Nat) : Int), ((n / 256 ^ (txMore n + 1 - k) : Nat) : Int), 0⟩, true⟩

def txWord (M : Nat) : Bool := decide (M = 3)

/-- the length is there -/
theorem tx_told {M n : Nat} (hM : M = 2 ∨ M = 3) (c : UInt8) : 
    (200 < n → (Cb.told ⟨Core.new 3, Hd.zero, false⟩ (M : Nat) (n : Nat) false).1 = [] ∧ (Cb.told ⟨Core.new 3, Hd.zero, false⟩ (M : Nat) (n : Nat) false).2.c.e = 5) ∧
    (n ≤ 200 → 0 < n → (Cb.told ⟨Core.new 3, Hd.zero, false⟩ (M : Nat) (n : Nat) false).1 = [] ∧ TxIn (txWord M) n 0 c (Cb.told ⟨Core.new 3, Hd.zero, false⟩ (M : Nat) (n : Nat) false).2) ∧
    (n = 0 → (Cb.told ⟨Core.new 3, Hd.zero, false⟩ (M : Nat) (n : Nat) false).1 = [wordEv (txWord M) []] ∧ (Cb.told ⟨Core.new 3, Hd.zero, false⟩ (M : Nat) (n : Nat) false).2.c.e = 0 ∧ (Cb.told ⟨Core.new 3, Hd.zero, false⟩ (M : Nat) (n : Nat) false).2.c.done = true ∧ (Cb.told ⟨Core.new 3, Hd.zero, false⟩ (M : Nat) (n : Nat) false).2.c.held = 0) := by
  have hd : decide (((M : Nat) : Int) = 3) = txWord M := by rcases hM with rfl | rfl <;> rfl
  have ht : Cb.told ⟨Core.new 3, Hd.zero, false⟩ (M : Nat) (n : Nat) false = Cb.put ⟨Core.new 3, Hd.zero, false⟩ ((Core.new 3).length (txWord M) n) := by
    unfold Cb.told
    rw [if_neg (by omega), if_pos (by omega), if_neg (by simp), hd]
  rw [ht]
  refine ⟨fun h => ?_, fun h h0 => ?_, fun h => ?_⟩
  · have : (Core.new 3).length (txWord M) n = (Core.new 3).fail 5 := by
      unfold Core.length
      rw [if_pos (by simp [Core.new]; omega)]
    rw [this]
    exact ⟨rfl, rfl⟩
  · have : (Core.new 3).length (txWord M) n = ([], { Core.new 3 with word := txWord M, lack := (n : Nat), c := Chk.zero }) := by
      unfold Core.length
      rw [if_neg (by simp [Core.new]; omega), if_pos (Or.inl (by omega))]
    rw [this]
    exact ⟨rfl, rfl, by simp [Cb.put], rfl, rfl, rfl, rfl, rfl, rfl, ⟨rfl, rfl⟩, rfl⟩
  · subst h
    cases txWord M <;> exact ⟨rfl, rfl, rfl, rfl⟩

/-- a head, byte by byte: at its last byte the length is told -/
theorem tx_head {M n k : Nat} (hM : M = 2 ∨ M = 3) (hn : n < 65536) {p : Cb} (hp : (k = 0 ∧ p = Cb.new 3) ∨ (0 < k ∧ TxHd M n k p)) (hk : k < txMore n + 1) (b : UInt8) (hb : (headB M n)[k]? = some b) :
    (k < txMore n → (p.step b.toNat).1 = [] ∧ TxHd M n (k + 1) (p.step b.toNat).2) ∧
    (k = txMore n → p.step b.toNat = Cb.told ⟨Core.new 3, Hd.zero, false⟩ (M : Nat) (n : Nat) false) := by
  rw [tx_headB hn] at hb
  have h5 : M ≤ 5 := by omega
  rcases hp with ⟨rfl, rfl⟩ | ⟨h0, rfl⟩
  · simp only [List.getElem?_cons_zero, Option.some.injEq] at hb
    have hlow : (if n < 24 then n else 23 + txMore n) < 28 := by unfold txMore; repeat' (first | omega | split)
    obtain ⟨low, hlw⟩ : ∃ low, (if n < 24 then n else 23 + txMore n) = low := ⟨_, rfl⟩
    rw [hlw] at hb hlow
    have hbn : ((b.toNat : Nat) : Int) = ((32 * M + low : Nat) : Int) := by rw [← hb, head_byte h5 hlow]
    rw [hbn, new_first 3 (by omega) h5 low hlow]
    have e1 : ((32 * M + low : Nat) : Int) / 32 = M := by omega
    have e2 : ((32 * M + low : Nat) : Int) % 32 = low := by omega
    unfold Cb.first
    rw [e1, e2]
    by_cases h24 : n < 24
    · have hm : txMore n = 0 := by unfold txMore; rw [if_pos h24]
      rw [if_pos h24] at hlw
      rw [if_pos (by omega)]
      exact ⟨fun h => by omega, fun _ => by rw [← hlw]; rfl⟩
    · rw [if_neg h24] at hlw
      have hm : txMore n = 1 ∨ txMore n = 2 := by unfold txMore; repeat' (first | omega | split)
      rw [if_neg (by omega), if_pos (by omega)]
      refine ⟨fun _ => ⟨rfl, ?_⟩, fun h => by omega⟩
      have hz : n / 256 ^ txMore n = 0 := by
        apply Nat.div_eq_of_lt
        unfold txMore
        rw [if_neg h24]
        split <;> omega
      have hpw : (2 : Int) ^ ((low : Int) - 24).toNat = ((txMore n : Nat) : Int) := by
        rcases hm with h | h
        · rw [show ((low : Int) - 24).toNat = 0 by omega, h]; rfl
        · rw [show ((low : Int) - 24).toNat = 1 by omega, h]; rfl
      unfold TxHd
      simp only [Nat.zero_add, Nat.add_sub_cancel]
      rw [hpw, hz]
      rfl
  · obtain ⟨j, rfl⟩ : ∃ j, k = j + 1 := ⟨k - 1, by omega⟩
    simp only [List.getElem?_cons_succ] at hb
    have hstep : Cb.step ⟨Core.new 3, ⟨true, false, false, M, ((txMore n + 1 - (j + 1) : Nat) : Int), ((n / 256 ^ (txMore n + 1 - (j + 1)) : Nat) : Int), 0⟩, true⟩ b.toNat = Cb.more ⟨Core.new 3, ⟨true, false, false, M, ((txMore n + 1 - (j + 1) : Nat) : Int), ((n / 256 ^ (txMore n + 1 - (j + 1)) : Nat) : Int), 0⟩, true⟩ b.toNat := by
      unfold Cb.step
      rw [if_neg (by simp [Core.new]), if_neg (by simp [Core.new]), if_pos rfl]
    have hm2 : txMore n ≤ 2 := by unfold txMore; repeat' (first | omega | split)
    have hm : txMore n = 1 ∨ txMore n = 2 := by omega
    have hbj : b = UInt8.ofNat (n / 256 ^ (txMore n - j - 1) % 256) := by
      rcases hm with h | h
      · rw [h] at hb ⊢
        obtain rfl : j = 0 := by omega
        simpa [bigB] using hb.symm
      · rw [h] at hb ⊢
        rcases (show j = 0 ∨ j = 1 by omega) with rfl | rfl
        · simpa [bigB] using hb.symm
        · simpa [bigB] using hb.symm
    have hbn : ((b.toNat : Nat) : Int) = ((n / 256 ^ (txMore n - j - 1) % 256 : Nat) : Int) := by rw [hbj]; simp
    have hv : ((n / 256 ^ (txMore n + 1 - (j + 1)) : Nat) : Int) * 256 + ((n / 256 ^ (txMore n - j - 1) % 256 : Nat) : Int) = ((n / 256 ^ (txMore n - j - 1) : Nat) : Int) := by
      obtain ⟨q, hq⟩ : ∃ q, txMore n - j - 1 = q := ⟨_, rfl⟩
      rw [show txMore n + 1 - (j + 1) = q + 1 by omega, hq, Nat.pow_succ, ← Nat.div_div_eq_div_mul]
      omega
    rw [hstep]
    unfold Cb.more
    rw [hbn]
    simp only []
    rw [hv]
    refine ⟨fun h => ?_, fun h => ?_⟩
    · rw [if_pos (by omega)]
      refine ⟨rfl, ?_⟩
      unfold TxHd
      rw [show txMore n + 1 - (j + 1 + 1) = txMore n - j - 1 by omega]
      simp only [Cb.mk.injEq, Hd.mk.injEq, true_and, and_true]
      omega
    · rw [if_neg (by omega), show txMore n - j - 1 = 0 by omega]
      simp

/-- all of it: what is left behind k bytes -/
def TxSt (M n : Nat) (c : UInt8) (k : Nat) (p : Cb) : Prop :=
  (k = 0 ∧ p = Cb.new 3) ∨ (0 < k ∧ k < txMore n + 1 ∧ TxHd M n k p) ∨ (∃ j, k = txMore n + 1 + j ∧ j < n ∧ n ≤ 200 ∧ TxIn (txWord M) n j c p) ∨ (k = txMore n + 1 + n ∧ n ≤ 200 ∧ p.c.e = 0 ∧ p.c.done = true ∧ p.c.held = 0)

theorem tx_len {M n : Nat} (hn : n < 65536) : (headB M n).length = txMore n + 1 := by rw [tx_headB hn, List.length_cons, bigB_len]

/-- a step -/
theorem tx_step {M n k : Nat} (hM : M = 2 ∨ M = 3) (hn : n < 65536) {c : UInt8} (hc : (c.toNat : Int) < 128) {p : Cb} (hp : TxSt M n c k p) (b : UInt8) (hb : (headB M n ++ List.replicate n c)[k]? = some b) :
    (n ≤ 200 → (p.step b.toNat).2.c.e = 0 ∧ ((p.step b.toNat).1.length : Int) = (if k + 1 = txMore n + 1 + n then 1 else 0) ∧ ((p.step b.toNat).2.c.held : Int) = (if k + 1 = txMore n + 1 + n then 0 else ((k - txMore n : Nat) : Int)) ∧ TxSt M n c (k + 1) (p.step b.toNat).2) ∧
    (200 < n → (k < txMore n → (p.step b.toNat).2.c.e = 0 ∧ TxSt M n c (k + 1) (p.step b.toNat).2) ∧ (k = txMore n → (p.step b.toNat).2.c.e = 5 ∧ (p.step b.toNat).1 = [])) := by
  have hL := tx_len (M := M) hn
  have hhead : ((k = 0 ∧ p = Cb.new 3) ∨ (0 < k ∧ TxHd M n k p)) → k < txMore n + 1 →
      (n ≤ 200 → (p.step b.toNat).2.c.e = 0 ∧ ((p.step b.toNat).1.length : Int) = (if k + 1 = txMore n + 1 + n then 1 else 0) ∧ ((p.step b.toNat).2.c.held : Int) = (if k + 1 = txMore n + 1 + n then 0 else ((k - txMore n : Nat) : Int)) ∧ TxSt M n c (k + 1) (p.step b.toNat).2) ∧
      (200 < n → (k < txMore n → (p.step b.toNat).2.c.e = 0 ∧ TxSt M n c (k + 1) (p.step b.toNat).2) ∧ (k = txMore n → (p.step b.toNat).2.c.e = 5 ∧ (p.step b.toNat).1 = [])) := by
    intro hp hk
    rw [List.getElem?_append_left (by rw [hL]; exact hk)] at hb
    obtain ⟨h1, h2⟩ := tx_head hM hn hp hk b hb
    obtain ⟨t1, t2, t3⟩ := tx_told (n := n) hM c
    refine ⟨fun hs => ?_, fun hs => ⟨fun hk2 => ?_, fun hk2 => ?_⟩⟩
    · by_cases hk2 : k < txMore n
      · obtain ⟨g1, g2⟩ := h1 hk2
        have hx := g2
        unfold TxHd at hx
        rw [g1, hx, if_neg (by omega), if_neg (by omega), show k - txMore n = 0 by omega]
        refine ⟨rfl, rfl, rfl, ?_⟩
        rw [← hx]
        exact Or.inr (Or.inl ⟨by omega, by omega, g2⟩)
      · have hke : k = txMore n := by omega
        rw [h2 hke]
        by_cases h0 : n = 0
        · obtain ⟨g1, g2, g3, g4⟩ := t3 h0
          rw [g1, g2, g4, if_pos (by omega), if_pos (by omega)]
          exact ⟨rfl, rfl, rfl, Or.inr (Or.inr (Or.inr ⟨by omega, hs, g2, g3, g4⟩))⟩
        · obtain ⟨g1, g2⟩ := t2 hs (by omega)
          rw [g1, g2.e, if_neg (by omega), if_neg (by omega)]
          refine ⟨rfl, rfl, ?_, Or.inr (Or.inr (Or.inl ⟨0, by omega, by omega, hs, g2⟩))⟩
          unfold Core.held
          rw [g2.e, g2.s, g2.open_]
          simp; omega
    · obtain ⟨g1, g2⟩ := h1 hk2
      refine ⟨?_, Or.inr (Or.inl ⟨by omega, by omega, g2⟩)⟩
      unfold TxHd at g2
      rw [g2]
      rfl
    · rw [h2 hk2]
      exact ⟨(t1 hs).2, (t1 hs).1⟩
  rcases hp with hp | ⟨h0, hk, hp⟩ | ⟨j, rfl, hj, hs, hp⟩ | ⟨rfl, _⟩
  · exact hhead (Or.inl hp) (by omega)
  · exact hhead (Or.inr ⟨h0, hp⟩) hk
  · rw [List.getElem?_append_right (by rw [hL]; omega), hL, show txMore n + 1 + j - (txMore n + 1) = j by omega, List.getElem?_replicate, if_pos hj, Option.some.injEq] at hb
    subst hb
    obtain ⟨h1, h2⟩ := tx_in hc hp hj
    refine ⟨fun _ => ?_, fun h => by omega⟩
    by_cases hl : j + 1 = n
    · obtain ⟨g1, g2, g3, g4⟩ := h2 hl
      rw [g1, g2, g4, if_pos (by omega), if_pos (by omega)]
      exact ⟨rfl, rfl, rfl, Or.inr (Or.inr (Or.inr ⟨by omega, hs, g2, g3, g4⟩))⟩
    · obtain ⟨g1, g2⟩ := h1 (by omega)
      rw [g1, g2.e, if_neg (by omega), if_neg (by omega)]
      refine ⟨rfl, rfl, ?_, Or.inr (Or.inr (Or.inl ⟨j + 1, by omega, by omega, hs, g2⟩))⟩
      unfold Core.held
      rw [g2.e, g2.s, g2.open_]
      simp; omega
  · rw [List.getElem?_append_right (by rw [hL]; omega), hL, List.getElem?_replicate, if_neg (by omega)] at hb
    cases hb
end Go.Tru
