/-
  cborin's Parser, plain: the bytes of a head; a text's bytes; chunks.
-/
import Derived.Test.YtdfdajedcgmbfaaCborRun
import Derived.Test.YtdfdajedcgmbfaaHead
namespace Go.Tru

/-- what comes of a step, and of the bytes behind it -/
def Cb.cont (t : List Ev × Cb) (r : List UInt8) : List Ev × Int :=
  if t.2.c.e ≠ 0 then (t.1, t.2.c.e) else (t.1 ++ (t.2.run r).1, (t.2.run r).2)

theorem cb_run_cons (p : Cb) (b : UInt8) (r : List UInt8) : p.run (b :: r) = Cb.cont (p.step b.toNat) r := rfl
theorem cb_cont_ok {t : List Ev × Cb} (h : t.2.c.e = 0) (r : List UInt8) : Cb.cont t r = (t.1 ++ (t.2.run r).1, (t.2.run r).2) := by unfold Cb.cont; rw [if_neg (by simp [h])]
theorem cb_cont_err {t : List Ev × Cb} (h : t.2.c.e ≠ 0) (r : List UInt8) : Cb.cont t r = (t.1, t.2.c.e) := by unfold Cb.cont; rw [if_pos h]
theorem cb_cont_none {p : Cb} (h : p.c.e = 0) (r : List UInt8) : Cb.cont ([], p) r = p.run r := by rw [cb_cont_ok h]; simp

theorem hd_run (T : Nat) (rest : List UInt8) : ∀ (m : Nat) (p : Cb), p.c.e = 0 → ¬ 0 < p.c.lack → p.begun = true → p.h.lack = (m : Int) + 1 → p.h.v = ((T / 256 ^ (m + 1) : Nat) : Int) →
    p.run (bigB T (m + 1) ++ rest) = Cb.cont (Cb.told { p with h := Hd.zero, begun := false } p.h.major T false) rest
  | m, p, he, hl, hb, hlk, hv => by
    have hb2 : (UInt8.ofNat (T / 256 ^ m % 256)).toNat = T / 256 ^ m % 256 := by simp
    have hstep : p.step ((UInt8.ofNat (T / 256 ^ m % 256)).toNat : Int) = p.more ((T / 256 ^ m % 256 : Nat) : Int) := by
      rw [hb2]
      unfold Cb.step
      rw [if_neg (by simp [he]), if_neg hl, if_pos hb]
    have hv2 : p.h.v * 256 + ((T / 256 ^ m % 256 : Nat) : Int) = ((T / 256 ^ m : Nat) : Int) := by
      rw [hv, Nat.pow_succ, ← Nat.div_div_eq_div_mul]
      omega
    rw [bigB, List.cons_append, cb_run_cons, hstep]
    cases m with
    | zero =>
      unfold Cb.more
      rw [if_neg (by omega), hv2]
      simp [bigB]
    | succ m =>
      unfold Cb.more
      rw [if_pos (by omega), hv2]
      refine (cb_cont_none (p := { p with h := { p.h with v := ((T / 256 ^ (m + 1) : Nat) : Int), lack := p.h.lack - 1 }, begun := true }) he _).trans ?_
      exact hd_run T rest m { p with h := { p.h with v := ((T / 256 ^ (m + 1) : Nat) : Int), lack := p.h.lack - 1 }, begun := true } he hl rfl (by simp only []; omega) rfl

theorem head_byte {M low : Nat} (hM : M ≤ 5) (h : low < 28) : ((UInt8.ofNat (32 * M + low)).toNat : Int) = ((32 * M + low : Nat) : Int) := by
  have : (UInt8.ofNat (32 * M + low)).toNat = 32 * M + low := by simp; omega
  rw [this]

/-- a head of one, two, four or eight bytes more, as short as may be or not -/
theorem long_run {p : Cb} {M v : Nat} (hM : M ≤ 5) (he : p.c.e = 0) (hl : ¬ 0 < p.c.lack) (rest : List UInt8)
    (hstep : ∀ low : Nat, low < 28 → p.step ((32 * M + low : Nat) : Int) = p.first ((32 * M + low : Nat) : Int)) (k n : Nat) (hk : k < 4) (hn2 : n + 1 = 2 ^ k) (hv0 : v / 256 ^ (n + 1) = 0) :
    p.run (UInt8.ofNat (32 * M + (24 + k)) :: bigB v (n + 1) ++ rest) = Cb.cont (Cb.told { p with h := Hd.zero, begun := false } M v false) rest := by
  rw [List.cons_append, cb_run_cons, head_byte hM (by omega), hstep _ (by omega)]
  unfold Cb.first
  rw [if_neg (by omega), if_pos (by omega)]
  have e1 : ((32 * M + (24 + k) : Nat) : Int) / 32 = M := by omega
  have e2 : (2 : Int) ^ (((32 * M + (24 + k) : Nat) : Int) % 32 - 24).toNat = (n : Int) + 1 := by
    rw [show (((32 * M + (24 + k) : Nat) : Int) % 32 - 24).toNat = k by omega, show ((n : Int) + 1) = ((n + 1 : Nat) : Int) by simp, hn2]
    simp
  rw [e1, e2]
  refine (cb_cont_none (p := { p with h := ⟨true, false, false, M, (n : Int) + 1, 0, 0⟩, begun := true }) he _).trans ?_
  exact hd_run v rest n { p with h := ⟨true, false, false, M, (n : Int) + 1, 0, 0⟩, begun := true } he hl rfl rfl (by simp only []; rw [hv0]; rfl)

/-- a head whose first byte is taken as one -/
theorem head_run {p : Cb} {M v : Nat} (hM : M ≤ 5) (hv : v < 18446744073709551616) (he : p.c.e = 0) (hl : ¬ 0 < p.c.lack) (rest : List UInt8)
    (hstep : ∀ low : Nat, low < 28 → p.step ((32 * M + low : Nat) : Int) = p.first ((32 * M + low : Nat) : Int)) :
    p.run (headB M v ++ rest) = Cb.cont (Cb.told { p with h := Hd.zero, begun := false } M v false) rest := by
  unfold headB
  split
  · rename_i h
    rw [List.singleton_append, cb_run_cons, head_byte hM (by omega), hstep _ (by omega)]
    unfold Cb.first
    rw [if_pos (by omega), show ((32 * M + v : Nat) : Int) / 32 = M by omega, show ((32 * M + v : Nat) : Int) % 32 = v by omega]
  split
  · rename_i h1 h2
    exact long_run hM he hl rest hstep 0 0 (by omega) rfl (Nat.div_eq_of_lt (by omega))
  split
  · rename_i h1 h2 h3
    exact long_run hM he hl rest hstep 1 1 (by omega) rfl (Nat.div_eq_of_lt (by omega))
  split
  · rename_i h1 h2 h3 h4
    exact long_run hM he hl rest hstep 2 3 (by omega) rfl (Nat.div_eq_of_lt (by omega))
  · exact long_run hM he hl rest hstep 3 7 (by omega) rfl (Nat.div_eq_of_lt (by omega))

/-- between items -/
theorem item_first {p : Cb} {M low : Nat} (hM : M ≤ 5) (hlow : low < 28) (he : p.c.e = 0) (hl : ¬ 0 < p.c.lack) (hb : p.begun = false) (hc : p.c.chunks = false) (hd : p.c.done = false)
    (hk : p.c.atKey = true → M = 3) (hf : M = 4 ∨ M = 5 → p.c.full = false) : p.step ((32 * M + low : Nat) : Int) = p.first ((32 * M + low : Nat) : Int) := by
  unfold Cb.step
  rw [if_neg (by simp [he]), if_neg hl, if_neg (by simp [hb]), if_neg (by simp [hc])]
  unfold Cb.item
  rw [if_neg (by simp [hd]), if_neg (by omega), if_neg (by omega), if_neg ?_, if_neg (by omega), if_neg ?_]
  · rintro ⟨h1, h2⟩
    rw [hf (by omega)] at h2
    cases h2
  · rintro (⟨h1, h2⟩ | h1)
    · have := hk h1; omega
    · omega

/-- a chunk's head -/
theorem chunk_first {p : Cb} {M low : Nat} (hM : M = if p.c.word then 3 else 2) (hlow : low < 28) (he : p.c.e = 0) (hl : ¬ 0 < p.c.lack) (hb : p.begun = false) (hc : p.c.chunks = true) :
    p.step ((32 * M + low : Nat) : Int) = p.first ((32 * M + low : Nat) : Int) := by
  unfold Cb.step
  rw [if_neg (by simp [he]), if_neg hl, if_neg (by simp [hb]), if_pos hc]
  unfold Cb.chunk
  have hM2 : ((M : Nat) : Int) = if p.c.word = true then 3 else 2 := by rw [hM]; split <;> rfl
  have h23 : M = 2 ∨ M = 3 := by rw [hM]; split <;> simp
  rw [if_neg (by omega), if_neg ?_]
  rintro (h | h)
  · apply h
    rw [← hM2]
    omega
  · omega

/-- so many bytes of a text, or of bytes, have come -/
theorem bytes_run (word : Bool) (rest : List UInt8) (all : List UInt8) (hu : word = true → (Chk.zero.run all).whole = true) : ∀ (l pre s0 : List UInt8) (p : Cb), all = pre ++ l → l ≠ [] → p.c.e = 0 → p.c.word = word → p.c.lack = l.length → p.c.s = s0 ++ pre → (word = true → p.c.c = Chk.zero.run pre) →
    ∃ c' : Chk, p.run (l ++ rest) = (if p.c.chunks = true then Cb.run { p with c := { p.c with s := s0 ++ all, lack := 0, c := c' } } rest else Cb.cont (p.put (Core.text { p.c with s := s0 ++ all, lack := 0, c := c' })) rest)
  | [], _, _, _, _, h, _, _, _, _, _ => absurd rfl h
  | b :: l, pre, s0, p, hall, _, he, hw, hl, hs, hcc => by
    have hb : UInt8.ofNat ((b.toNat : Int)).toNat = b := by simp
    have hstep : p.step (b.toNat : Int) = p.put (p.c.byte b.toNat) := by
      unfold Cb.step
      rw [if_neg (by simp [he]), if_pos (by rw [hl]; simp only [List.length_cons]; omega)]
    rw [List.cons_append, cb_run_cons, hstep]
    have hall2 : all = (pre ++ [b]) ++ l := by rw [hall]; simp
    obtain ⟨c', hc'⟩ : ∃ c', (if p.c.word then p.c.c.step b.toNat else p.c.c) = c' := ⟨_, rfl⟩
    have hcz : word = true → c' = Chk.zero.run (pre ++ [b]) := fun h => by
      rw [← hc', hw, h, if_pos rfl, hcc h, Chk.run_append]
      rfl
    have hnb : word = true → c'.bad = false := fun h => by
      cases hbad : c'.bad with
      | false => rfl
      | true =>
        have h1 := hu h
        rw [hall2, Chk.run_append, ← hcz h, Chk.run_bad hbad] at h1
        simp [Chk.whole, hbad] at h1
    have hlen : p.c.lack - 1 = (l.length : Int) := by rw [hl]; simp only [List.length_cons]; omega
    have hwh : word = true → l = [] → c'.whole = true := fun h h0 => by
      rw [hcz h]
      have h1 := hu h
      rw [hall2, h0, List.append_nil] at h1
      exact h1
    have hbyte : p.c.byte b.toNat = if 0 < (l.length : Int) ∨ p.c.chunks = true then ([], { p.c with s := s0 ++ (pre ++ [b]), lack := l.length, c := c' }) else Core.text { p.c with s := s0 ++ (pre ++ [b]), lack := l.length, c := c' } := by
      unfold Core.byte
      rw [hc']
      simp only [hs, hb, hlen]
      rw [if_neg (by
        rintro ⟨h, h1 | ⟨h1, h2⟩⟩
        · rw [hnb (hw ▸ h)] at h1; cases h1
        · have h3 : l = [] := List.length_eq_zero_iff.1 (by omega)
          rw [hwh (hw ▸ h) h3] at h2; cases h2), List.append_assoc]
    rw [hbyte]
    cases l with
    | nil =>
      refine ⟨c', ?_⟩
      rw [List.nil_append, hall2, List.append_nil]
      by_cases hch : p.c.chunks = true
      · rw [if_pos (Or.inr hch), if_pos hch]
        exact cb_cont_none (p := { p with c := { p.c with s := s0 ++ (pre ++ [b]), lack := 0, c := c' } }) he _
      · rw [if_neg (by simp [hch]), if_neg hch]
        rfl
    | cons b2 l =>
      rw [if_pos (Or.inl (by simp only [List.length_cons]; omega))]
      show ∃ c'', Cb.cont ([], { p with c := { p.c with s := s0 ++ (pre ++ [b]), lack := ((b2 :: l).length : Nat), c := c' } }) _ = _
      have h := bytes_run word rest all hu (b2 :: l) (pre ++ [b]) s0 { p with c := { p.c with s := s0 ++ (pre ++ [b]), lack := ((b2 :: l).length : Nat), c := c' } } hall2 (by simp) he hw rfl rfl hcz
      obtain ⟨c'', h⟩ := h
      refine ⟨c'', ?_⟩
      rw [cb_cont_none (by exact he)]
      exact h

/-- a text whose bytes are no UTF-8 -/
theorem bad_run (rest : List UInt8) : ∀ (l pre : List UInt8) (p : Cb), l ≠ [] → p.c.e = 0 → p.c.word = true → p.c.lack = l.length → p.c.c = Chk.zero.run pre → (Chk.zero.run pre).bad = false → (Chk.zero.run (pre ++ l)).whole = false →
    p.run (l ++ rest) = ([], 9)
  | [], _, _, h, _, _, _, _, _, _ => absurd rfl h
  | b :: l, pre, p, _, he, hw, hl, hcc, hnb, hu => by
    have hstep : p.step (b.toNat : Int) = p.put (p.c.byte b.toNat) := by
      unfold Cb.step
      rw [if_neg (by simp [he]), if_pos (by rw [hl]; simp only [List.length_cons]; omega)]
    rw [List.cons_append, cb_run_cons, hstep]
    have hcz : (if p.c.word then p.c.c.step b.toNat else p.c.c) = Chk.zero.run (pre ++ [b]) := by
      rw [hw, if_pos rfl, hcc, Chk.run_append]
      rfl
    have hlen : p.c.lack - 1 = (l.length : Int) := by rw [hl]; simp only [List.length_cons]; omega
    unfold Core.byte
    rw [hcz]
    simp only [hlen, hw, true_and]
    by_cases hx : (Chk.zero.run (pre ++ [b])).bad = true ∨ (l.length : Int) = 0 ∧ (Chk.zero.run (pre ++ [b])).whole = false
    · rw [if_pos hx, cb_cont_err (by simp [Cb.put, Core.fail])]
      rfl
    · rw [if_neg hx]
      have hl0 : l ≠ [] := fun h0 => hx (Or.inr ⟨by rw [h0]; rfl, by rw [h0] at hu; exact hu⟩)
      have hlp : 0 < (l.length : Int) := by have := List.length_pos_iff.2 hl0; omega
      rw [if_pos (Or.inl hlp)]
      have hb2 : (Chk.zero.run (pre ++ [b])).bad = false := by
        cases hy : (Chk.zero.run (pre ++ [b])).bad with
        | false => rfl
        | true => exact absurd (Or.inl hy) hx
      rw [show ∀ q : Core, p.put ([], q) = ([], { p with c := q }) from fun _ => rfl, cb_cont_none (by exact he)]
      exact bad_run rest l (pre ++ [b]) _ hl0 (by exact he) (by first | exact hw | rfl) (by rfl) rfl hb2 (by rw [List.append_assoc]; exact hu)

/-! ### what is left behind so many bytes -/
def Cb.steps (p : Cb) (l : List UInt8) : Cb := l.foldl (fun p b => (p.step b.toNat).2) p
theorem Cb.steps_cons (p : Cb) (b : UInt8) (l : List UInt8) : p.steps (b :: l) = (p.step b.toNat).2.steps l := rfl
theorem Cb.steps_append (p : Cb) (l m : List UInt8) : p.steps (l ++ m) = (p.steps l).steps m := by simp [Cb.steps]
theorem Cb.step_err {p : Cb} (h : p.c.e ≠ 0) (b : Int) : (p.step b).2 = p := by unfold Cb.step; rw [if_pos h]
theorem Cb.steps_err {p : Cb} (h : p.c.e ≠ 0) : ∀ l, p.steps l = p
  | [] => rfl
  | b :: l => by rw [Cb.steps_cons, Cb.step_err h, Cb.steps_err h l]
theorem Cb.steps_take {p : Cb} {l : List UInt8} (h : (p.steps l).c.e = 0) (k : Nat) : (p.steps (l.take k)).c.e = 0 := by
  by_cases h0 : (p.steps (l.take k)).c.e = 0
  · exact h0
  · rw [← List.take_append_drop k l, Cb.steps_append, Cb.steps_err h0] at h
    exact absurd h h0
theorem Cb.steps_snoc {p : Cb} {l : List UInt8} {k : Nat} (h : k < l.length) : p.steps (l.take (k + 1)) = ((p.steps (l.take k)).step l[k].toNat).2 := by
  rw [List.take_succ_eq_append_getElem h, Cb.steps_append]
  rfl

theorem hd_steps (T : Nat) : ∀ (m : Nat) (p : Cb), p.c.e = 0 → ¬ 0 < p.c.lack → p.begun = true → p.h.lack = (m : Int) + 1 → p.h.v = ((T / 256 ^ (m + 1) : Nat) : Int) →
    p.steps (bigB T (m + 1)) = (Cb.told { p with h := Hd.zero, begun := false } p.h.major T false).2
  | m, p, he, hl, hb, hlk, hv => by
    have hb2 : (UInt8.ofNat (T / 256 ^ m % 256)).toNat = T / 256 ^ m % 256 := by simp
    have hstep : p.step ((UInt8.ofNat (T / 256 ^ m % 256)).toNat : Int) = p.more ((T / 256 ^ m % 256 : Nat) : Int) := by
      rw [hb2]
      unfold Cb.step
      rw [if_neg (by simp [he]), if_neg hl, if_pos hb]
    have hv2 : p.h.v * 256 + ((T / 256 ^ m % 256 : Nat) : Int) = ((T / 256 ^ m : Nat) : Int) := by
      rw [hv, Nat.pow_succ, ← Nat.div_div_eq_div_mul]
      omega
    rw [bigB, Cb.steps_cons, hstep]
    cases m with
    | zero =>
      unfold Cb.more
      rw [if_neg (by omega), hv2]
      simp [bigB, Cb.steps]
    | succ m =>
      unfold Cb.more
      rw [if_pos (by omega), hv2]
      exact hd_steps T m { p with h := { p.h with v := ((T / 256 ^ (m + 1) : Nat) : Int), lack := p.h.lack - 1 }, begun := true } he hl rfl (by simp only []; omega) rfl

theorem long_steps {p : Cb} {M v : Nat} (hM : M ≤ 5) (he : p.c.e = 0) (hl : ¬ 0 < p.c.lack)
    (hstep : ∀ low : Nat, low < 28 → p.step ((32 * M + low : Nat) : Int) = p.first ((32 * M + low : Nat) : Int)) (k n : Nat) (hk : k < 4) (hn2 : n + 1 = 2 ^ k) (hv0 : v / 256 ^ (n + 1) = 0) :
    p.steps (UInt8.ofNat (32 * M + (24 + k)) :: bigB v (n + 1)) = (Cb.told { p with h := Hd.zero, begun := false } M v false).2 := by
  rw [Cb.steps_cons, head_byte hM (by omega), hstep _ (by omega)]
  unfold Cb.first
  rw [if_neg (by omega), if_pos (by omega)]
  have e1 : ((32 * M + (24 + k) : Nat) : Int) / 32 = M := by omega
  have e2 : (2 : Int) ^ (((32 * M + (24 + k) : Nat) : Int) % 32 - 24).toNat = (n : Int) + 1 := by
    rw [show (((32 * M + (24 + k) : Nat) : Int) % 32 - 24).toNat = k by omega, show ((n : Int) + 1) = ((n + 1 : Nat) : Int) by simp, hn2]
    simp
  rw [e1, e2]
  exact hd_steps v n { p with h := ⟨true, false, false, M, (n : Int) + 1, 0, 0⟩, begun := true } he hl rfl rfl (by simp only []; rw [hv0]; rfl)

theorem head_steps {p : Cb} {M v : Nat} (hM : M ≤ 5) (hv : v < 18446744073709551616) (he : p.c.e = 0) (hl : ¬ 0 < p.c.lack)
    (hstep : ∀ low : Nat, low < 28 → p.step ((32 * M + low : Nat) : Int) = p.first ((32 * M + low : Nat) : Int)) :
    p.steps (headB M v) = (Cb.told { p with h := Hd.zero, begun := false } M v false).2 := by
  unfold headB
  split
  · rename_i h
    rw [Cb.steps_cons, head_byte hM (by omega), hstep _ (by omega)]
    unfold Cb.first
    rw [if_pos (by omega), show ((32 * M + v : Nat) : Int) / 32 = M by omega, show ((32 * M + v : Nat) : Int) % 32 = v by omega]
    rfl
  split
  · exact long_steps hM he hl hstep 0 0 (by omega) rfl (Nat.div_eq_of_lt (by omega))
  split
  · exact long_steps hM he hl hstep 1 1 (by omega) rfl (Nat.div_eq_of_lt (by omega))
  split
  · exact long_steps hM he hl hstep 2 3 (by omega) rfl (Nat.div_eq_of_lt (by omega))
  · exact long_steps hM he hl hstep 3 7 (by omega) rfl (Nat.div_eq_of_lt (by omega))

/-! ### a number in more bytes than it takes (CborinWide) -/
theorem new_first (d : Int) (hd : 1 ≤ d) {M : Nat} (hM : M ≤ 5) : ∀ low : Nat, low < 28 → (Cb.new d).step ((32 * M + low : Nat) : Int) = (Cb.new d).first ((32 * M + low : Nat) : Int) := fun low h =>
  item_first hM h rfl (by simp [Cb.new, Core.new]) rfl rfl rfl (by simp [Cb.new, Core.new, Core.atKey]) (fun _ => by
    unfold Core.full
    exact decide_eq_false (by show ¬ d ≤ ((0 : Nat) : Int); omega))

theorem wide_all {M v : Nat} (hM : M = 0 ∨ M = 1) (k n : Nat) (hk : k < 4) (hn2 : n + 1 = 2 ^ k) (hv0 : v / 256 ^ (n + 1) = 0) :
    cborAll (UInt8.ofNat (32 * M + (24 + k)) :: bigB v (n + 1)) 1 = ([evInt (decide (M = 1)) v], 0) := by
  have h := long_run (p := Cb.new 1) (M := M) (v := v) (by omega) rfl (by simp [Cb.new, Core.new]) [] (new_first 1 (by omega) (by omega)) k n hk hn2 hv0
  rw [List.append_nil] at h
  unfold cborAll
  rw [if_neg (by omega), h]
  unfold Cb.told
  rw [if_pos (by omega)]
  have e : decide ((M : Int) = 1) = decide (M = 1) := by rcases hM with rfl | rfl <;> rfl
  rw [e]
  rfl

/-! ### so many parts (CborinCounts) -/
structure CntSt (m : Bool) (n items j : Nat) (p : Cb) : Prop where
  depth : p.c.depth = 2
  e : p.c.e = 0
  lack : p.c.lack = 0
  begun : p.begun = false
  chunks : p.c.chunks = false
  s : p.c.s = []
  h : p.h = Hd.zero
  done : p.c.done = decide (j = items)
  open_ : p.c.open_ = if j = items then [] else [⟨m, n, j⟩]

def cntItems (m : Bool) (n : Nat) : Nat := if m then 2 * n else n

theorem cnt_head (m : Bool) (n : Nat) (hn : n ≤ 40) : CntSt m n (cntItems m n) 0 ((Cb.new 2).steps (headB (if m then 5 else 4) n)) := by
  rw [head_steps (by cases m <;> decide) (by omega) rfl (by simp [Cb.new, Core.new]) (new_first 2 (by omega) (by cases m <;> decide))]
  have e : decide ((((if m = true then 5 else 4 : Nat) : Nat) : Int) = 5) = m := by cases m <;> rfl
  unfold Cb.told
  rw [if_neg (by cases m <;> decide), if_neg (by cases m <;> decide), if_neg (by simp), if_neg (by omega), e]
  cases n with
  | zero =>
    unfold Core.begin
    rw [if_pos (show ((0 : Nat) : Int) = 0 from rfl)]
    cases m <;> exact ⟨rfl, rfl, rfl, rfl, rfl, rfl, rfl, rfl, rfl⟩
  | succ n =>
    have h0 : ¬ 0 = cntItems m (n + 1) := by unfold cntItems; split <;> omega
    unfold Core.begin
    rw [if_neg (by omega)]
    exact ⟨rfl, rfl, rfl, rfl, rfl, rfl, rfl, by rw [decide_eq_false h0]; rfl, by rw [if_neg h0]; rfl⟩

theorem cnt_step {m : Bool} {n j : Nat} {p : Cb} (hj : j < cntItems m n) (hp : CntSt m n (cntItems m n) j p) : CntSt m n (cntItems m n) (j + 1) (p.step 96).2 := by
  have hop := hp.open_
  rw [if_neg (by omega)] at hop
  have hdone := hp.done
  rw [decide_eq_false (by omega)] at hdone
  have hs := item_first (p := p) (M := 3) (low := 0) (by decide) (by decide) hp.e (by rw [hp.lack]; decide) hp.begun hp.chunks hdone (fun _ => rfl) (by simp)
  rw [show p.step 96 = p.first 96 from hs]
  unfold Cb.first
  rw [if_pos (by decide)]
  unfold Cb.told
  rw [if_neg (by decide), if_pos (by decide), if_neg (by simp)]
  unfold Core.length
  rw [if_neg (by rw [hp.s]; decide), if_neg (by simp only []; rw [hp.chunks]; decide)]
  show CntSt m n _ (j + 1) { p with h := Hd.zero, begun := false, c := _ }
  unfold Core.text Core.value
  simp only [hop]
  have hj' : (⟨m, n, (j : Int) + 1⟩ : Cont).met = decide (j + 1 = cntItems m n) := by
    unfold Cont.met cntItems at *
    cases m
    · simp only [Bool.false_eq_true, if_false] at *
      exact decide_eq_decide.2 (by omega)
    · simp only [if_true] at *
      exact decide_eq_decide.2 (by omega)
  unfold closeUp
  simp only [hj']
  by_cases hl : j + 1 = cntItems m n
  · rw [decide_eq_true hl, if_pos rfl]
    exact ⟨hp.depth, hp.e, rfl, rfl, rfl, rfl, rfl, by rw [decide_eq_true hl]; simp [closeUp], by rw [if_pos hl]; rfl⟩
  · rw [decide_eq_false hl, if_neg (by simp)]
    exact ⟨hp.depth, hp.e, rfl, rfl, rfl, rfl, rfl, by rw [decide_eq_false hl]; simp [hdone], by rw [if_neg hl]; rfl⟩

theorem cnt_all (m : Bool) (v : Nat) (hv : v < 18446744073709551616) : (cborAll (headB (if m then 5 else 4) v) 2).2 = if v = 0 then 0 else if 1000000 < v then 7 else 3 := by
  have h := head_run (p := Cb.new 2) (M := if m then 5 else 4) (v := v) (by cases m <;> decide) hv rfl (by simp [Cb.new, Core.new]) [] (new_first 2 (by omega) (by cases m <;> decide))
  rw [List.append_nil] at h
  unfold cborAll
  rw [if_neg (by omega), h]
  have e : decide ((((if m = true then 5 else 4 : Nat) : Nat) : Int) = 5) = m := by cases m <;> rfl
  unfold Cb.told
  rw [if_neg (by cases m <;> decide), if_neg (by cases m <;> decide), if_neg (by simp), e]
  by_cases h0 : v = 0
  · subst h0
    rw [if_neg (show ¬ (1000000 : Int) < ((0 : Nat) : Int) by decide), if_pos rfl]
    cases m <;> rfl
  · rw [if_neg h0]
    by_cases h1 : 1000000 < v
    · rw [if_pos (by omega), if_pos h1]
      rfl
    · rw [if_neg (by omega), if_neg h1]
      unfold Core.begin
      rw [if_neg (by omega)]
      rfl
end Go.Tru
