/-
  PackinChecks, plain: what packin tells goes through event.Check.
-/
import Derived.Test.YthiennlanokdjaaPackRun
import Derived.Test.YthiennlanokdjaaCheck
namespace Go.Tru

def upC (l : List Cont) : List Cont := l.map fun c => { c with parts := c.parts + 1 }
/-- the open containers as Check counts them -/
def relC : List Cont → List Cont
  | [] => []
  | c :: r => c :: upC r

theorem upC_empty (l : List Cont) : (upC l).isEmpty = l.isEmpty := by cases l <;> rfl
theorem ckEnd (c : Cont) (s : List Cont) (h : c.full = true) : ckStep (c :: s) false evEnd = .ok (s, s.isEmpty) := by
  unfold ckStep
  rw [show tidy evEnd = some evEnd from rfl]
  simp only [Bool.false_eq_true, if_false]
  rw [if_pos (by rfl), if_pos h]

theorem met_full {c : Cont} (h : c.met = true) (hp : 0 ≤ c.parts) : c.full = true := by
  obtain ⟨p, n, k⟩ := c
  simp only at hp
  cases p with
  | false =>
    simp only [Cont.met, Bool.false_eq_true, if_false, decide_eq_true_eq] at h
    unfold Cont.full
    simp only
    rw [if_neg (by omega)]
    simp [h]
  | true =>
    simp only [Cont.met, if_true, decide_eq_true_eq] at h
    unfold Cont.full
    simp only
    rw [if_neg (by omega)]
    simp [h]

theorem close_ck : ∀ {l : List Cont}, (∀ c ∈ l, 0 ≤ c.parts) → ckRun (upC l) l.isEmpty (closeUp l).1 = .ok (relC (closeUp l).2.1, (closeUp l).2.2)
  | [], _ => rfl
  | c :: r, h => by
    unfold closeUp
    by_cases hm : ({ c with parts := c.parts + 1 } : Cont).met = true
    · rw [if_pos hm]
      have hf := met_full hm (by have := h c (List.mem_cons_self ..); simp only []; omega)
      show ckRun ({ c with parts := c.parts + 1 } :: upC r) false (evEnd :: (closeUp r).1) = _
      rw [ckRun, ckEnd _ _ hf]
      simp only []
      rw [upC_empty]
      exact close_ck (fun x hx => h x (List.mem_cons_of_mem _ hx))
    · rw [if_neg hm]
      rfl

theorem value_ck {k : Core} (hd : k.done = false) {p : Ev} (hc : Clear p) (h7 : p.kind ≠ 7) (ho : isOpen p = false) (hk : k.atKey = true → p.kind = 3) (hp : ∀ c ∈ k.open_, 0 ≤ c.parts) :
    ckRun (relC k.open_) false (k.value p).1 = .ok (relC (k.value p).2.open_, (k.value p).2.done) := by
  have hcl := close_ck hp
  unfold Core.value
  simp only [hd, Bool.false_or]
  have hstep : ckStep (relC k.open_) false p = .ok (upC k.open_, k.open_.isEmpty) := by
    unfold ckStep
    rw [clear_tidy hc]
    simp only [Bool.false_eq_true, if_false]
    unfold Core.atKey at hk
    cases hl : k.open_ with
    | nil => simp [relC, h7, ho, upC]
    | cons c r =>
      rw [hl] at hk
      simp only at hk
      simp only [relC]
      rw [if_neg h7]
      have hb : (c.pairs && decide (c.parts % 2 = 0) && decide (p.kind ≠ 3)) = false := by
        cases hx : (c.pairs && decide (c.parts % 2 = 0)) with
        | false => rfl
        | true => simp [hk hx]
      rw [hb]
      simp [ho, upC]
  rw [ckRun, hstep]
  exact hcl

theorem begin_ck {k : Core} (hd : k.done = false) (pairs : Bool) {n : Int} (hn : 0 ≤ n) (hk : k.atKey = false) (hp : ∀ c ∈ k.open_, 0 ≤ c.parts) (hl : k.open_.length < 16) :
    ckRun (relC k.open_) false (k.begin pairs n).1 = .ok (relC (k.begin pairs n).2.open_, (k.begin pairs n).2.done) := by
  have hcl := close_ck hp
  have hkind : (beginEv pairs n).kind ≠ 7 ∧ isOpen (beginEv pairs n) = true ∧ (beginEv pairs n).kind ≠ 3 ∧ Cont.of (beginEv pairs n) = ⟨pairs, n, 0⟩ := by
    cases pairs
    · exact ⟨show (5 : Int) ≠ 7 by decide, rfl, show (5 : Int) ≠ 3 by decide, rfl⟩
    · exact ⟨show (6 : Int) ≠ 7 by decide, rfl, show (6 : Int) ≠ 3 by decide, rfl⟩
  have hstep : ckStep (relC k.open_) false (beginEv pairs n) = .ok (⟨pairs, n, 0⟩ :: upC k.open_, false) := by
    unfold ckStep
    rw [clear_tidy (clear_beginEv pairs (by omega))]
    simp only [Bool.false_eq_true, if_false]
    unfold Core.atKey at hk
    cases hlk : k.open_ with
    | nil => simp [relC, hkind.1, hkind.2.1, hkind.2.2.2, upC]
    | cons c r =>
      rw [hlk] at hk hl
      simp only at hk
      simp only [relC]
      rw [if_neg hkind.1]
      have hb : (c.pairs && decide (c.parts % 2 = 0) && decide ((beginEv pairs n).kind ≠ 3)) = false := by rw [hk]; rfl
      rw [hb]
      have hul : (upC r).length + 1 ≠ 16 := by simp only [upC, List.length_map]; simp only [List.length_cons] at hl; omega
      simp [hkind.2.1, hkind.2.2.2, upC]
      simpa [upC] using hul
  unfold Core.begin
  by_cases h0 : n = 0
  · subst h0
    rw [if_pos rfl]
    simp only [Core.value, hd, Bool.false_or]
    rw [ckRun, hstep]
    simp only []
    rw [ckRun, ckEnd _ _ (by cases pairs <;> rfl)]
    simp only []
    rw [upC_empty]
    exact hcl
  · rw [if_neg h0, ckRun, hstep]
    simp only [ckRun, hd]
    rfl

/-- what a Parser keeps -/
structure PInv (p : Pk) : Prop where
  stop : p.c.done = true → p.c.lack = 0 ∧ p.kind = 0
  key1 : p.c.atKey = true → 0 < p.c.lack → p.c.word = true
  key2 : p.c.atKey = true → p.kind ≠ 0 → p.kind = 4
  chunks : p.c.chunks = false

/-- a step's result goes through Check -/
def Good (k : Core) (t : List Ev × Pk) : Prop :=
  (t.2.c.e ≠ 0 ∧ t.2.c.e ≠ 3 ∧ t.1 = []) ∨ (t.2.c.e = 0 ∧ PInv t.2 ∧ ckRun (relC k.open_) false t.1 = .ok (relC t.2.c.open_, t.2.c.done))

theorem good_fail {k : Core} {p : Pk} {e : Int} (h : e ≠ 0 ∧ e ≠ 3) : Good k (p.put (p.c.fail e)) := Or.inl ⟨h.1, h.2, rfl⟩

theorem good_value {p : Pk} (he : p.c.e = 0) (hd : p.c.done = false) (hl : p.c.lack = 0) (hk0 : p.kind = 0) (hch : p.c.chunks = false) (hp : ∀ c ∈ p.c.open_, 0 ≤ c.parts) {q : Ev} (hc : Clear q) (h7 : q.kind ≠ 7) (ho : isOpen q = false) (hk : p.c.atKey = true → q.kind = 3) :
    Good p.c (p.put (p.c.value q)) :=
  Or.inr ⟨he, ⟨fun _ => ⟨hl, hk0⟩, fun _ h => by simp only [Pk.put, Core.value] at h; omega, fun _ h => absurd hk0 h, hch⟩, value_ck hd hc h7 ho hk hp⟩

theorem good_text {p : Pk} (he : p.c.e = 0) (hd : p.c.done = false) (hl : p.c.lack = 0) (hk0 : p.kind = 0) (hp : ∀ c ∈ p.c.open_, 0 ≤ c.parts) (hk : p.c.atKey = true → p.c.word = true) :
    Good p.c (p.put p.c.text) := by
  refine Or.inr ⟨he, ⟨fun _ => ⟨hl, hk0⟩, fun _ h => by simp only [Pk.put, Core.text, Core.value] at h; omega, fun _ h => absurd hk0 h, rfl⟩, ?_⟩
  have h3 : (wordEv p.c.word p.c.s).kind ≠ 7 ∧ isOpen (wordEv p.c.word p.c.s) = false := by
    cases p.c.word
    · exact ⟨show (4 : Int) ≠ 7 by decide, rfl⟩
    · exact ⟨show (3 : Int) ≠ 7 by decide, rfl⟩
  exact value_ck (k := { p.c with s := [], chunks := false }) hd (clear_word _ _) h3.1 h3.2 (fun h => by rw [hk h]; rfl) hp

theorem good_length {p : Pk} (he : p.c.e = 0) (hd : p.c.done = false) (hk0 : p.kind = 0) (hch : p.c.chunks = false) (hp : ∀ c ∈ p.c.open_, 0 ≤ c.parts) {word : Bool} (hk : p.c.atKey = true → word = true) {n : Int} (hn : 0 ≤ n) :
    Good p.c (p.put (p.c.length word n)) := by
  unfold Core.length
  by_cases hb : (200 - (p.c.s.length : Int)) < n
  · rw [if_pos hb]; exact good_fail (by decide)
  · rw [if_neg hb]
    simp only []
    by_cases h0 : 0 < n
    · rw [if_pos (Or.inl h0)]
      exact Or.inr ⟨he, ⟨fun h => Bool.noConfusion (hd.symm.trans h), fun h _ => hk h, fun _ h => absurd hk0 h, hch⟩, by simp only [Pk.put, ckRun, hd]⟩
    · rw [if_neg (by rw [hch]; simp; omega)]
      exact good_text (p := { p with c := { p.c with word := word, lack := n, c := Chk.zero } }) he hd (by simp only []; omega) hk0 hp hk

theorem good_byte {p : Pk} (he : p.c.e = 0) (hd : p.c.done = false) (hk0 : p.kind = 0) (hch : p.c.chunks = false) (hp : ∀ c ∈ p.c.open_, 0 ≤ c.parts) (hl : 0 < p.c.lack) (hk : p.c.atKey = true → p.c.word = true) (b : Int) :
    Good p.c (p.put (p.c.byte b)) := by
  unfold Core.byte
  generalize (if p.c.word then p.c.c.step b else p.c.c) = c'
  simp only []
  split
  · exact Or.inl ⟨show (9 : Int) ≠ 0 by decide, show (9 : Int) ≠ 3 by decide, rfl⟩
  · rw [hch]
    split
    · exact Or.inr ⟨he, ⟨fun h => Bool.noConfusion (hd.symm.trans h), fun h _ => hk h, fun _ h => absurd hk0 h, rfl⟩, by simp only [Pk.put, ckRun, hd]⟩
    · rename_i h0
      have hl0 : p.c.lack - 1 = 0 := by
        have : ¬ 0 < p.c.lack - 1 := fun h => h0 (Or.inl h)
        omega
      exact good_text (p := { p with c := { p.c with s := p.c.s ++ [UInt8.ofNat b.toNat], lack := p.c.lack - 1, c := c' } }) he hd hl0 hk0 hp hk

theorem good_count {p : Pk} (he : p.c.e = 0) (hd : p.c.done = false) (hl : p.c.lack = 0) (hk0 : p.kind = 0) (hch : p.c.chunks = false) (hp : ∀ c ∈ p.c.open_, 0 ≤ c.parts) (hk : p.c.atKey = false) (hlen : p.c.open_.length < 16) (pairs : Bool) {n : Int} (hn : 0 ≤ n) :
    Good p.c (p.count pairs n) := by
  unfold Pk.count
  split
  · exact good_fail (by decide)
  · refine Or.inr ⟨?_, ⟨fun _ => ?_, fun _ h => ?_, fun _ h => absurd hk0 h, ?_⟩, begin_ck hd pairs hn hk hp hlen⟩
    · show (p.c.begin pairs n).2.e = 0
      unfold Core.begin; split <;> exact he
    · refine ⟨?_, hk0⟩
      show (p.c.begin pairs n).2.lack = 0
      unfold Core.begin; split <;> exact hl
    · exfalso
      have : (p.c.begin pairs n).2.lack = 0 := by unfold Core.begin; split <;> exact hl
      simp only [Pk.put] at h
      omega
    · show (p.c.begin pairs n).2.chunks = false
      unfold Core.begin; split <;> exact hch

theorem good_follows {p : Pk} (he : p.c.e = 0) (hd : p.c.done = false) (hl : p.c.lack = 0) (hch : p.c.chunks = false) {kind n : Int} (hk : p.c.atKey = true → kind = 4) : Good p.c (p.follows kind n) :=
  Or.inr ⟨he, ⟨fun h => Bool.noConfusion (hd.symm.trans h), fun _ h => absurd (hl ▸ h : (0 : Int) < 0) (by decide), fun h _ => hk h, hch⟩, by simp only [Pk.follows, ckRun, hd]⟩

theorem good_step {N : Int} {p : Pk} (hf : p.Fit N) (hi : PInv p) (he : p.c.e = 0) {b : Int} (hb : 0 ≤ b) (hdone : p.c.done = false) : Good p.c (p.step b) := by
  have hp : ∀ c ∈ p.c.open_, 0 ≤ c.parts := fun c hc => (hf.core.parts c hc).1
  have hlen16 : p.c.full = false → p.c.open_.length < 16 := fun h => by
    have := hf.core.depth
    simp only [Core.full, decide_eq_false_iff_not] at h
    omega
  unfold Pk.step
  rw [if_neg (by simp [he])]
  by_cases hl : 0 < p.c.lack
  · rw [if_pos hl]
    exact good_byte he hdone (hf.sep hl) hi.chunks hp hl (fun h => hi.key1 h hl) b
  rw [if_neg hl]
  have hl0 : p.c.lack = 0 := by have := hf.core.lack; omega
  by_cases hk : p.kind ≠ 0
  · rw [if_pos hk]
    obtain ⟨n1, n2, n3, n4, n5⟩ := hf.num hk
    unfold Pk.number
    split
    · exact Or.inr ⟨he, ⟨fun h => Bool.noConfusion (hdone.symm.trans h), fun _ h => absurd h hl, fun h _ => hi.key2 h hk, hi.chunks⟩, by simp only [ckRun, hdone]⟩
    · have hkey : p.kind ≠ 4 → p.c.atKey = false := fun h4 => by
        cases ha : p.c.atKey with
        | false => rfl
        | true => exact absurd (hi.key2 ha hk) h4
      unfold Pk.told
      split
      · rename_i h1
        exact good_value (p := { p with v := p.v * 256 + b, lack := p.lack - 1, kind := 0 }) he hdone hl0 rfl hi.chunks hp (clear_int' _ _) (show (2 : Int) ≠ 7 by decide) rfl (fun h => by rw [hkey (by omega)] at h; cases h)
      · split
        · obtain ⟨b', m', e⟩ := signed_kind p.all (p.v * 256 + b)
          rw [e]
          exact good_value (p := { p with v := p.v * 256 + b, lack := p.lack - 1, kind := 0 }) he hdone hl0 rfl hi.chunks hp (clear_int' _ _) (show (2 : Int) ≠ 7 by decide) rfl (fun h => by rw [hkey (by omega)] at h; cases h)
        · split
          · exact good_length (p := { p with v := p.v * 256 + b, lack := p.lack - 1, kind := 0 }) he hdone rfl hi.chunks hp (fun h => decide_eq_true (hi.key2 h hk)) (by omega)
          · exact good_count (p := { p with v := p.v * 256 + b, lack := p.lack - 1, kind := 0 }) he hdone hl0 rfl hi.chunks hp (hkey (by omega)) (hlen16 (hf.room (by have := hf.kind; omega))) _ (by omega)
  · rw [if_neg hk]
    have hk0 : p.kind = 0 := by omega
    unfold Pk.item
    by_cases h193 : b = 193
    · rw [if_pos (Or.inr h193)]; exact good_fail (by decide)
    rw [if_neg (show ¬ (p.c.done = true ∨ b = 193) by rw [hdone]; simp; exact h193)]
    split
    · exact good_fail (by decide)
    rename_i h2
    have hkey : isTextB b = false → p.c.atKey = false := fun h => by
      cases ha : p.c.atKey with
      | false => rfl
      | true => exact absurd ⟨ha, h⟩ h2
    have hnt : ∀ q : Ev, isTextB b = false → p.c.atKey = true → q.kind = 3 := fun q h h' => by rw [hkey h] at h'; cases h'
    split
    · exact good_fail (by decide)
    split
    · exact good_fail (by decide)
    split
    · exact good_fail (by decide)
    rename_i h3 h4 h5
    have hroom : isContB b = true → p.c.open_.length < 16 := fun hc => hlen16 (by
      cases hfu : p.c.full with
      | false => rfl
      | true => exact absurd ⟨hc, hfu⟩ h5)
    split
    · exact good_value he hdone hl0 hk0 hi.chunks hp (clear_int' _ _) (show (2 : Int) ≠ 7 by decide) rfl (hnt _ (decide_eq_false (by omega)))
    split
    · exact good_value he hdone hl0 hk0 hi.chunks hp (clear_int' _ _) (show (2 : Int) ≠ 7 by decide) rfl (hnt _ (decide_eq_false (by omega)))
    split
    · exact good_count he hdone hl0 hk0 hi.chunks hp (hkey (decide_eq_false (by omega))) (hroom (decide_eq_true (by omega))) _ (by omega)
    split
    · exact good_length he hdone hk0 hi.chunks hp (fun _ => rfl) (by omega)
    split
    · exact good_value he hdone hl0 hk0 hi.chunks hp (Or.inl rfl) (by decide) rfl (hnt _ (decide_eq_false (by omega)))
    split
    · exact good_value he hdone hl0 hk0 hi.chunks hp (Or.inr (Or.inl ⟨_, rfl⟩)) (by simp [evBool]) rfl (hnt _ (decide_eq_false (by omega)))
    have hk4 : ∀ kind : Int, isTextB b = false → p.c.atKey = true → kind = 4 := fun q h h' => by rw [hkey h] at h'; cases h'
    unfold Pk.long
    split
    · exact good_follows he hdone hl0 hi.chunks (hk4 _ (decide_eq_false (by omega)))
    split
    · exact good_follows he hdone hl0 hi.chunks (hk4 _ (decide_eq_false (by omega)))
    split
    · exact good_follows he hdone hl0 hi.chunks (hk4 _ (decide_eq_false (by omega)))
    split
    · exact good_follows he hdone hl0 hi.chunks (fun _ => rfl)
    split
    · exact good_follows he hdone hl0 hi.chunks (hk4 _ (decide_eq_false (by omega)))
    · exact good_follows he hdone hl0 hi.chunks (hk4 _ (decide_eq_false (by omega)))

/-- behind a document's end every byte is one too many -/
theorem done_step {p : Pk} (hi : PInv p) (he : p.c.e = 0) (hd : p.c.done = true) (b : Int) : p.step b = p.put (p.c.fail 2) := by
  obtain ⟨h1, h2⟩ := hi.stop hd
  unfold Pk.step
  rw [if_neg (by simp [he]), if_neg (by omega), if_neg (by simp [h2])]
  unfold Pk.item
  rw [if_pos (Or.inl hd)]

/-- what Check says of what was told -/
def Said (l : List Ev) (e : Int) : Prop := (e = 0 → check l = 0) ∧ (e ≠ 0 → check l = 3 ∨ (check l = 0 ∧ e ≠ 3))

theorem said_of {l : List Ev} {s : List Cont} {d : Bool} {e : Int} (h : ckRun [] false l = .ok (s, d)) (he : e ≠ 0) (h3 : e = 3 → d = false) : Said l e := by
  have hc := check_end h
  refine ⟨fun h0 => absurd h0 he, fun _ => ?_⟩
  cases d with
  | false => exact Or.inl hc
  | true => exact Or.inr ⟨hc, fun h => by cases h3 h⟩

theorem run_said : ∀ (r : List UInt8) (p : Pk) (N : Int) (acc : List Ev), 0 ≤ N → p.Fit N → PInv p → p.c.e = 0 → ckRun [] false acc = .ok (relC p.c.open_, p.c.done) → Said (acc ++ (p.run r).1) (p.run r).2
  | [], p, N, acc, _, _, _, he, hck => by
    rw [Pk.run, List.append_nil]
    unfold Core.over
    cases hd : p.c.done with
    | false =>
      rw [if_pos ⟨he, rfl⟩]
      exact said_of hck (by decide) (fun _ => hd)
    | true =>
      rw [if_neg (by simp), he]
      have hc := check_end hck
      rw [hd] at hc
      exact ⟨fun _ => hc, fun h => absurd rfl h⟩
  | b :: r, p, N, acc, hN, hf, hi, he, hck => by
    have hb0 : (0 : Int) ≤ b.toNat := by omega
    have hb1 : (b.toNat : Int) ≤ 255 := by have := b.toNat_lt; omega
    rw [Pk.run]
    cases hd : p.c.done with
    | true =>
      rw [done_step hi he hd, if_pos (by simp [Pk.put, Core.fail])]
      simp only [Pk.put, Core.fail, List.append_nil]
      exact said_of hck (by decide) (fun h => by cases h)
    | false =>
      have hg := good_step hf hi he hb0 hd
      have hf2 := Pk.fit_step hN hf ⟨hb0, hb1⟩
      generalize p.step (b.toNat : Int) = t at hg hf2
      rcases hg with ⟨h1, h2, h3⟩ | ⟨h1, h2, h3⟩
      · rw [if_pos h1, h3, List.append_nil]
        exact said_of hck h1 (fun h => absurd h h2)
      · rw [if_neg (by simp [h1])]
        simp only []
        rw [← List.append_assoc]
        refine run_said r t.2 (N + 1) (acc ++ t.1) (by omega) hf2 h2 h1 ?_
        rw [ckRun_append, hck, hd]
        exact h3

theorem all_said (s : List UInt8) {d : Int} (hd : 1 ≤ d ∧ d ≤ 16) : Said (packAll s d).1 (packAll s d).2 := by
  unfold packAll
  rw [if_neg (by omega)]
  have h := run_said s (Pk.new d) 0 [] (by omega) (Pk.fit_new hd) ⟨fun h => by simp [Pk.new, Core.new] at h, fun h => by simp [Pk.new, Core.new, Core.atKey] at h, fun h => by simp [Pk.new, Core.new, Core.atKey] at h, rfl⟩ rfl rfl
  simpa using h

theorem run_len : ∀ (r : List UInt8) (p : Pk) (N : Int), 0 ≤ N → p.Fit N → (p.run r).1.length ≤ 18 * r.length
  | [], _, _, _, _ => by simp [Pk.run]
  | b :: r, p, N, hN, hf => by
    have hb0 : (0 : Int) ≤ b.toNat := by omega
    have hb1 : (b.toNat : Int) ≤ 255 := by have := b.toNat_lt; omega
    have h1 := len_step hf hb0
    have h2 := run_len r (p.step b.toNat).2 (N + 1) (by omega) (Pk.fit_step hN hf ⟨hb0, hb1⟩)
    rw [Pk.run]
    simp only [List.length_cons]
    split
    · exact Nat.le_trans h1 (by omega)
    · simp only [List.length_append]; omega

theorem all_len (s : List UInt8) (d : Int) : (packAll s d).1.length ≤ 18 * s.length := by
  unfold packAll
  split
  · simp
  · exact run_len s _ 0 (by omega) (Pk.fit_new (by omega))
end Go.Tru
