/-
  CborinChecks, plain: what cborin tells goes through event.Check.
-/
import Derived.Test.YtepajbimhpmpjaaCborRun
import Derived.Test.YtepajbimhpmpjaaCheck
namespace Go.Tru

def upC (l : List Cont) : List Cont := l.map fun c => { c with parts := c.parts + 1 }
/-- the open containers as Check counts them -/
def relC : List Cont → List Cont
  | [] => []
  | c :: r => c :: upC r

theorem upC_empty (l : List Cont) : (upC l).isEmpty = l.isEmpty := by cases l <;> rfl
theorem ckEnd (c : Cont) (s : List Cont) (h : c.full = true) : ckStep (c :: s) false evEnd = .ok (s, s.isEmpty) := by
  unfold ckStep
  rw [show tidy evEnd = some evEnd from rfl]
  simp only [Bool.false_eq_true, if_false]
  rw [if_pos (by rfl), if_pos h]

theorem met_full {c : Cont} (h : c.met = true) (hp : 0 ≤ c.parts) : c.full = true := by
  obtain ⟨p, n, k⟩ := c
  simp only at hp
  cases p with
  | false =>
    simp only [Cont.met, Bool.false_eq_true, if_false, decide_eq_true_eq] at h
    unfold Cont.full
    simp only
    rw [if_neg (by omega)]
    simp [h]
  | true =>
    simp only [Cont.met, if_true, decide_eq_true_eq] at h
    unfold Cont.full
    simp only
    rw [if_neg (by omega)]
    simp [h]

theorem close_ck : ∀ {l : List Cont}, (∀ c ∈ l, 0 ≤ c.parts) → ckRun (upC l) l.isEmpty (closeUp l).1 = .ok (relC (closeUp l).2.1, (closeUp l).2.2)
  | [], _ => rfl
  | c :: r, h => by
    unfold closeUp
    by_cases hm : ({ c with parts := c.parts + 1 } : Cont).met = true
    · rw [if_pos hm]
      have hf := met_full hm (by have := h c (List.mem_cons_self ..); simp only []; omega)
      show ckRun ({ c with parts := c.parts + 1 } :: upC r) false (evEnd :: (closeUp r).1) = _
      rw [ckRun, ckEnd _ _ hf]
      simp only []
      rw [upC_empty]
      exact close_ck (fun x hx => h x (List.mem_cons_of_mem _ hx))
    · rw [if_neg hm]
      rfl

theorem value_ck {k : Core} (hd : k.done = false) {p : Ev} (hc : Clear p) (h7 : p.kind ≠ 7) (ho : isOpen p = false) (hk : k.atKey = true → p.kind = 3) (hp : ∀ c ∈ k.open_, 0 ≤ c.parts) :
    ckRun (relC k.open_) false (k.value p).1 = .ok (relC (k.value p).2.open_, (k.value p).2.done) := by
  have hcl := close_ck hp
  unfold Core.value
  simp only [hd, Bool.false_or]
  have hstep : ckStep (relC k.open_) false p = .ok (upC k.open_, k.open_.isEmpty) := by
    unfold ckStep
    rw [clear_tidy hc]
    simp only [Bool.false_eq_true, if_false]
    unfold Core.atKey at hk
    cases hl : k.open_ with
    | nil => simp [relC, h7, ho, upC]
    | cons c r =>
      rw [hl] at hk
      simp only at hk
      simp only [relC]
      rw [if_neg h7]
      have hb : (c.pairs && decide (c.parts % 2 = 0) && decide (p.kind ≠ 3)) = false := by
        cases hx : (c.pairs && decide (c.parts % 2 = 0)) with
        | false => rfl
        | true => simp [hk hx]
      rw [hb]
      simp [ho, upC]
  rw [ckRun, hstep]
  exact hcl

theorem begin_ck {k : Core} (hd : k.done = false) (pairs : Bool) {n : Int} (hn : -1 ≤ n) (hk : k.atKey = false) (hp : ∀ c ∈ k.open_, 0 ≤ c.parts) (hl : k.open_.length < 16) :
    ckRun (relC k.open_) false (k.begin pairs n).1 = .ok (relC (k.begin pairs n).2.open_, (k.begin pairs n).2.done) := by
  have hcl := close_ck hp
  have hkind : (beginEv pairs n).kind ≠ 7 ∧ isOpen (beginEv pairs n) = true ∧ (beginEv pairs n).kind ≠ 3 ∧ Cont.of (beginEv pairs n) = ⟨pairs, n, 0⟩ := by
    cases pairs
    · exact ⟨show (5 : Int) ≠ 7 by decide, rfl, show (5 : Int) ≠ 3 by decide, rfl⟩
    · exact ⟨show (6 : Int) ≠ 7 by decide, rfl, show (6 : Int) ≠ 3 by decide, rfl⟩
  have hstep : ckStep (relC k.open_) false (beginEv pairs n) = .ok (⟨pairs, n, 0⟩ :: upC k.open_, false) := by
    unfold ckStep
    rw [clear_tidy (clear_beginEv pairs (by omega))]
    simp only [Bool.false_eq_true, if_false]
    unfold Core.atKey at hk
    cases hlk : k.open_ with
    | nil => simp [relC, hkind.1, hkind.2.1, hkind.2.2.2, upC]
    | cons c r =>
      rw [hlk] at hk hl
      simp only at hk
      simp only [relC]
      rw [if_neg hkind.1]
      have hb : (c.pairs && decide (c.parts % 2 = 0) && decide ((beginEv pairs n).kind ≠ 3)) = false := by rw [hk]; rfl
      rw [hb]
      have hul : (upC r).length + 1 ≠ 16 := by simp only [upC, List.length_map]; simp only [List.length_cons] at hl; omega
      simp [hkind.2.1, hkind.2.2.2, upC]
      simpa [upC] using hul
  unfold Core.begin
  by_cases h0 : n = 0
  · subst h0
    rw [if_pos rfl]
    simp only [Core.value, hd, Bool.false_or]
    rw [ckRun, hstep]
    simp only []
    rw [ckRun, ckEnd _ _ (by cases pairs <;> rfl)]
    simp only []
    rw [upC_empty]
    exact hcl
  · rw [if_neg h0, ckRun, hstep]
    simp only [ckRun, hd]
    rfl

theorem brk_full {c : Cont} (hp : 0 ≤ c.parts) (h : ¬ (0 ≤ c.count ∨ c.pairs = true ∧ 0 < c.parts % 2)) : c.full = true := by
  obtain ⟨p, n, k⟩ := c
  simp only at hp h
  unfold Cont.full
  simp only
  rw [if_pos (by omega)]
  cases p with
  | false => rfl
  | true =>
    simp only [true_and] at h
    simp
    omega

/-- what a Parser keeps -/
structure CInv (p : Cb) : Prop where
  stop : p.c.done = true → p.c.lack = 0 ∧ p.begun = false ∧ p.c.chunks = false
  key1 : p.c.atKey = true → 0 < p.c.lack → p.c.word = true
  key2 : p.c.atKey = true → p.begun = true → p.h.major = 3
  key3 : p.c.atKey = true → p.c.chunks = true → p.c.word = true
  same : p.begun = true → p.c.chunks = true → p.h.major = if p.c.word = true then 3 else 2

/-- a step's result goes through Check -/
def Good (k : Core) (t : List Ev × Cb) : Prop :=
  (t.2.c.e ≠ 0 ∧ t.2.c.e ≠ 3 ∧ t.1 = []) ∨ (t.2.c.e = 0 ∧ CInv t.2 ∧ ckRun (relC k.open_) false t.1 = .ok (relC t.2.c.open_, t.2.c.done))

theorem good_fail {k : Core} {p q : Cb} {e : Int} (h : e ≠ 0 ∧ e ≠ 3) : Good k (q.put (p.c.fail e)) := Or.inl ⟨h.1, h.2, rfl⟩

theorem good_value {p : Cb} (he : p.c.e = 0) (hd : p.c.done = false) (hl : p.c.lack = 0) (hbg : p.begun = false) (hch : p.c.chunks = false) (hp : ∀ c ∈ p.c.open_, 0 ≤ c.parts) {q : Ev} (hc : Clear q) (h7 : q.kind ≠ 7) (ho : isOpen q = false) (hk : p.c.atKey = true → q.kind = 3) :
    Good p.c (p.put (p.c.value q)) :=
  Or.inr ⟨he, ⟨fun _ => ⟨hl, hbg, hch⟩, fun _ h => absurd (hl ▸ h : (0 : Int) < 0) (by decide), fun _ h => Bool.noConfusion (hbg.symm.trans h), fun _ h => Bool.noConfusion (hch.symm.trans h), fun h _ => Bool.noConfusion (hbg.symm.trans h)⟩, value_ck hd hc h7 ho hk hp⟩

theorem good_text {p : Cb} (he : p.c.e = 0) (hd : p.c.done = false) (hl : p.c.lack = 0) (hbg : p.begun = false) (hp : ∀ c ∈ p.c.open_, 0 ≤ c.parts) (hk : p.c.atKey = true → p.c.word = true) :
    Good p.c (p.put p.c.text) := by
  refine Or.inr ⟨he, ⟨fun _ => ⟨hl, hbg, rfl⟩, fun _ h => absurd (hl ▸ h : (0 : Int) < 0) (by decide), fun _ h => Bool.noConfusion (hbg.symm.trans h), fun _ h => Bool.noConfusion h, fun h _ => Bool.noConfusion (hbg.symm.trans h)⟩, ?_⟩
  have h3 : (wordEv p.c.word p.c.s).kind ≠ 7 ∧ isOpen (wordEv p.c.word p.c.s) = false := by
    cases p.c.word
    · exact ⟨show (4 : Int) ≠ 7 by decide, rfl⟩
    · exact ⟨show (3 : Int) ≠ 7 by decide, rfl⟩
  exact value_ck (k := { p.c with s := [], chunks := false }) hd (clear_word _ _) h3.1 h3.2 (fun h => by rw [hk h]; rfl) hp

theorem good_length {p : Cb} (he : p.c.e = 0) (hd : p.c.done = false) (hbg : p.begun = false) (hp : ∀ c ∈ p.c.open_, 0 ≤ c.parts) {word : Bool} (hk : p.c.atKey = true → word = true) {n : Int} (hn : 0 ≤ n) :
    Good p.c (p.put (p.c.length word n)) := by
  unfold Core.length
  by_cases hb : (200 - (p.c.s.length : Int)) < n
  · rw [if_pos hb]; exact good_fail (by decide)
  · rw [if_neg hb]
    simp only []
    by_cases h0 : 0 < n ∨ p.c.chunks = true
    · rw [if_pos h0]
      exact Or.inr ⟨he, ⟨fun h => Bool.noConfusion (hd.symm.trans h), fun h _ => hk h, fun _ h => Bool.noConfusion (hbg.symm.trans h), fun h _ => hk h, fun h _ => Bool.noConfusion (hbg.symm.trans h)⟩, by simp only [Cb.put, ckRun, hd]⟩
    · rw [if_neg h0]
      exact good_text (p := { p with c := { p.c with word := word, lack := n, c := Chk.zero } }) he hd (by simp only []; omega) hbg hp hk

theorem good_byte {p : Cb} (he : p.c.e = 0) (hd : p.c.done = false) (hbg : p.begun = false) (hp : ∀ c ∈ p.c.open_, 0 ≤ c.parts) (hl : 0 < p.c.lack) (hk : p.c.atKey = true → p.c.word = true) (b : Int) :
    Good p.c (p.put (p.c.byte b)) := by
  unfold Core.byte
  generalize (if p.c.word then p.c.c.step b else p.c.c) = c'
  simp only []
  split
  · exact Or.inl ⟨show (9 : Int) ≠ 0 by decide, show (9 : Int) ≠ 3 by decide, rfl⟩
  · split
    · exact Or.inr ⟨he, ⟨fun h => Bool.noConfusion (hd.symm.trans h), fun h _ => hk h, fun _ h => Bool.noConfusion (hbg.symm.trans h), fun h _ => hk h, fun h _ => Bool.noConfusion (hbg.symm.trans h)⟩, by simp only [Cb.put, ckRun, hd]⟩
    · rename_i h0
      have hl0 : p.c.lack - 1 = 0 := by
        have : ¬ 0 < p.c.lack - 1 := fun h => h0 (Or.inl h)
        omega
      exact good_text (p := { p with c := { p.c with s := p.c.s ++ [UInt8.ofNat b.toNat], lack := p.c.lack - 1, c := c' } }) he hd hl0 hbg hp hk

theorem good_begin {p : Cb} (he : p.c.e = 0) (hd : p.c.done = false) (hl : p.c.lack = 0) (hbg : p.begun = false) (hch : p.c.chunks = false) (hp : ∀ c ∈ p.c.open_, 0 ≤ c.parts) (hk : p.c.atKey = false) (hlen : p.c.open_.length < 16) (pairs : Bool) {n : Int} (hn : -1 ≤ n) :
    Good p.c (p.put (p.c.begin pairs n)) := by
  have e1 : (p.c.begin pairs n).2.e = 0 := by unfold Core.begin; split <;> exact he
  have e2 : (p.c.begin pairs n).2.lack = 0 := by unfold Core.begin; split <;> exact hl
  have e3 : (p.c.begin pairs n).2.chunks = false := by unfold Core.begin; split <;> exact hch
  exact Or.inr ⟨e1, ⟨fun _ => ⟨e2, hbg, e3⟩, fun _ h => absurd (e2 ▸ h : (0 : Int) < 0) (by decide), fun _ h => Bool.noConfusion (hbg.symm.trans h), fun _ h => Bool.noConfusion (e3.symm.trans h), fun h _ => Bool.noConfusion (hbg.symm.trans h)⟩, begin_ck hd pairs hn hk hp hlen⟩

theorem good_brk {p : Cb} (he : p.c.e = 0) (hd : p.c.done = false) (hl : p.c.lack = 0) (hbg : p.begun = false) (hch : p.c.chunks = false) (hp : ∀ c ∈ p.c.open_, 0 ≤ c.parts) : Good p.c (p.put p.c.brk) := by
  unfold Core.brk
  cases ho : p.c.open_ with
  | nil => exact good_fail (by decide)
  | cons c r =>
    simp only []
    by_cases hb : 0 ≤ c.count ∨ c.pairs = true ∧ 0 < c.parts % 2
    · rw [if_pos hb]; exact good_fail (by decide)
    · rw [if_neg hb]
      refine Or.inr ⟨he, ⟨fun _ => ⟨hl, hbg, hch⟩, fun _ h => absurd (hl ▸ h : (0 : Int) < 0) (by decide), fun _ h => Bool.noConfusion (hbg.symm.trans h), fun _ h => Bool.noConfusion (hch.symm.trans h), fun h _ => Bool.noConfusion (hbg.symm.trans h)⟩, ?_⟩
      have hf := brk_full (hp c (by rw [ho]; exact List.mem_cons_self ..)) hb
      have hcl := close_ck (l := r) (fun x hx => hp x (by rw [ho]; exact List.mem_cons_of_mem _ hx))
      rw [ho]
      show ckRun (c :: upC r) false (evEnd :: (closeUp r).1) = .ok (relC (closeUp r).2.1, p.c.done || (closeUp r).2.2)
      rw [hd, Bool.false_or, ckRun, ckEnd _ _ hf]
      simp only []
      rw [upC_empty]
      exact hcl

theorem good_told {p : Cb} (he : p.c.e = 0) (hd : p.c.done = false) (hl : p.c.lack = 0) (hbg : p.begun = false) (hp : ∀ c ∈ p.c.open_, 0 ≤ c.parts) {major v : Int} (hv : 0 ≤ v) (hk : p.c.atKey = true → major = 3) {without : Bool} (hch : p.c.chunks = true → (major = 2 ∨ major = 3) ∧ without = false) (hlen : major ≠ 0 ∧ major ≠ 1 ∧ major ≠ 2 ∧ major ≠ 3 → p.c.open_.length < 16) :
    Good p.c (p.told major v without) := by
  have hchf : ¬ (major = 2 ∨ major = 3) → p.c.chunks = false := fun h => by
    cases hc : p.c.chunks with
    | false => rfl
    | true => exact absurd (hch hc).1 h
  have hkf : ¬ major = 3 → p.c.atKey = false := fun h => by
    cases hc : p.c.atKey with
    | false => rfl
    | true => exact absurd (hk hc) h
  unfold Cb.told
  split
  · exact good_value he hd hl hbg (hchf (by omega)) hp (clear_int' _ _) (show (2 : Int) ≠ 7 by decide) rfl (fun h => by have := hk h; omega)
  split
  · split
    · exact Or.inr ⟨he, ⟨fun h => Bool.noConfusion (hd.symm.trans h), fun _ h => absurd (hl ▸ h : (0 : Int) < 0) (by decide), fun _ h => Bool.noConfusion (hbg.symm.trans h), fun h _ => decide_eq_true (hk h), fun h _ => Bool.noConfusion (hbg.symm.trans h)⟩, by simp only [ckRun, hd]⟩
    · exact good_length he hd hbg hp (fun h => decide_eq_true (hk h)) hv
  rename_i h1 h2
  split
  · exact good_begin he hd hl hbg (hchf h2) hp (hkf (by omega)) (hlen (by omega)) _ (by omega)
  split
  · exact good_fail (by decide)
  · exact good_begin he hd hl hbg (hchf h2) hp (hkf (by omega)) (hlen (by omega)) _ (by omega)

theorem good_first {p : Cb} (he : p.c.e = 0) (hd : p.c.done = false) (hl : p.c.lack = 0) (hp : ∀ c ∈ p.c.open_, 0 ≤ c.parts) {b : Int} (hk : p.c.atKey = true → b / 32 = 3) (hk3 : p.c.atKey = true → p.c.chunks = true → p.c.word = true) (hch : p.c.chunks = true → b / 32 = (if p.c.word = true then 3 else 2) ∧ ¬ b % 32 = 31) (hlen : b / 32 ≠ 0 ∧ b / 32 ≠ 1 ∧ b / 32 ≠ 2 ∧ b / 32 ≠ 3 → p.c.open_.length < 16) :
    Good p.c (p.first b) := by
  have hm : p.c.chunks = true → b / 32 = 2 ∨ b / 32 = 3 := fun h => by
    have h1 := (hch h).1
    cases hw : p.c.word <;> rw [hw] at h1 <;> simp at h1 <;> omega
  unfold Cb.first
  split
  · exact good_told (p := { p with h := Hd.zero, begun := false }) he hd hl rfl hp (by omega) hk (fun h => ⟨hm h, rfl⟩) hlen
  split
  · exact Or.inr ⟨he, ⟨fun h => Bool.noConfusion (hd.symm.trans h), fun _ h => absurd (hl ▸ h : (0 : Int) < 0) (by decide), fun h _ => hk h, hk3, fun _ h => (hch h).1⟩, by simp only [ckRun, hd]⟩
  split
  · rename_i h31
    exact good_told (p := { p with h := Hd.zero, begun := false }) he hd hl rfl hp (by omega) hk (fun h => absurd h31 (hch h).2) hlen
  · exact good_fail (by decide)

theorem good_step {N : Int} {p : Cb} (hf : p.Fit N) (hi : CInv p) (he : p.c.e = 0) {b : Int} (hb : 0 ≤ b ∧ b ≤ 255) (hdone : p.c.done = false) : Good p.c (p.step b) := by
  have hp : ∀ c ∈ p.c.open_, 0 ≤ c.parts := fun c hc => (hf.core.parts c hc).1
  have hlen16 : p.c.full = false → p.c.open_.length < 16 := fun h => by
    have := hf.core.depth
    simp only [Core.full, decide_eq_false_iff_not] at h
    omega
  unfold Cb.step
  rw [if_neg (by simp [he])]
  by_cases hl : 0 < p.c.lack
  · rw [if_pos hl]
    exact good_byte he hdone (hf.sep he hl) hp hl (fun h => hi.key1 h hl) b
  rw [if_neg hl]
  have hl0 : p.c.lack = 0 := by have := hf.core.lack; omega
  by_cases hbg : p.begun = true
  · rw [if_pos hbg]
    obtain ⟨hh, h5⟩ := hf.head he hbg
    have hv := hh.v
    have hmj := hh.major
    unfold Cb.more
    split
    · exact Or.inr ⟨he, ⟨fun h => Bool.noConfusion (hdone.symm.trans h), fun _ h => absurd h hl, fun h _ => hi.key2 h hbg, hi.key3, fun _ h => hi.same hbg h⟩, by simp only [ckRun, hdone]⟩
    · refine good_told (p := { p with h := Hd.zero, begun := false }) he hdone hl0 rfl hp (by omega) (fun h => hi.key2 h hbg) (fun h => ⟨?_, rfl⟩) (fun h => hlen16 (hf.room he hbg (by omega)))
      have h1 := hi.same hbg h
      cases hw : p.c.word <;> rw [hw] at h1 <;> simp at h1 <;> omega
  rw [if_neg hbg]
  have hbf : p.begun = false := by simpa using hbg
  by_cases hc : p.c.chunks = true
  · rw [if_pos hc]
    unfold Cb.chunk
    split
    · exact good_text he hdone hl0 hbf hp (fun h => hi.key3 h hc)
    by_cases h2 : b / 32 ≠ (if p.c.word = true then 3 else 2) ∨ b % 32 = 31
    · rw [if_pos h2]; exact good_fail (by decide)
    · rw [if_neg h2]
      have h3 : b / 32 = if p.c.word = true then 3 else 2 := by
        by_cases hx : b / 32 = if p.c.word = true then 3 else 2
        · exact hx
        · exact absurd (Or.inl hx) h2
      have h4 : b / 32 = 2 ∨ b / 32 = 3 := by
        cases hw : p.c.word <;> rw [hw] at h3 <;> simp at h3 <;> omega
      exact good_first he hdone hl0 hp (fun h => by rw [h3, if_pos (hi.key3 h hc)]) hi.key3 (fun _ => ⟨h3, fun h => h2 (Or.inr h)⟩) (fun h => by omega)
  · rw [if_neg hc]
    have hcf : p.c.chunks = false := by simpa using hc
    unfold Cb.item
    rw [if_neg (by rw [hdone]; decide)]
    split
    · exact good_fail (by decide)
    split
    · exact good_brk he hdone hl0 hbf hcf hp
    split
    · exact good_fail (by decide)
    rename_i h1 h2 h3
    have hkey : p.c.atKey = true → b / 32 = 3 := fun h => by
      by_cases hx : b / 32 = 3
      · exact hx
      · exact absurd (Or.inl ⟨h, hx⟩) h3
    split
    · rename_i h7
      have hnk : ∀ q : Ev, p.c.atKey = true → q.kind = 3 := fun q h => by have := hkey h; omega
      unfold Cb.simple
      split
      · exact good_value he hdone hl0 hbf hcf hp (Or.inr (Or.inl ⟨_, rfl⟩)) (by simp [evBool]) rfl (hnk _)
      split
      · exact good_value he hdone hl0 hbf hcf hp (Or.inl rfl) (by decide) rfl (hnk _)
      split
      · exact good_fail (by decide)
      · exact good_fail (by decide)
    rename_i h7
    split
    · exact good_fail (by decide)
    rename_i hfl
    refine good_first he hdone hl0 hp hkey hi.key3 (fun h => absurd h hc) (fun h => hlen16 ?_)
    cases hfu : p.c.full with
    | false => rfl
    | true =>
      by_cases h8 : b / 32 = 4 ∨ b / 32 = 5
      · exact absurd ⟨h8, hfu⟩ hfl
      · exact absurd (Or.inr (show b / 32 = 6 by omega)) h3

/-- behind a document's end every byte is one too many -/
theorem done_step {p : Cb} (hi : CInv p) (he : p.c.e = 0) (hd : p.c.done = true) (b : Int) : p.step b = p.put (p.c.fail 2) := by
  obtain ⟨h1, h2, h3⟩ := hi.stop hd
  unfold Cb.step
  rw [if_neg (by simp [he]), if_neg (by omega), if_neg (by simp [h2]), if_neg (by simp [h3])]
  unfold Cb.item
  rw [if_pos hd]

/-- what Check says of what was told -/
def Said (l : List Ev) (e : Int) : Prop := (e = 0 → check l = 0) ∧ (e ≠ 0 → check l = 3 ∨ (check l = 0 ∧ e ≠ 3))

theorem said_of {l : List Ev} {s : List Cont} {d : Bool} {e : Int} (h : ckRun [] false l = .ok (s, d)) (he : e ≠ 0) (h3 : e = 3 → d = false) : Said l e := by
  have hc := check_end h
  refine ⟨fun h0 => absurd h0 he, fun _ => ?_⟩
  cases d with
  | false => exact Or.inl hc
  | true => exact Or.inr ⟨hc, fun h => by cases h3 h⟩

theorem run_said : ∀ (r : List UInt8) (p : Cb) (N : Int) (acc : List Ev), 0 ≤ N → p.Fit N → CInv p → p.c.e = 0 → ckRun [] false acc = .ok (relC p.c.open_, p.c.done) → Said (acc ++ (p.run r).1) (p.run r).2
  | [], p, N, acc, _, _, _, he, hck => by
    rw [Cb.run, List.append_nil]
    unfold Core.over
    cases hd : p.c.done with
    | false =>
      rw [if_pos ⟨he, rfl⟩]
      exact said_of hck (by decide) (fun _ => hd)
    | true =>
      rw [if_neg (by simp), he]
      have hc := check_end hck
      rw [hd] at hc
      exact ⟨fun _ => hc, fun h => absurd rfl h⟩
  | b :: r, p, N, acc, hN, hf, hi, he, hck => by
    have hb0 : (0 : Int) ≤ b.toNat := by omega
    have hb1 : (b.toNat : Int) ≤ 255 := by have := b.toNat_lt; omega
    rw [Cb.run]
    cases hd : p.c.done with
    | true =>
      rw [done_step hi he hd, if_pos (by simp [Cb.put, Core.fail])]
      simp only [Cb.put, Core.fail, List.append_nil]
      exact said_of hck (by decide) (fun h => by cases h)
    | false =>
      have hg := good_step hf hi he ⟨hb0, hb1⟩ hd
      have hf2 := Cb.fit_step hN hf ⟨hb0, hb1⟩
      generalize p.step (b.toNat : Int) = t at hg hf2
      rcases hg with ⟨h1, h2, h3⟩ | ⟨h1, h2, h3⟩
      · rw [if_pos h1, h3, List.append_nil]
        exact said_of hck h1 (fun h => absurd h h2)
      · rw [if_neg (by simp [h1])]
        simp only []
        rw [← List.append_assoc]
        refine run_said r t.2 (N + 1) (acc ++ t.1) (by omega) hf2 h2 h1 ?_
        rw [ckRun_append, hck, hd]
        exact h3

theorem all_said (s : List UInt8) {d : Int} (hd : 1 ≤ d ∧ d ≤ 16) : Said (cborAll s d).1 (cborAll s d).2 := by
  unfold cborAll
  rw [if_neg (by omega)]
  have h := run_said s (Cb.new d) 0 [] (by omega) (Cb.fit_new hd) ⟨fun h => by simp [Cb.new, Core.new] at h, fun h => by simp [Cb.new, Core.new, Core.atKey] at h, fun h => by simp [Cb.new, Core.new, Core.atKey] at h, fun h => by simp [Cb.new, Core.new, Core.atKey] at h, fun h => by simp [Cb.new] at h⟩ rfl rfl
  simpa using h

theorem run_len : ∀ (r : List UInt8) (p : Cb) (N : Int), 0 ≤ N → p.Fit N → (p.run r).1.length ≤ 18 * r.length
  | [], _, _, _, _ => by simp [Cb.run]
  | b :: r, p, N, hN, hf => by
    have hb0 : (0 : Int) ≤ b.toNat := by omega
    have hb1 : (b.toNat : Int) ≤ 255 := by have := b.toNat_lt; omega
    have h1 := len_step hf hb0
    have h2 := run_len r (p.step b.toNat).2 (N + 1) (by omega) (Cb.fit_step hN hf ⟨hb0, hb1⟩)
    rw [Cb.run]
    simp only [List.length_cons]
    split
    · exact Nat.le_trans h1 (by omega)
    · simp only [List.length_append]; omega

theorem all_len (s : List UInt8) (d : Int) : (cborAll s d).1.length ≤ 18 * s.length := by
  unfold cborAll
  split
  · simp
  · exact run_len s _ 0 (by omega) (Cb.fit_new (by omega))
end Go.Tru
