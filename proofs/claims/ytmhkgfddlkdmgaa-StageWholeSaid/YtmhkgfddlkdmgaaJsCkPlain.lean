/-
  What jsonin's Parser tells is what event.Check takes.
-/
import Derived.Test.YtmhkgfddlkdmgaaJsModel
import Derived.Test.YtmhkgfddlkdmgaaCheck
namespace Go.Tru

/-- the Parser's state and Check's -/
def JRel (p : Js) (st : List Cont) (d : Bool) : Prop :=
  st.map Cont.pairs = p.maps ∧ (∀ c ∈ st, c.count = -1) ∧ d = decide (p.next = 6) ∧
  match st with
  | [] => p.next = 6 ∨ p.next = 0
  | c :: r => (∀ x ∈ r, x.pairs = true → x.parts % 2 = 0) ∧
    ((c.pairs = true ∧ (((p.next = 2 ∨ p.next = 3 ∨ p.next = 5) ∧ c.parts % 2 = 0) ∨ ((p.next = 4 ∨ p.next = 0) ∧ c.parts % 2 = 1))) ∨ (c.pairs = false ∧ (p.next = 0 ∨ p.next = 1 ∨ p.next = 5)))

/-- Check's step of a part of no container -/
theorem ck_leaf {q : Ev} (ht : tidy q = some q) (h7 : q.kind ≠ 7) (ho : isOpen q = false) (st : List Cont) (hk : ∀ c r, st = c :: r → c.pairs = true → c.parts % 2 = 0 → q.kind = 3) :
    ckStep st false q = match st with
      | [] => .ok ([], true)
      | c :: r => .ok ({ c with parts := c.parts + 1 } :: r, false) := by
  unfold ckStep
  rw [ht]
  cases st with
  | nil => simp [h7, ho]
  | cons c r =>
    have hk' := hk c r rfl
    have : (c.pairs && decide (c.parts % 2 = 0) && decide (q.kind ≠ 3)) = false := by
      cases hc : c.pairs
      · rfl
      · by_cases hp : c.parts % 2 = 0
        · simp [hk' hc hp]
        · simp [hp]
    simp only [Bool.false_eq_true, if_false, h7, this, ho]

theorem jrel_behind {p : Js} {st : List Cont} (h1 : st.map Cont.pairs = p.maps) (h2 : ∀ c ∈ st, c.count = -1) (h3 : ∀ x ∈ st, x.pairs = true → x.parts % 2 = 0) : JRel p.behind st st.isEmpty := by
  unfold Js.behind
  cases st with
  | nil =>
    have hm : p.maps = [] := by rw [← h1]; rfl
    rw [if_pos hm]
    exact ⟨h1, h2, rfl, Or.inl rfl⟩
  | cons c r =>
    have hm : ¬ p.maps = [] := by rw [← h1]; simp
    rw [if_neg hm]
    refine ⟨h1, h2, rfl, fun x hx => h3 x (List.mem_cons_of_mem _ hx), ?_⟩
    cases hc : c.pairs
    · exact Or.inr ⟨rfl, Or.inr (Or.inr rfl)⟩
    · exact Or.inl ⟨rfl, Or.inl ⟨Or.inr (Or.inr rfl), h3 c (List.mem_cons_self ..) hc⟩⟩

/-- a leaf where a value may be -/
theorem jrel_leaf {p : Js} {st : List Cont} {d : Bool} (h : JRel p st d) (hn : p.next = 0 ∨ p.next = 1) {q : Ev} (ht : tidy q = some q) (h7 : q.kind ≠ 7) (ho : isOpen q = false) :
    ∃ st' d', ckStep st d q = .ok (st', d') ∧ JRel p.behind st' d' := by
  obtain ⟨h1, h2, h3, h4⟩ := h
  have hd : d = false := by rw [h3]; exact decide_eq_false (by omega)
  rw [hd]
  have hk : ∀ c r, st = c :: r → c.pairs = true → c.parts % 2 = 0 → q.kind = 3 := by
    rintro c r rfl hp he
    simp only [hp] at h4
    rcases h4.2 with ⟨_, ⟨h, _⟩ | ⟨_, h⟩⟩ | ⟨h, _⟩ <;> first | omega | cases h
  rw [ck_leaf ht h7 ho st hk]
  cases st with
  | nil => exact ⟨_, _, rfl, jrel_behind h1 h2 (by simp)⟩
  | cons c r =>
    refine ⟨_, _, rfl, jrel_behind (st := { c with parts := c.parts + 1 } :: r) h1 ?_ ?_⟩
    · intro x hx
      rcases List.mem_cons.1 hx with rfl | hx
      · exact h2 c (List.mem_cons_self ..)
      · exact h2 x (List.mem_cons_of_mem _ hx)
    · intro x hx hp
      rcases List.mem_cons.1 hx with rfl | hx
      · simp only at hp ⊢
        rcases h4.2 with ⟨_, ⟨h, _⟩ | ⟨_, h⟩⟩ | ⟨h, _⟩
        · omega
        · omega
        · rw [hp] at h; cases h
      · exact h4.1 x hx hp

/-- a container's beginning where a value may be -/
theorem jrel_open {p : Js} {st : List Cont} {d : Bool} (h : JRel p st d) (hn : p.next = 0 ∨ p.next = 1) (hf : p.Fit) (hl : ¬ (p.maps.length : Int) = p.depth) (m : Bool) :
    ∃ st' d', ckStep st d (if m = true then evMap (-1) else evArr (-1)) = .ok (st', d') ∧ JRel { p with maps := m :: p.maps, next := if m = true then 2 else 1 } st' d' := by
  obtain ⟨h1, h2, h3, h4⟩ := h
  have hd : d = false := by rw [h3]; exact decide_eq_false (by omega)
  rw [hd]
  obtain ⟨q, hq⟩ : ∃ q, (if m = true then evMap (-1) else evArr (-1)) = q := ⟨_, rfl⟩
  have ht : tidy q = some q := by subst hq; cases m <;> rfl
  have h7 : q.kind ≠ 7 := by subst hq; cases m <;> decide
  have ho : isOpen q = true := by subst hq; cases m <;> rfl
  have h3' : q.kind ≠ 3 := by subst hq; cases m <;> decide
  have hof : Cont.of q = ⟨m, -1, 0⟩ := by subst hq; cases m <;> rfl
  rw [hq]
  have hnew : ∀ r : List Cont, r.map Cont.pairs = p.maps → (∀ c ∈ r, c.count = -1) → (∀ x ∈ r, x.pairs = true → x.parts % 2 = 0) → JRel { p with maps := m :: p.maps, next := if m = true then 2 else 1 } (Cont.of q :: r) false := by
    intro r a b c
    rw [hof]
    refine ⟨by simp [a], ?_, ?_, c, ?_⟩
    · intro x hx
      rcases List.mem_cons.1 hx with rfl | hx
      · rfl
      · exact b x hx
    · cases m <;> rfl
    · cases m
      · exact Or.inr ⟨rfl, Or.inr (Or.inl rfl)⟩
      · exact Or.inl ⟨rfl, Or.inl ⟨Or.inl rfl, rfl⟩⟩
  unfold ckStep
  rw [ht]
  cases st with
  | nil =>
    simp only [Bool.false_eq_true, if_false, h7, ho, if_true]
    exact ⟨_, _, rfl, hnew [] h1 (by simp) (by simp)⟩
  | cons c r =>
    have hk : (c.pairs && decide (c.parts % 2 = 0) && decide (q.kind ≠ 3)) = false := by
      rcases h4.2 with ⟨_, ⟨h, _⟩ | ⟨_, h⟩⟩ | ⟨h, _⟩
      · omega
      · simp [h]
      · simp [h]
    have h16 : ¬ r.length + 1 = 16 := by
      have := hf.maps
      have := hf.depth
      have hlen : p.maps.length = r.length + 1 := by rw [← h1]; simp
      omega
    simp only [Bool.false_eq_true, if_false, h7, ho, if_true, hk, h16]
    refine ⟨_, _, rfl, hnew ({ c with parts := c.parts + 1 } :: r) h1 ?_ ?_⟩
    · intro x hx
      rcases List.mem_cons.1 hx with rfl | hx
      · exact h2 c (List.mem_cons_self ..)
      · exact h2 x (List.mem_cons_of_mem _ hx)
    · intro x hx hp
      rcases List.mem_cons.1 hx with rfl | hx
      · simp only at hp ⊢
        rcases h4.2 with ⟨_, ⟨h, _⟩ | ⟨_, h⟩⟩ | ⟨h, _⟩
        · omega
        · omega
        · rw [hp] at h; cases h
      · exact h4.1 x hx hp

/-- a part, or none, of a token -/
def Took (p' : Js) (st : List Cont) (d : Bool) : Option Ev → Prop
  | none => JRel p' st d
  | some q => ∃ st' d', ckStep st d q = .ok (st', d') ∧ JRel p' st' d'

theorem jrel_value {p : Js} {st : List Cont} {d : Bool} (h : JRel p st d) (hf : p.Fit) (hn : p.next = 0 ∨ p.next = 1) (t : Tok) (he : (p.value t).2.e = 0) (_hp : p.e = 0) : Took (p.value t).2 st d (p.value t).1 := by
  unfold Js.value at he ⊢
  split at he
  · rename_i hk
    rw [if_pos hk]
    split at he
    · simp [Js.fail] at he
    · rename_i hl
      rw [if_neg hl]
      have := jrel_open h hn hf hl (decide (t.kind = 123))
      simpa only [Took, decide_eq_true_eq] using this
  rename_i hk
  rw [if_neg hk]
  split at he
  · rename_i hk
    rw [if_pos hk]
    exact jrel_leaf h hn (q := evText t.text) rfl (show (3 : Int) ≠ 7 by decide) rfl
  rename_i hk
  rw [if_neg hk]
  split at he
  · rename_i hk
    rw [if_pos hk]
    exact jrel_leaf h hn (q := evInt t.neg t.mag) rfl (show (2 : Int) ≠ 7 by decide) rfl
  rename_i hk
  rw [if_neg hk]
  split at he
  · rename_i hk
    rw [if_pos hk]
    exact jrel_leaf h hn (q := evBool (decide (t.kind = 116))) rfl (show (1 : Int) ≠ 7 by decide) rfl
  rename_i hk
  rw [if_neg hk]
  split at he
  · rename_i hk
    rw [if_pos hk]
    exact jrel_leaf h hn (q := evNull) rfl (by decide) rfl
  · simp [Js.fail] at he

theorem jrel_token {p : Js} {st : List Cont} {d : Bool} (h : JRel p st d) (hf : p.Fit) (t : Tok) (he : (p.token t).2.e = 0) (hp : p.e = 0) : Took (p.token t).2 st d (p.token t).1 := by
  have h0 := h
  obtain ⟨h1, h2, h3, h4⟩ := h
  unfold Js.token at he ⊢
  split at he
  · rename_i hk
    rw [if_pos hk]
    refine ⟨h1, h2, by rw [h3]; simp [hk.2], ?_⟩
    cases st with
    | nil => exact Or.inr rfl
    | cons c r =>
      refine ⟨h4.1, ?_⟩
      rcases h4.2 with ⟨a, ⟨b, _⟩ | ⟨_, b⟩⟩ | ⟨a, b⟩
      · omega
      · exact Or.inl ⟨a, Or.inr ⟨Or.inr rfl, b⟩⟩
      · exact Or.inr ⟨a, Or.inl rfl⟩
  rename_i hA
  rw [if_neg hA]
  split at he
  · rename_i hk
    rw [if_pos hk]
    cases st with
    | nil => exact absurd h1.symm (hf.more hk.2)
    | cons c r =>
      have hh : p.maps.head? = some c.pairs := by rw [← h1]; rfl
      refine ⟨h1, h2, ?_, h4.1, ?_⟩
      · rw [h3, hh]; cases c.pairs <;> simp [hk.2]
      · rw [hh]
        rcases h4.2 with ⟨a, ⟨_, b⟩ | ⟨b, _⟩⟩ | ⟨a, b⟩
        · rw [a]; exact Or.inl ⟨rfl, Or.inl ⟨Or.inr (Or.inl rfl), b⟩⟩
        · omega
        · rw [a]; exact Or.inr ⟨rfl, Or.inl rfl⟩
  rename_i hB
  rw [if_neg hB]
  split at he
  · rename_i hk
    rw [if_pos hk]
    cases st with
    | nil =>
      have : p.maps = [] := h1.symm
      simp [Js.ends, this] at hk
    | cons c r =>
      have hm : p.maps = c.pairs :: r.map Cont.pairs := h1.symm
      unfold Js.ends at hk
      rw [hm] at hk
      have hk := of_decide_eq_true hk
      have hd : d = false := by rw [h3]; exact decide_eq_false (by omega)
      have hfull : c.full = true := by
        unfold Cont.full
        have hc : c.count < 0 := by rw [h2 c (List.mem_cons_self ..)]; decide
        rw [if_pos hc]
        rcases hk with ⟨_, hp, _⟩ | ⟨_, hp, hn⟩
        · simp [hp]
        · rcases h4.2 with ⟨_, ⟨_, b⟩ | ⟨b, _⟩⟩ | ⟨a, _⟩
          · simp [b]
          · omega
          · rw [hp] at a; cases a
      refine ⟨r, r.isEmpty, ?_, ?_⟩
      · unfold ckStep
        rw [show tidy evEnd = some evEnd from rfl, hd]
        simp [hfull, evEnd]
      · exact jrel_behind (p := { p with maps := p.maps.tail }) (by rw [hm]; rfl) (fun x hx => h2 x (List.mem_cons_of_mem _ hx)) h4.1
  rename_i hC
  rw [if_neg hC]
  split at he
  · rename_i hk
    rw [if_pos hk]
    have hd : d = false := by rw [h3]; exact decide_eq_false (by omega)
    cases st with
    | nil => have : p.next = 6 ∨ p.next = 0 := h4; omega
    | cons c r =>
      refine ⟨{ c with parts := c.parts + 1 } :: r, false, ?_, ?_⟩
      · rw [hd, ck_leaf (q := evText t.text) rfl (show (3 : Int) ≠ 7 by decide) rfl (c :: r) (fun _ _ _ _ _ => rfl)]
      · refine ⟨h1, ?_, rfl, h4.1, ?_⟩
        · intro x hx
          rcases List.mem_cons.1 hx with rfl | hx
          · exact h2 c (List.mem_cons_self ..)
          · exact h2 x (List.mem_cons_of_mem _ hx)
        · rcases h4.2 with ⟨a, ⟨_, b⟩ | ⟨b, _⟩⟩ | ⟨a, b⟩
          · exact Or.inl ⟨a, Or.inr ⟨Or.inl rfl, by simp only; omega⟩⟩
          · omega
          · omega
  rename_i hD
  rw [if_neg hD]
  split at he
  · simp [Js.fail] at he
  · rename_i hE
    rw [if_neg hE]
    exact jrel_value h0 hf (by omega) t he hp

/-- the state behind a list of tokens, a byte, the end -/
def Took' (r : List Ev × Js) (st : List Cont) (d : Bool) : Prop := ∃ st' d', ckRun st d r.1 = .ok (st', d') ∧ (r.2.e = 0 → JRel r.2 st' d')

theorem jrel_l {p : Js} {st : List Cont} {d : Bool} (h : JRel p st d) (l : Lex) (e : Int) : JRel { p with l := l, e := e } st d := h

theorem jrel_toks : ∀ (l : List Tok) {p : Js} {st : List Cont} {d : Bool}, JRel p st d → p.Fit → p.e = 0 → Took' (p.toks l) st d
  | [], p, st, d, h, _, _ => ⟨st, d, rfl, fun _ => h⟩
  | t :: l, p, st, d, h, hf, hp => by
    unfold Js.toks
    by_cases he : (p.token t).2.e = 0
    · rw [if_neg (by simp [he])]
      have ht := jrel_token h hf t he hp
      have hf2 := Js.fit_token hf t
      cases hq : (p.token t).1 with
      | none =>
        rw [hq] at ht
        exact jrel_toks l ht hf2 he
      | some q =>
        rw [hq] at ht
        obtain ⟨st1, d1, h1, h2⟩ := ht
        obtain ⟨st2, d2, h3, h4⟩ := jrel_toks l h2 hf2 he
        refine ⟨st2, d2, ?_, h4⟩
        simp only [Option.toList, List.cons_append, List.nil_append, ckRun, h1]
        exact h3
    · rw [if_pos he]
      exact ⟨st, d, rfl, fun h0 => absurd h0 he⟩

theorem jrel_parts {p : Js} {st : List Cont} {d : Bool} (h : JRel p st d) (hf : p.Fit) (hp : p.e = 0) (l : List Tok) (e : Int) : Took' (p.parts l e) st d := by
  have := jrel_toks l h hf hp
  unfold Js.parts
  split
  · exact this
  · rename_i h0
    obtain ⟨a, b, c, c'⟩ := this
    exact ⟨a, b, c, fun _ => c' (Decidable.not_not.1 h0)⟩

theorem jrel_step {p : Js} {st : List Cont} {d : Bool} (h : JRel p st d) (hf : p.Fit) (hp : p.e = 0) (b : Int) : Took' (p.step b) st d := by
  unfold Js.step
  rw [if_neg (by simp [hp])]
  exact jrel_parts (p := { p with l := (p.l.step b).1 }) h ⟨⟨Lex.fit_step hf.l.1 hf.l.2 b, Lex.mid_step hf.l.2 b⟩, hf.depth, hf.maps, hf.next, hf.more⟩ hp _ _

theorem jrel_fin {p : Js} {st : List Cont} {d : Bool} (h : JRel p st d) (hf : p.Fit) (hp : p.e = 0) (hl : p.l.fin.1.Fit ∧ p.l.fin.1.Mid) : ∃ st' d', ckRun st d p.fin.1 = .ok (st', d') ∧ (p.fin.2.e = 0 → d' = true) := by
  unfold Js.fin
  rw [if_neg (by simp [hp])]
  obtain ⟨a, b, c, c'⟩ := jrel_parts (p := { p with l := p.l.fin.1 }) h ⟨hl, hf.depth, hf.maps, hf.next, hf.more⟩ hp p.l.fin.2 p.l.fin.1.e
  simp only []
  split
  · exact ⟨a, b, c, fun h => by simp at h⟩
  · rename_i h0
    refine ⟨a, b, c, fun he => ?_⟩
    have := (c' he).2.2.1
    rw [this]
    exact decide_eq_true (Decidable.not_not.1 (fun hh => h0 ⟨he, hh⟩))

theorem js_fin_fit {L : Lex} (h : L.Fit ∧ L.Mid) : L.fin.1.Fit ∧ L.fin.1.Mid := by
  unfold Lex.fin
  repeat' split
  · exact h
  · refine ⟨Lex.fit_ended h.1, fun he => ?_⟩
    rw [Lex.ended_s]
    rename_i h1 _
    exact h.2 (Decidable.not_not.1 (fun hh => h1 (Or.inl hh)))
  · exact ⟨⟨h.1.r, h.1.v, h.1.s, h.1.rest⟩, fun he => by simp at he⟩

theorem jrel_run : ∀ (l : List UInt8) {p : Js} {st : List Cont} {d : Bool}, JRel p st d → p.Fit → p.e = 0 → ∃ st' d', ckRun st d (p.run l).1 = .ok (st', d') ∧ ((p.run l).2 = 0 → d' = true)
  | [], p, st, d, h, hf, hp => jrel_fin h hf hp (js_fin_fit hf.l)
  | b :: l, p, st, d, h, hf, hp => by
    obtain ⟨a, b', c, c'⟩ := jrel_step h hf hp b.toNat
    unfold Js.run
    by_cases he : (p.step b.toNat).2.e = 0
    · rw [if_neg (by simp [he])]
      obtain ⟨a2, b2, c2, c3⟩ := jrel_run l (c' he) (Js.fit_step hf _) he
      exact ⟨a2, b2, by simp only [ckRun_append, c]; exact c2, c3⟩
    · rw [if_pos he]
      exact ⟨a, b', c, fun h => absurd h he⟩

/-- what Check says of all parts -/
theorem jsAll_said (s : List UInt8) {d : Int} (hd : 1 ≤ d ∧ d ≤ 16) : ((jsAll s d).2 = 0 → check (jsAll s d).1 = 0) ∧ (check (jsAll s d).1 = 3 ∨ check (jsAll s d).1 = 0) := by
  unfold jsAll
  rw [if_neg (by omega)]
  obtain ⟨st, d', h1, h2⟩ := jrel_run s (p := Js.new d) (st := []) (d := false) ⟨rfl, by simp, rfl, Or.inr rfl⟩ (Js.fit_new hd) rfl
  have := check_end h1
  refine ⟨fun h => by rw [this, h2 h]; rfl, ?_⟩
  rw [this]
  cases d' <;> simp

theorem Js.len_run : ∀ (l : List UInt8) (p : Js), (p.run l).1.length ≤ 2 * l.length + 1
  | [], p => by have := Js.len_fin p; simp only [Js.run, List.length_nil]; omega
  | b :: l, p => by
    have h1 := Js.len_step p b.toNat
    have h2 := Js.len_run l (p.step b.toNat).2
    unfold Js.run
    split
    · simp only [List.length_cons]; omega
    · simp only [List.length_append, List.length_cons]; omega

theorem jsAll_len (s : List UInt8) (d : Int) : (jsAll s d).1.length ≤ 2 * s.length + 1 := by
  unfold jsAll
  split
  · simp
  · exact Js.len_run s _

end Go.Tru
