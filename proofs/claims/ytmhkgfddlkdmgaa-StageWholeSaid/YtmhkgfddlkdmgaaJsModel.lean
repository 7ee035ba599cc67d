/-
  jsonin's Parser as plain data.
-/
import Derived.Test.YtmhkgfddlkdmgaaEv
import Derived.Test.YtmhkgfddlkdmgaaLexModel
namespace Go.Tru

/-- maps: the containers that are open, the innermost first: is it a map? -/
structure Js where
  l : Lex
  depth : Int
  maps : List Bool
  next : Int
  e : Int

def Js.new (d : Int) : Js := ⟨Lex.new, d, [], 0, 0⟩

/-- behind a value -/
def Js.behind (p : Js) : Js := { p with next := if p.maps = [] then 6 else 5 }
def Js.fail (p : Js) (e : Int) : Option Ev × Js := (none, { p with e := e })

/-- the token of a value -/
def Js.value (p : Js) (t : Tok) : Option Ev × Js :=
  if t.kind = 91 ∨ t.kind = 123 then
    if (p.maps.length : Int) = p.depth then p.fail 4
    else (some (if t.kind = 123 then evMap (-1) else evArr (-1)), { p with maps := decide (t.kind = 123) :: p.maps, next := if t.kind = 123 then 2 else 1 })
  else if t.kind = 115 then (some (evText t.text), p.behind)
  else if t.kind = 110 then (some (evInt t.neg t.mag), p.behind)
  else if t.kind = 116 ∨ t.kind = 102 then (some (evBool (decide (t.kind = 116))), p.behind)
  else if t.kind = 48 then (some evNull, p.behind)
  else p.fail 2

/-- may the container end? -/
def Js.ends (p : Js) (t : Tok) : Bool :=
  match p.maps with
  | [] => false
  | m :: _ => decide (t.kind = 93 ∧ m = false ∧ (p.next = 1 ∨ p.next = 5) ∨ t.kind = 125 ∧ m = true ∧ (p.next = 2 ∨ p.next = 5))

def Js.token (p : Js) (t : Tok) : Option Ev × Js :=
  if t.kind = 58 ∧ p.next = 4 then (none, { p with next := 0 })
  else if t.kind = 44 ∧ p.next = 5 then (none, { p with next := if p.maps.head? = some true then 3 else 0 })
  else if p.ends t = true then (some evEnd, Js.behind { p with maps := p.maps.tail })
  else if t.kind = 115 ∧ (p.next = 3 ∨ p.next = 2) then (some (evText t.text), { p with next := 4 })
  else if p.next ≠ 0 ∧ p.next ≠ 1 then p.fail 2
  else p.value t

/-- tokens, up to the first error -/
def Js.toks (p : Js) : List Tok → List Ev × Js
  | [] => ([], p)
  | t :: l => if (p.token t).2.e ≠ 0 then ([], (p.token t).2) else ((p.token t).1.toList ++ ((p.token t).2.toks l).1, ((p.token t).2.toks l).2)

/-- .. and the Lexer's error behind them -/
def Js.parts (p : Js) (l : List Tok) (e : Int) : List Ev × Js :=
  if (p.toks l).2.e ≠ 0 then p.toks l else ((p.toks l).1, { (p.toks l).2 with e := e })

def Js.step (p : Js) (b : Int) : List Ev × Js :=
  if p.e ≠ 0 then ([], p) else Js.parts { p with l := (p.l.step b).1 } (p.l.step b).2 (p.l.step b).1.e

def Js.fin (p : Js) : List Ev × Js :=
  if p.e ≠ 0 then ([], p)
  else
    let r := Js.parts { p with l := p.l.fin.1 } p.l.fin.2 p.l.fin.1.e
    if r.2.e = 0 ∧ r.2.next ≠ 6 then (r.1, { r.2 with e := 3 }) else r

/-- all bytes, up to the first error: the parts, the error -/
def Js.run (p : Js) : List UInt8 → List Ev × Int
  | [] => (p.fin.1, p.fin.2.e)
  | b :: l => if (p.step b.toNat).2.e ≠ 0 then ((p.step b.toNat).1, (p.step b.toNat).2.e) else ((p.step b.toNat).1 ++ ((p.step b.toNat).2.run l).1, ((p.step b.toNat).2.run l).2)

def jsAll (s : List UInt8) (d : Int) : List Ev × Int := if d < 1 ∨ 16 < d then ([], 1) else (Js.new d).run s

/-- the bounds that a Parser keeps -/
structure Js.Fit (p : Js) : Prop where
  l : p.l.Fit ∧ p.l.Mid
  depth : 1 ≤ p.depth ∧ p.depth ≤ 16
  maps : (p.maps.length : Int) ≤ p.depth
  next : 0 ≤ p.next ∧ p.next ≤ 6
  more : p.next = 5 → p.maps ≠ []

theorem Js.fit_new {d : Int} (h : 1 ≤ d ∧ d ≤ 16) : (Js.new d).Fit := ⟨⟨Lex.fit_new, Lex.mid_new⟩, h, by simp [Js.new]; omega, by simp [Js.new], by simp [Js.new]⟩

theorem Js.fit_behind' {p : Js} (h1 : p.l.Fit ∧ p.l.Mid) (h2 : 1 ≤ p.depth ∧ p.depth ≤ 16) (h3 : (p.maps.length : Int) ≤ p.depth) : p.behind.Fit := by
  unfold Js.behind
  refine ⟨h1, h2, h3, ?_, ?_⟩
  · simp only []; split <;> omega
  · intro h5
    simp only [] at h5 ⊢
    split at h5
    · omega
    · assumption

theorem Js.fit_behind {p : Js} (h : p.Fit) : p.behind.Fit := Js.fit_behind' h.l h.depth h.maps

theorem Js.fit_fail {p : Js} (h : p.Fit) (e : Int) : (p.fail e).2.Fit := ⟨h.l, h.depth, h.maps, h.next, h.more⟩

theorem Js.fit_value {p : Js} (h : p.Fit) (t : Tok) : (p.value t).2.Fit := by
  unfold Js.value
  split
  · split
    · exact Js.fit_fail h _
    · rename_i hne
      refine ⟨h.l, h.depth, ?_, ?_, ?_⟩
      · have := h.maps
        simp only [List.length_cons]
        omega
      · simp only []; split <;> omega
      · intro h5; simp
  split
  · exact Js.fit_behind h
  split
  · exact Js.fit_behind h
  split
  · exact Js.fit_behind h
  split
  · exact Js.fit_behind h
  · exact Js.fit_fail h _

theorem Js.fit_token {p : Js} (h : p.Fit) (t : Tok) : (p.token t).2.Fit := by
  unfold Js.token
  split
  · exact ⟨h.l, h.depth, h.maps, by simp, by simp⟩
  split
  · refine ⟨h.l, h.depth, h.maps, ?_, ?_⟩
    · simp only []; split <;> omega
    · intro h5; simp only [] at h5; split at h5 <;> omega
  split
  · refine Js.fit_behind' h.l h.depth ?_
    have := h.maps
    simp only [List.length_tail]
    omega
  split
  · exact ⟨h.l, h.depth, h.maps, by simp, by simp⟩
  split
  · exact Js.fit_fail h _
  · exact Js.fit_value h t

theorem Js.fit_toks {p : Js} (h : p.Fit) : ∀ l, (p.toks l).2.Fit := by
  intro l
  induction l generalizing p with
  | nil => exact h
  | cons t l ih =>
    unfold Js.toks
    split
    · exact Js.fit_token h t
    · exact ih (Js.fit_token h t)

theorem Js.fit_parts {p : Js} (h : p.Fit) (l : List Tok) (e : Int) : (p.parts l e).2.Fit := by
  have h2 := Js.fit_toks h l
  unfold Js.parts
  split
  · exact h2
  · exact ⟨h2.l, h2.depth, h2.maps, h2.next, h2.more⟩

theorem Js.fit_step {p : Js} (h : p.Fit) (b : Int) : (p.step b).2.Fit := by
  unfold Js.step
  split
  · exact h
  · exact Js.fit_parts (p := { p with l := (p.l.step b).1 }) ⟨⟨Lex.fit_step h.l.1 h.l.2 b, Lex.mid_step h.l.2 b⟩, h.depth, h.maps, h.next, h.more⟩ _ _

/-! ### how many parts; they are clear -/

theorem Js.len_toks (p : Js) : ∀ l : List Tok, (p.toks l).1.length ≤ l.length := by
  intro l
  induction l generalizing p with
  | nil => exact Nat.le_refl _
  | cons t l ih =>
    unfold Js.toks
    split
    · exact Nat.zero_le _
    · have := ih (p.token t).2
      simp only [List.length_append, List.length_cons]
      cases (p.token t).1 <;> simp <;> omega

theorem Js.len_parts (p : Js) (l : List Tok) (e : Int) : (p.parts l e).1.length ≤ l.length := by
  unfold Js.parts
  split <;> exact Js.len_toks p l

theorem Lex.len_between (L : Lex) (x : Int) : (L.between x).2.length ≤ 1 := by
  unfold Lex.between
  repeat' split
  all_goals simp

theorem Lex.len_ended (L : Lex) : L.ended.2.length ≤ 1 := by unfold Lex.ended; split <;> simp

theorem Lex.len_step (L : Lex) (x : Int) : (L.step x).2.length ≤ 2 := by
  unfold Lex.step
  split
  · simp
  · simp only []
    split
    · simp
    · unfold Lex.turn
      split
      · unfold Lex.text; split <;> simp
      split
      · unfold Lex.word
        repeat' split
        all_goals simp
      split
      · unfold Lex.number
        have h1 := Lex.len_ended { L with n := L.n.after x, e := 0 }
        have h2 := Lex.len_between (Lex.ended { L with n := L.n.after x, e := 0 }).1 x
        repeat' split
        · simp
        · simp
        · simp only [List.length_append]; omega
      · have := Lex.len_between L x; omega

theorem Lex.len_fin (L : Lex) : L.fin.2.length ≤ 1 := by
  unfold Lex.fin
  repeat' split
  · simp
  · exact Lex.len_ended L
  · simp

theorem Js.len_step (p : Js) (b : Int) : (p.step b).1.length ≤ 2 := by
  unfold Js.step
  split
  · simp
  · exact Nat.le_trans (Js.len_parts _ _ _) (Lex.len_step p.l b)

theorem Js.len_fin (p : Js) : p.fin.1.length ≤ 1 := by
  unfold Js.fin
  split
  · simp
  · have := Js.len_parts { p with l := p.l.fin.1 } p.l.fin.2 p.l.fin.1.e
    have h2 := Lex.len_fin p.l
    simp only []
    split <;> exact Nat.le_trans this h2

theorem clear_text (s : ByteArray) : Clear (evText s) := Or.inr (Or.inr (Or.inr (Or.inl ⟨_, rfl⟩)))
theorem clear_end : Clear evEnd := Or.inr (Or.inr (Or.inr (Or.inr (Or.inr (Or.inr (Or.inr rfl))))))

theorem Js.clear_value {p : Js} {t : Tok} : ∀ q, (p.value t).1 = some q → Clear q := by
  intro q hq
  unfold Js.value at hq
  split at hq
  · split at hq
    · cases hq
    · simp only [Option.some.injEq] at hq
      subst hq
      split
      · exact Or.inr (Or.inr (Or.inr (Or.inr (Or.inr (Or.inr (Or.inl ⟨-1, by omega, rfl⟩))))))
      · exact Or.inr (Or.inr (Or.inr (Or.inr (Or.inr (Or.inl ⟨-1, by omega, rfl⟩)))))
  split at hq
  · simp only [Option.some.injEq] at hq; subst hq; exact clear_text _
  split at hq
  · simp only [Option.some.injEq] at hq; subst hq; exact Or.inr (Or.inr (Or.inl ⟨_, _, rfl⟩))
  split at hq
  · simp only [Option.some.injEq] at hq; subst hq; exact Or.inr (Or.inl ⟨_, rfl⟩)
  split at hq
  · simp only [Option.some.injEq] at hq; subst hq; exact Or.inl rfl
  · cases hq

theorem Js.clear_token {p : Js} {t : Tok} : ∀ q, (p.token t).1 = some q → Clear q := by
  intro q hq
  unfold Js.token at hq
  split at hq
  · cases hq
  split at hq
  · cases hq
  split at hq
  · simp only [Option.some.injEq] at hq; subst hq; exact clear_end
  split at hq
  · simp only [Option.some.injEq] at hq; subst hq; exact clear_text _
  split at hq
  · cases hq
  · exact Js.clear_value q hq

theorem Js.clear_toks (p : Js) : ∀ l : List Tok, ∀ q ∈ (p.toks l).1, Clear q := by
  intro l
  induction l generalizing p with
  | nil => intro q hq; cases hq
  | cons t l ih =>
    intro q hq
    unfold Js.toks at hq
    split at hq
    · cases hq
    · simp only [List.mem_append] at hq
      rcases hq with hq | hq
      · exact Js.clear_token (p := p) (t := t) q (by simpa using hq)
      · exact ih _ q hq

theorem Js.clear_parts (p : Js) (l : List Tok) (e : Int) : ∀ q ∈ (p.parts l e).1, Clear q := by
  unfold Js.parts
  split <;> exact Js.clear_toks p l

theorem Js.clear_step (p : Js) (b : Int) : ∀ q ∈ (p.step b).1, Clear q := by
  unfold Js.step
  split
  · intro q hq; cases hq
  · exact Js.clear_parts _ _ _

theorem Js.clear_fin (p : Js) : ∀ q ∈ p.fin.1, Clear q := by
  unfold Js.fin
  split
  · intro q hq; cases hq
  · simp only []
    split <;> exact Js.clear_parts _ _ _

end Go.Tru
