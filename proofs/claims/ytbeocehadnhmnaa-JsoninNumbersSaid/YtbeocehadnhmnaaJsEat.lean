/-
  jsonin.All by way of the Lexer's tokens.
-/
import Derived.Test.YtbeocehadnhmnaaJsModel
import Derived.Test.YtbeocehadnhmnaaLexPlain
namespace Go.Tru

theorem js_value_l (p : Js) (t : Tok) (x : Lex) : ({ p with l := x } : Js).value t = ((p.value t).1, { (p.value t).2 with l := x }) := by
  unfold Js.value Js.fail Js.behind
  simp only []
  repeat' split
  all_goals rfl

theorem js_token_l (p : Js) (t : Tok) (x : Lex) : ({ p with l := x } : Js).token t = ((p.token t).1, { (p.token t).2 with l := x }) := by
  unfold Js.token
  by_cases hA : t.kind = 58 ∧ p.next = 4
  · rw [if_pos hA, if_pos hA]
  rw [if_neg hA, if_neg hA]
  by_cases hB : t.kind = 44 ∧ p.next = 5
  · rw [if_pos hB, if_pos hB]
  rw [if_neg hB, if_neg hB]
  have he : ({ p with l := x } : Js).ends t = p.ends t := rfl
  rw [he]
  by_cases hC : p.ends t = true
  · rw [if_pos hC, if_pos hC]
    unfold Js.behind
    rfl
  rw [if_neg hC, if_neg hC]
  by_cases hD : t.kind = 115 ∧ (p.next = 3 ∨ p.next = 2)
  · rw [if_pos hD, if_pos hD]
  rw [if_neg hD, if_neg hD]
  by_cases hE : p.next ≠ 0 ∧ p.next ≠ 1
  · rw [if_pos hE, if_pos hE]
    rfl
  · rw [if_neg hE, if_neg hE]
    exact js_value_l p t x

theorem js_toks_l (x : Lex) : ∀ (ts : List Tok) (p : Js), ({ p with l := x } : Js).toks ts = ((p.toks ts).1, { (p.toks ts).2 with l := x })
  | [], p => rfl
  | t :: ts, p => by
    unfold Js.toks
    rw [js_token_l]
    simp only []
    split
    · rfl
    · rw [js_toks_l x ts]

theorem js_toks_append : ∀ (a b : List Tok) (p : Js), (p.toks a).2.e = 0 → p.toks (a ++ b) = ((p.toks a).1 ++ ((p.toks a).2.toks b).1, ((p.toks a).2.toks b).2)
  | [], b, p, _ => rfl
  | t :: a, b, p, h => by
    simp only [List.cons_append, Js.toks] at h ⊢
    by_cases he : (p.token t).2.e = 0
    · rw [if_neg (by simp [he])] at h ⊢
      rw [if_neg (by simp [he])]
      rw [js_toks_append a b _ h]
      simp
    · rw [if_pos he] at h
      exact absurd h he

theorem js_toks_pre : ∀ (a : List Tok) {b : List Tok} {p : Js}, p.e = 0 → (p.toks (a ++ b)).2.e = 0 → (p.toks a).2.e = 0
  | [], b, p, hp, _ => hp
  | t :: a, b, p, hp, h => by
    simp only [List.cons_append, Js.toks] at h ⊢
    by_cases he : (p.token t).2.e = 0
    · rw [if_neg (by simp [he])] at h ⊢
      exact js_toks_pre a he h
    · rw [if_pos he] at h
      exact absurd h he

/-- bytes taken, up to the first error -/
def Js.eat (p : Js) : List UInt8 → List Ev × Js
  | [] => ([], p)
  | b :: l => if (p.step b.toNat).2.e ≠ 0 then p.step b.toNat else ((p.step b.toNat).1 ++ ((p.step b.toNat).2.eat l).1, ((p.step b.toNat).2.eat l).2)

theorem js_run_eat : ∀ (l : List UInt8) (p : Js), p.e = 0 → (p.eat l).2.e = 0 → p.run l = ((p.eat l).1 ++ (p.eat l).2.fin.1, (p.eat l).2.fin.2.e)
  | [], p, _, _ => rfl
  | b :: l, p, hp, h => by
    simp only [Js.eat, Js.run] at h ⊢
    by_cases he : (p.step b.toNat).2.e = 0
    · rw [if_neg (by simp [he])] at h ⊢
      rw [if_neg (by simp [he]), js_run_eat l _ he h]
      simp
    · rw [if_pos he] at h
      exact absurd h he

theorem js_step_toks {p : Js} (hp : p.e = 0) {b : Int} {L' : Lex} {ts : List Tok} (hl : p.l.step b = (L', ts)) (he : L'.e = 0) (ht : (p.toks ts).2.e = 0) : p.step b = ((p.toks ts).1, { (p.toks ts).2 with l := L' }) := by
  unfold Js.step
  rw [if_neg (by simp [hp]), hl]
  unfold Js.parts
  simp only []
  rw [js_toks_l]
  simp only []
  rw [if_neg (by simp [ht]), he]
  refine Prod.ext rfl ?_
  generalize (p.toks ts).2 = q at ht
  cases q
  simp only at ht
  subst ht
  rfl

/-- without an error the Parser tells what the tokens tell -/
theorem js_eat_toks : ∀ (l : List UInt8) (p : Js) (L' : Lex) (ts : List Tok), p.e = 0 → p.l.run l = (L', ts) → L'.e = 0 → (p.toks ts).2.e = 0 → p.eat l = ((p.toks ts).1, { (p.toks ts).2 with l := L' })
  | [], p, L', ts, _, hr, _, _ => by
    simp only [Lex.run, Prod.mk.injEq] at hr
    obtain ⟨rfl, rfl⟩ := hr
    rfl
  | b :: l, p, L', ts, hp, hr, he, ht => by
    obtain ⟨⟨L1, t1⟩, h1⟩ : ∃ r, p.l.step b.toNat = r := ⟨_, rfl⟩
    obtain ⟨⟨L2, t2⟩, h2⟩ : ∃ r, L1.run l = r := ⟨_, rfl⟩
    have hr' : p.l.run (b :: l) = (L2, t1 ++ t2) := by
      show (((p.l.step b.toNat).1.run l).1, (p.l.step b.toNat).2 ++ ((p.l.step b.toNat).1.run l).2) = _
      rw [h1]
      simp only []
      rw [h2]
    rw [hr'] at hr
    simp only [Prod.mk.injEq] at hr
    obtain ⟨rfl, rfl⟩ := hr
    have he1 : L1.e = 0 := by
      have := Lex.run_e (L := p.l) (l := [b]) (m := l) (by show (p.l.run (b :: l)).1.e = 0; rw [hr']; exact he)
      simpa [Lex.run, h1] using this
    have ht1 := js_toks_pre t1 hp ht
    have hst := js_step_toks hp h1 he1 ht1
    have hap := js_toks_append t1 t2 p ht1
    rw [hap] at ht
    simp only at ht
    have ih := js_eat_toks l { (p.toks t1).2 with l := L1 } L2 t2 ht1 h2 he (by rw [js_toks_l L1 t2 (p.toks t1).2]; exact ht)
    simp only [Js.eat]
    rw [hst]
    simp only []
    rw [if_neg (by simp [ht1]), ih, js_toks_l L1 t2 (p.toks t1).2, hap]

/-- .. all of it: bytes whose tokens end the document, and the Lexer at its rest -/
theorem jsAll_toks {s : List UInt8} {d : Int} (hd : 1 ≤ d ∧ d ≤ 16) {L' : Lex} {ts : List Tok} (hr : Lex.new.run s = (L', ts)) (he : L'.e = 0) {tf : List Tok} {L2 : Lex} (hf : L'.fin = (L2, tf)) (he2 : L2.e = 0)
    (ht : ((Js.new d).toks (ts ++ tf)).2.e = 0) (hn : ((Js.new d).toks (ts ++ tf)).2.next = 6) : jsAll s d = (((Js.new d).toks (ts ++ tf)).1, 0) := by
  unfold jsAll
  rw [if_neg (by omega)]
  have ht1 := js_toks_pre ts rfl ht
  have hap := js_toks_append ts tf (Js.new d) ht1
  have hE := js_eat_toks s (Js.new d) L' ts rfl hr he ht1
  rw [js_run_eat s _ rfl (by rw [hE]; exact ht1), hE]
  rw [hap] at ht hn ⊢
  simp only at ht hn ⊢
  generalize (Js.new d).toks ts = q at ht hn ht1 ⊢
  have hpz : Js.parts { q.2 with l := L2 } tf L2.e = ((q.2.toks tf).1, { (q.2.toks tf).2 with l := L2, e := 0 }) := by
    unfold Js.parts
    rw [js_toks_l L2 tf q.2]
    simp only []
    rw [if_neg (by simp [ht]), he2]
  have hfin : Js.fin { q.2 with l := L' } = ((q.2.toks tf).1, { (q.2.toks tf).2 with l := L2, e := 0 }) := by
    unfold Js.fin
    rw [if_neg (by simp [ht1])]
    simp only [hf]
    have hpz' : Js.parts { l := L2, depth := q.2.depth, maps := q.2.maps, next := q.2.next, e := q.2.e } tf L2.e = ((q.2.toks tf).1, { (q.2.toks tf).2 with l := L2, e := 0 }) := hpz
    rw [hpz']
    simp only [hn]
    rw [if_neg (by simp)]
  rw [hfin]

end Go.Tru
