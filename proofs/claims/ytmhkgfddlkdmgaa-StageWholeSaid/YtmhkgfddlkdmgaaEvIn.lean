/-
  A slice of api.Ev in memory.
-/
import Derived.Test.YtmhkgfddlkdmgaaEv
namespace Go.Tru
/-! ### a slice of parts -/

/-- The slice value (address o, length n, capacity c) holds these parts. -/
structure EvsIn (w : World) (o : Option Addr) (n c : Nat) (es : List Ev) : Prop where
  len : es.length = n
  room : n ≤ c
  most : c ≤ maxLen
  at_ : n = 0 ∨ ∃ b off, o = some ⟨b, off, none⟩ ∧ b < w.heap.size ∧ ∀ (i : Nat) (e : Ev), es[i]? = some e → ∀ (j : Nat) (v : Value), e.cells[j]? = some v → w.cell? ⟨b, off + i * 5 + j, none⟩ = some v

theorem EvsIn.keeps {w w' : World} {o : Option Addr} {n c : Nat} {es : List Ev} (h : EvsIn w o n c es) (k : Keeps [] w w') : EvsIn w' o n c es :=
  ⟨h.len, h.room, h.most, h.at_.imp id fun ⟨b, off, h1, h2, h3⟩ => ⟨b, off, h1, Nat.lt_of_lt_of_le h2 k.size, fun i e he j v hv => k.cell (h3 i e he j v hv) (by simp)⟩⟩

theorem EvsIn.get {w : World} {o : Option Addr} {n c : Nat} {es : List Ev} (h : EvsIn w o n c es) {k : Nat} (hk : k < n) (hk' : k < es.length) :
    ∃ b off, o = some ⟨b, off, none⟩ ∧ w.cell? ⟨b, off + k * 5, none⟩ = some (.int .i64 es[k].kind) ∧ w.cell? ⟨b, off + k * 5 + 1, none⟩ = some (.bool es[k].yes) ∧
      w.cell? ⟨b, off + k * 5 + 2, none⟩ = some (.int .u64 es[k].mag) ∧ w.cell? ⟨b, off + k * 5 + 3, none⟩ = some (.string es[k].text) ∧ w.cell? ⟨b, off + k * 5 + 4, none⟩ = some (.int .i64 es[k].count) := by
  rcases h.at_ with h0 | ⟨b, off, h1, _, h3⟩
  · omega
  · have h4 := h3 k _ (List.getElem?_eq_getElem hk')
    exact ⟨b, off, h1, h4 0 _ rfl, h4 1 _ rfl, h4 2 _ rfl, h4 3 _ rfl, h4 4 _ rfl⟩

/-- the bounds that an Ev keeps -/
def Ev.Fit (e : Ev) : Prop := (-9223372036854775808 ≤ e.kind ∧ e.kind ≤ 9223372036854775807) ∧ (0 ≤ e.mag ∧ e.mag ≤ 18446744073709551615) ∧ e.text.size ≤ maxLen ∧ (-9223372036854775808 ≤ e.count ∧ e.count ≤ 9223372036854775807)

theorem Ev.cells_len (e : Ev) : e.cells.length = 5 := rfl
theorem evCells_len (es : List Ev) : (es.flatMap Ev.cells).length = es.length * 5 := by
  induction es with
  | nil => rfl
  | cons e es ih => rw [List.flatMap_cons, List.length_append, ih, Ev.cells_len, List.length_cons]; omega

theorem evCells_get (es : List Ev) : ∀ (i : Nat) (e : Ev), es[i]? = some e → ∀ (j : Nat) (v : Value), e.cells[j]? = some v → (es.flatMap Ev.cells)[i * 5 + j]? = some v := by
  induction es with
  | nil => intro i e h; cases i <;> cases h
  | cons x es ih =>
    intro i e h j v hv
    rw [List.flatMap_cons]
    have hj : j < 5 := by have := (List.getElem?_eq_some_iff.1 hv).1; rwa [Ev.cells_len] at this
    cases i with
    | zero =>
      simp only [List.getElem?_cons_zero, Option.some.injEq] at h
      subst h
      rw [List.getElem?_append_left (by rw [Ev.cells_len]; omega)]
      simpa using hv
    | succ i =>
      rw [List.getElem?_append_right (by rw [Ev.cells_len]; omega), Ev.cells_len]
      have : (i + 1) * 5 + j - 5 = i * 5 + j := by omega
      rw [this]
      exact ih i e (by simpa using h) j v hv

theorem evsIn_has {w : World} {b : Nat} {es : List Ev} {t : TypeId} (h : Has w b (es.flatMap Ev.cells) t) {n : Nat} (hn : es.length = n) (hm : n ≤ maxLen) : EvsIn w (some ⟨b, 0, none⟩) n n es :=
  ⟨hn, Nat.le_refl _, hm, Or.inr ⟨b, 0, rfl, h.lt, fun i e he j v hv => by rw [Nat.zero_add, h.cell]; exact evCells_get es i e he j v hv⟩⟩

theorem evsIn_of_owns {w : World} {B E : Nat} {v : Value} {es : List Ev} (h : w.ownsRow B E 5 v es.length (es.flatMap Ev.cells)) :
    ∃ o c, v = .slice o es.length c ∧ EvsIn w o es.length c es := by
  have hlt := h.lt
  rcases h.2 with ⟨rfl, h0⟩ | ⟨g, cap, cur, rfl, hb, hg, hn, hm, _⟩
  · exact ⟨none, 0, by rw [h0], rfl, by omega, Nat.zero_le _, Or.inl h0⟩
  · refine ⟨_, cap, rfl, rfl, hn, hm, Or.inr ⟨g, 0, rfl, (hlt g rfl).2, fun i e he j v hv => ?_⟩⟩
    have hl : i < es.length := (List.getElem?_eq_some_iff.1 he).1
    have hj : j < 5 := by have := (List.getElem?_eq_some_iff.1 hv).1; rwa [Ev.cells_len] at this
    rw [Nat.zero_add, h.cellAt _ (by omega)]
    exact evCells_get es i e he j v hv

theorem EvsIn.take {w : World} {o : Option Addr} {n c : Nat} {es : List Ev} (h : EvsIn w o n c es) {k : Nat} (hk : k ≤ n) : EvsIn w o k c (es.take k) :=
  ⟨by rw [List.length_take, h.len]; omega, Nat.le_trans hk h.room, h.most, h.at_.elim (fun h0 => Or.inl (by omega)) fun ⟨b, off, h1, h2, h3⟩ => Or.inr ⟨b, off, h1, h2, fun i e he => h3 i e (by rw [List.getElem?_take] at he; split at he; exact he; cases he)⟩⟩
end Go.Tru
