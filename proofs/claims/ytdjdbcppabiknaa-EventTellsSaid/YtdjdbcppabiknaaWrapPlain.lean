/-
  EventWraps, plainly: a document in an array of one.
-/
import Derived.Test.YtdjdbcppabiknaaCheckPlain
import Derived.Test.YtdjdbcppabiknaaEventSame
namespace Go.Tru

/-- how deep the parts stand, and the most so far -/
def dm (s : Int × Int) (e : Ev) : Int × Int :=
  if e.kind = 5 ∨ e.kind = 6 then (s.1 + 1, max s.2 (s.1 + 1)) else if e.kind = 7 then (s.1 - 1, s.2) else s
def dmRun (l : List Ev) : Int × Int := l.foldl dm (0, 0)

theorem dm_most (s : Int × Int) (e : Ev) : s.2 ≤ (dm s e).2 := by
  unfold dm; split
  · simp only []; omega
  · split <;> simp
theorem foldl_most (l : List Ev) : ∀ s : Int × Int, s.2 ≤ (l.foldl dm s).2 := by
  induction l with
  | nil => intro s; simp
  | cons e l ih => intro s; exact Int.le_trans (dm_most s e) (ih _)

theorem dmRun_snoc {l : List Ev} {k : Nat} (hk : k < l.length) : dmRun (l.take (k + 1)) = dm (dmRun (l.take k)) l[k] := by
  unfold dmRun; rw [List.take_succ_eq_append_getElem hk, List.foldl_append]; rfl

theorem dm_bound (k : Nat) (s : Int × Int) (e : Ev) (h : -k ≤ s.1 ∧ s.1 ≤ k ∧ 0 ≤ s.2 ∧ s.2 ≤ k) : -((k + 1 : Nat) : Int) ≤ (dm s e).1 ∧ (dm s e).1 ≤ ((k + 1 : Nat) : Int) ∧ 0 ≤ (dm s e).2 ∧ (dm s e).2 ≤ ((k + 1 : Nat) : Int) := by
  unfold dm; split
  · simp only []; omega
  · split
    · simp only []; omega
    · omega

theorem dmRun_bound (l : List Ev) : -(l.length : Int) ≤ (dmRun l).1 ∧ (dmRun l).1 ≤ l.length ∧ 0 ≤ (dmRun l).2 ∧ (dmRun l).2 ≤ l.length := by
  have key : ∀ (l : List Ev) (k : Nat) (s : Int × Int), (-k ≤ s.1 ∧ s.1 ≤ k ∧ 0 ≤ s.2 ∧ s.2 ≤ k) →
      -((k + l.length : Nat) : Int) ≤ (l.foldl dm s).1 ∧ (l.foldl dm s).1 ≤ ((k + l.length : Nat) : Int) ∧ 0 ≤ (l.foldl dm s).2 ∧ (l.foldl dm s).2 ≤ ((k + l.length : Nat) : Int) := by
    intro l
    induction l with
    | nil => intro k s h; simpa using h
    | cons e l ih =>
      intro k s h
      have := ih (k + 1) (dm s e) (dm_bound k s e h)
      have e1 : k + 1 + l.length = k + (e :: l).length := by rw [List.length_cons]; omega
      rw [e1] at this
      exact this
  have := key l 0 (0, 0) (by simp)
  simpa [dmRun] using this

/-- in an array: the parts of a value that is begun -/
theorem wrap_run (B : Cont) : ∀ (l : List Ev) (s s' : List Cont) (d' : Bool) (m : Int), s ≠ [] → s.length ≤ 15 → m < 16 → ckRun s false l = .ok (s', d') →
    ckRun (s ++ [B]) false l = if 16 ≤ (l.foldl dm ((s.length : Int), m)).2 then .error 4 else .ok (s' ++ [B], false) := by
  intro l
  induction l with
  | nil =>
    intro s s' d' m hs _ hm h
    simp only [ckRun, Except.ok.injEq, Prod.mk.injEq] at h
    rw [if_neg (by simp only [List.foldl_nil]; omega)]
    rw [← h.1]; rfl
  | cons e l ih =>
    intro s s' d' m hs hl hm h
    obtain ⟨c, r, rfl⟩ : ∃ c r, s = c :: r := by cases s with
      | nil => exact absurd rfl hs
      | cons c r => exact ⟨c, r, rfl⟩
    rw [List.foldl_cons]
    simp only [ckRun, List.cons_append] at h ⊢
    cases ht : tidy e with
    | none => simp [ckStep, ht] at h
    | some p =>
      have hk := tidy_kind ht
      by_cases h7 : p.kind = 7
      · have hdm : dm (((c :: r).length : Int), m) e = ((r.length : Int), m) := by
          unfold dm; rw [← hk, if_neg (by omega), if_pos h7, List.length_cons]; simp
        by_cases hf : c.full
        · simp only [ckStep, ht, h7, if_true, hf, Bool.false_eq_true, if_false] at h ⊢
          have hem : (r ++ [B]).isEmpty = false := by cases r <;> rfl
          rw [hem, hdm]
          cases r with
          | nil =>
            simp only [List.isEmpty_nil] at h
            have := ckRun_done h
            subst this
            simp only [ckRun, Except.ok.injEq, Prod.mk.injEq] at h
            rw [if_neg (by simp only [List.foldl_nil]; omega)]
            simp only [ckRun, ← h.1]
          | cons c' r' =>
            exact ih (c' :: r') s' d' m (by simp) (by simp only [List.length_cons] at hl ⊢; omega) hm h
        · simp [ckStep, ht, h7, hf] at h
      · by_cases h8 : (c.pairs && decide (c.parts % 2 = 0) && decide (p.kind ≠ 3)) = true
        · simp only [ckStep, ht, h7, if_false, h8, if_true, Bool.false_eq_true] at h
          cases h
        · simp only [ckStep, ht, h7, if_false, h8, Bool.false_eq_true] at h ⊢
          by_cases ho : isOpen p = true
          · have hdm : dm (((c :: r).length : Int), m) e = (((c :: r).length : Int) + 1, max m (((c :: r).length : Int) + 1)) := by
              unfold dm; rw [← hk, if_pos (by simpa [isOpen] using ho)]
            simp only [ho, if_true] at h ⊢
            rw [hdm]
            have hr15 : ¬ r.length + 1 = 16 := by simp only [List.length_cons] at hl; omega
            rw [if_neg hr15] at h
            by_cases h15 : r.length + 1 = 15
            · have hfm := foldl_most l (((c :: r).length : Int) + 1, max m (((c :: r).length : Int) + 1))
              rw [if_pos (by rw [List.length_append]; simp; omega), if_pos (by simp only [List.length_cons] at hfm ⊢; omega)]
            · rw [if_neg (by rw [List.length_append]; simp; omega)]
              exact ih (Cont.of p :: { c with parts := c.parts + 1 } :: r) s' d' (max m (((c :: r).length : Int) + 1)) (by simp) (by simp only [List.length_cons] at hl ⊢; omega) (by simp only [List.length_cons] at hl ⊢; omega) h
          · have hdm : dm (((c :: r).length : Int), m) e = (((c :: r).length : Int), m) := by
              unfold dm; rw [← hk, if_neg (by simpa [isOpen] using ho), if_neg h7]
            simp only [ho, Bool.false_eq_true, if_false] at h ⊢
            rw [hdm]
            exact ih ({ c with parts := c.parts + 1 } :: r) s' d' m (by simp) hl hm h

theorem check_wrap_low {l : List Ev} {count : Int} (h : count < -1) : check (evArr count :: (l ++ [evEnd])) = 2 := by
  simp [check, ckRun, ckStep, tidy, evArr, h]

theorem check_more {l : List Ev} (h : check l = 0) : check (l ++ [evNull]) = 2 := by
  obtain ⟨s, hs⟩ := check_ok h
  unfold check
  rw [ckRun_append, hs]
  simp [ckRun, ckStep, tidy, evNull]

def wrapWant (most count : Int) : Int := if 16 ≤ most then 4 else if count = 1 ∨ count = -1 then 0 else 2

theorem check_wrap {l : List Ev} {count : Int} (h : check l = 0) (hc : -1 ≤ count) : check (evArr count :: (l ++ [evEnd])) = wrapWant (dmRun l).2 count := by
  obtain ⟨s, hs⟩ := check_ok h
  -- the whole of l in the array
  have key : ckRun [⟨false, count, 0⟩] false l = if 16 ≤ (dmRun l).2 then .error 4 else .ok ([⟨false, count, 1⟩], false) := by
    cases l with
    | nil => simp [ckRun] at hs
    | cons e l =>
      simp only [ckRun] at hs ⊢
      unfold dmRun
      rw [List.foldl_cons]
      cases ht : tidy e with
      | none => simp [ckStep, ht] at hs
      | some p =>
        have hk := tidy_kind ht
        by_cases h7 : p.kind = 7
        · simp [ckStep, ht, h7] at hs
        · simp only [ckStep, ht, h7, if_false, Bool.false_eq_true, Bool.false_and] at hs ⊢
          by_cases ho : isOpen p = true
          · have hdm : dm ((0 : Int), 0) e = (1, 1) := by
              unfold dm; rw [← hk, if_pos (by simpa [isOpen] using ho)]; rfl
            simp only [ho, if_true, List.length_nil, Nat.zero_add] at hs ⊢
            rw [hdm]
            rw [if_neg (by decide)]
            have := wrap_run ⟨false, count, 1⟩ l [Cont.of p] s true 1 (by simp) (by simp) (by decide) hs
            have hse : s = [] := by
              have hd : ∀ (l : List Ev) (s s' : List Cont), s ≠ [] → ckRun s false l = .ok (s', true) → s' = [] := by
                intro l
                induction l with
                | nil => intro s s' _ h; simp [ckRun] at h
                | cons e l ih =>
                  intro s s' hs h
                  obtain ⟨c, r, rfl⟩ : ∃ c r, s = c :: r := by cases s with
                    | nil => exact absurd rfl hs
                    | cons c r => exact ⟨c, r, rfl⟩
                  simp only [ckRun] at h
                  cases hst : ckStep (c :: r) false e with
                  | error x => rw [hst] at h; cases h
                  | ok y =>
                    rw [hst] at h
                    obtain ⟨s1, d1⟩ := y
                    have hy : (d1 = true ∧ s1 = []) ∨ (d1 = false ∧ s1 ≠ []) := by
                      clear h ih
                      unfold ckStep at hst
                      cases ht : tidy e with
                      | none => simp [ht] at hst
                      | some p =>
                        simp only [ht, Bool.false_eq_true, if_false] at hst
                        split at hst
                        · split at hst
                          · simp only [Except.ok.injEq, Prod.mk.injEq] at hst
                            obtain ⟨rfl, rfl⟩ := hst
                            cases r <;> simp
                          · cases hst
                        · split at hst
                          · cases hst
                          · split at hst
                            · split at hst
                              · cases hst
                              · simp only [Except.ok.injEq, Prod.mk.injEq] at hst
                                obtain ⟨rfl, rfl⟩ := hst
                                simp
                            · simp only [Except.ok.injEq, Prod.mk.injEq] at hst
                              obtain ⟨rfl, rfl⟩ := hst
                              simp
                    rcases hy with ⟨rfl, rfl⟩ | ⟨rfl, hne⟩
                    · have := ckRun_done h
                      subst this
                      simp only [ckRun, Except.ok.injEq, Prod.mk.injEq] at h
                      exact h.1.symm
                    · exact ih _ _ hne h
              exact hd _ _ _ (by simp) hs
            subst hse
            exact this
          · have hdm : dm ((0 : Int), 0) e = (0, 0) := by
              unfold dm; rw [← hk, if_neg (by simpa [isOpen] using ho), if_neg h7]
            simp only [ho, Bool.false_eq_true, if_false] at hs ⊢
            have := ckRun_done hs
            subst this
            rw [hdm]
            rfl
  have h0 : ckStep [] false (evArr count) = .ok ([⟨false, count, 0⟩], false) := by
    have : ¬ count < -1 := by omega
    simp [ckStep, tidy, evArr, this, isOpen, Cont.of]
  unfold check
  simp only [ckRun, h0]
  rw [ckRun_append, key]
  unfold wrapWant
  by_cases h16 : 16 ≤ (dmRun l).2
  · simp only [if_pos h16]
  · simp only [if_neg h16]
    have he : tidy evEnd = some evEnd := rfl
    by_cases hcc : count = 1 ∨ count = -1
    · rw [if_pos hcc]
      rcases hcc with rfl | rfl <;> rfl
    · have hf : Cont.full ⟨false, count, 1⟩ = false := by
        unfold Cont.full
        have h1 : ¬ count < 0 ∨ count < 0 := by omega
        rcases h1 with h1 | h1
        · simp [h1]; omega
        · omega
      rw [if_neg hcc]
      have hst : ckStep [⟨false, count, 1⟩] false evEnd = .error 2 := by
        simp only [ckStep, he]
        rw [hf]
        rfl
      simp only [ckRun, hst]

/-! ### the cells of parts that came in, one behind the other -/

theorem evCells_at : ∀ (es : List Ev) (j : Nat) (v : Value), (es.flatMap Ev.cells)[j]? = some v → ∃ e, es[j / 5]? = some e ∧ e.cells[j % 5]? = some v := by
  intro es
  induction es with
  | nil => intro j v h; simp at h
  | cons e es ih =>
    intro j v h
    rw [List.flatMap_cons] at h
    by_cases hj : j < 5
    · rw [List.getElem?_append_left (by rw [Ev.cells_len]; exact hj)] at h
      exact ⟨e, by rw [Nat.div_eq_of_lt hj]; rfl, by rw [Nat.mod_eq_of_lt hj]; exact h⟩
    · rw [List.getElem?_append_right (by rw [Ev.cells_len]; omega), Ev.cells_len] at h
      obtain ⟨x, h1, h2⟩ := ih _ _ h
      have e1 : j / 5 = (j - 5) / 5 + 1 := by omega
      have e2 : j % 5 = (j - 5) % 5 := by omega
      exact ⟨x, by rw [e1]; simpa using h1, by rw [e2]; exact h2⟩

theorem EvsIn.src {w : World} {b off n c : Nat} {es : List Ev} (h : EvsIn w (some ⟨b, off, none⟩) n c es) (hn : n ≠ 0) : ∀ (j : Nat) (u : Value), (es.flatMap Ev.cells)[j]? = some u → w.cell? ((⟨b, off, none⟩ : Addr).add j) = some u := by
  intro j u hu
  obtain ⟨e, h1, h2⟩ := evCells_at _ _ _ hu
  rcases h.at_ with h0 | ⟨b', off', hb, _, h3⟩
  · exact absurd h0 hn
  · simp only [Option.some.injEq, Addr.mk.injEq, and_true] at hb
    obtain ⟨rfl, rfl⟩ := hb
    have := h3 _ _ h1 _ _ h2
    have hadd : (⟨b, off, none⟩ : Addr).add j = ⟨b, off + j / 5 * 5 + j % 5, none⟩ := by
      have : off + j / 5 * 5 + j % 5 = off + j := by omega
      rw [this]
      unfold Addr.add; split <;> simp_all
    rw [hadd]; exact this

theorem ownsRow_lit {w : World} {base g n : Nat} {e : TypeId} {size : Nat} {xs : List Value} (h : Has w g xs e) (hb : base ≤ g) (hl : xs.length = n * size) (hn : n ≤ maxLen) : w.ownsRow base e size (.slice (some ⟨g, 0, none⟩) n n) n xs :=
  ⟨hl, Or.inr ⟨g, n, xs.toArray, rfl, hb, h, Nat.le_refl _, hn, by simp [hl], by simp [← hl]⟩⟩
end Go.Tru
