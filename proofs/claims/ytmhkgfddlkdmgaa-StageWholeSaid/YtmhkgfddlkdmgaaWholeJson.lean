/-
  StageWhole, plain: what the tokens tell is one document; its way through the stage, part by part.
-/
import Derived.Test.YtmhkgfddlkdmgaaWholePlain
import Derived.Test.YtmhkgfddlkdmgaaRefJson
namespace Go.Tru

theorem Js.loose_token {p : Js} {t : Tok} : ∀ q, (p.token t).1 = some q → (isOpen q = true → q.loose = true) ∧ q.size ≤ 1 + t.text.size := by
  intro q hq
  have hv : ∀ q, (p.value t).1 = some q → (isOpen q = true → q.loose = true) ∧ q.size ≤ 1 + t.text.size := by
    intro q hq
    unfold Js.value at hq
    split at hq
    · split at hq
      · cases hq
      · simp only [Option.some.injEq] at hq
        subst hq
        split
        · exact ⟨fun _ => rfl, by simp [Ev.size, evMap, noText]; show 0 ≤ t.text.size; omega⟩
        · exact ⟨fun _ => rfl, by simp [Ev.size, evArr, noText]; show 0 ≤ t.text.size; omega⟩
    split at hq
    · simp only [Option.some.injEq] at hq; subst hq; exact ⟨fun h => by simp [isOpen, evText] at h, by simp [Ev.size, evText]⟩
    split at hq
    · simp only [Option.some.injEq] at hq; subst hq; exact ⟨fun h => by simp [isOpen, evInt] at h, by simp [Ev.size, evInt, noText]; show 0 ≤ t.text.size; omega⟩
    split at hq
    · simp only [Option.some.injEq] at hq; subst hq; exact ⟨fun h => by simp [isOpen, evBool] at h, by simp [Ev.size, evBool, noText]; show 0 ≤ t.text.size; omega⟩
    split at hq
    · simp only [Option.some.injEq] at hq; subst hq; exact ⟨fun h => by simp [isOpen, evNull] at h, by simp [Ev.size, evNull, noText]; show 0 ≤ t.text.size; omega⟩
    · cases hq
  unfold Js.token at hq
  split at hq
  · cases hq
  split at hq
  · cases hq
  split at hq
  · simp only [Option.some.injEq] at hq; subst hq; exact ⟨fun h => by simp [isOpen, evEnd] at h, by simp [Ev.size, evEnd, noText]; show 0 ≤ t.text.size; omega⟩
  split at hq
  · simp only [Option.some.injEq] at hq; subst hq; exact ⟨fun h => by simp [isOpen, evText] at h, by simp [Ev.size, evText]⟩
  split at hq
  · cases hq
  · exact hv q hq

theorem Js.loose_toks : ∀ (l : List Tok) (p : Js), (∀ q ∈ (p.toks l).1, isOpen q = true → q.loose = true) ∧ sizesOf (p.toks l).1 ≤ tokSum l
  | [], p => ⟨(by intro q hq; cases hq), by simp [Js.toks, sizesOf, tokSum]⟩
  | t :: l, p => by
    have hts : tokSum (t :: l) = (1 + t.text.size) + tokSum l := by simp [tokSum]
    rw [hts]
    unfold Js.toks
    split
    · exact ⟨(by intro q hq; cases hq), by simp only [sizesOf, List.map_nil, List.sum_nil]; omega⟩
    · have ih := Js.loose_toks l (p.token t).2
      simp only []
      cases hq : (p.token t).1 with
      | none =>
        simp only [Option.toList, List.nil_append]
        exact ⟨ih.1, by have := ih.2; omega⟩
      | some q =>
        have h1 := Js.loose_token q hq
        simp only [Option.toList, List.cons_append, List.nil_append]
        refine ⟨fun x hx => ?_, ?_⟩
        · rcases List.mem_cons.1 hx with rfl | hx
          · exact h1.1
          · exact ih.1 x hx
        · rw [sizesOf_cons]
          have := ih.2
          have := h1.2
          omega

theorem text_le : ∀ {L : List Ev} {p : Ev}, p ∈ L → (p.text.size : Int) ≤ sizesOf L
  | [], p, hp => by cases hp
  | q :: l, p, hp => by
    rw [sizesOf_cons]
    have h1 := sizesOf_pos l
    have h2 := size_pos q
    rcases List.mem_cons.1 hp with rfl | hp
    · unfold Ev.size; omega
    · have := text_le hp; omega

/-- tokens that end a document tell one -/
theorem toks_whole {ts : List Tok} {L : List Ev} {p : Js} (h : (Js.new 16).toks ts = (L, p)) (he : p.e = 0) (hn : p.next = 6) : (∃ L', WholeDoc L L') ∧ sizesOf L ≤ tokSum ts ∧ L.length ≤ ts.length ∧ ∀ q ∈ L, Clear q := by
  have hl := Js.loose_toks ts (Js.new 16)
  have hc := Js.clear_toks (Js.new 16) ts
  have hn' := Js.len_toks (Js.new 16) ts
  obtain ⟨st', d', hck, hj⟩ := jrel_toks ts (show JRel (Js.new 16) [] false from ⟨rfl, by simp, rfl, Or.inr rfl⟩) (Js.fit_new (by omega)) rfl
  rw [h] at hl hc hn' hck hj
  have hd : d' = true := by
    have := (hj he).2.2.1
    rw [this]
    exact decide_eq_true hn
  subst hd
  have hk : check L = 0 := by rw [check_end hck]; rfl
  exact ⟨whole_of_check hk (fun q hq => ⟨hc q hq, hl.1 q hq⟩), hl.2, hn', hc⟩

/-- behind each part but the last nothing goes on -/
theorem whole_quiet {L L' : List Ev} (h : WholeDoc L L') {n : Int} (hs : sizesOf L ≤ n) {k : Nat} (hk : k < L.length) : ∃ s, (St.new n).walk (L.take k) = some ([], s) := by
  cases h with
  | @leaf p h h7 hc =>
    have : k = 0 := by simpa using hk
    subst this
    exact ⟨_, rfl⟩
  | @cont p c v v' h hc hl h0 hm hv =>
    rw [sizesOf_cons, sizesOf_append] at hs
    have hp3 := sizesOf_pos [evEnd]
    have hp1 := sizesOf_pos v
    have hst : (St.new n).step p = ([], 0, ⟨n, [p], p.size, [⟨0, 0⟩], 0⟩) := by
      unfold St.step
      rw [if_neg (by simp [St.new])]
      simp only [St.new, hl, if_true]
      rw [hold_fits (by simp only []; omega)]
      simp
    have hall : (St.new n).walk (p :: v) = some ([], { limit := n, held := [p] ++ v', size := p.size + sizesOf v, open_ := [⟨0, c⟩], e := 0 }) := by
      rw [show p :: v = [p] ++ v from rfl, walk_append, walk_one hst]
      simp only []
      rw [walk_vals hv (s := ⟨n, [p], p.size, [⟨0, 0⟩], 0⟩) (at_ := 0) (r := []) rfl rfl (by simp only []; omega)]
      rfl
    have hk2 : k ≤ (p :: v).length := by simp only [List.length_cons, List.length_append, List.length_nil] at hk ⊢; omega
    have e : (p :: (v ++ [evEnd])).take k = (p :: v).take k := by
      rw [show p :: (v ++ [evEnd]) = (p :: v) ++ [evEnd] from rfl, List.take_append_of_le_length hk2]
    rw [e]
    have hsp := hall
    rw [← List.take_append_drop k (p :: v), walk_append] at hsp
    cases hw : (St.new n).walk ((p :: v).take k) with
    | none => rw [hw] at hsp; cases hsp
    | some x =>
      rw [hw] at hsp
      simp only [] at hsp
      cases hw2 : x.2.walk ((p :: v).drop k) with
      | none => rw [hw2] at hsp; cases hsp
      | some y =>
        rw [hw2] at hsp
        simp only [Option.some.injEq, Prod.mk.injEq, List.append_eq_nil_iff] at hsp
        exact ⟨x.2, by rw [← hsp.1.1]⟩

theorem whole_round {L L' : List Ev} (h : WholeDoc L L') {n : Int} (hs : sizesOf L ≤ n) {k : Nat} (hk : k < L.length) {s : St} (hw : (St.new n).walk (L.take k) = some ([], s)) :
    ∃ out t, s.step L[k] = (out, 0, t) ∧ ((k + 1 < L.length ∧ out = [] ∧ (St.new n).walk (L.take (k + 1)) = some ([], t)) ∨ (k + 1 = L.length ∧ out = L' ∧ t = St.new n)) := by
  have hsn : L.take (k + 1) = L.take k ++ [L[k]] := List.take_succ_eq_append_getElem hk
  have hnext : ∀ o t, (St.new n).walk (L.take (k + 1)) = some (o, t) → s.step L[k] = (o, 0, t) := by
    intro o t ho
    rw [hsn, walk_append, hw] at ho
    simp only [St.walk] at ho
    by_cases he : (s.step L[k]).2.1 = 0
    · rw [if_pos he] at ho
      simp only [Option.some.injEq, Prod.mk.injEq, List.nil_append, List.append_nil] at ho
      rw [← ho.1, ← ho.2, ← he]
    · rw [if_neg he] at ho; cases ho
  by_cases hk2 : k + 1 < L.length
  · obtain ⟨t, ht⟩ := whole_quiet h hs hk2
    exact ⟨[], t, hnext _ _ ht, Or.inl ⟨hk2, rfl, ht⟩⟩
  · have hk3 : k + 1 = L.length := by omega
    have hall := walk_whole h hs
    rw [show L = L.take (k + 1) by rw [hk3, List.take_length]] at hall
    exact ⟨L', _, hnext _ _ hall, Or.inr ⟨hk3, rfl, rfl⟩⟩

theorem walk_fit : ∀ (l : List Ev) {s t : St} {o : List Ev}, (∀ p ∈ l, Clear p) → s.Fit → s.walk l = some (o, t) → t.Fit
  | [], s, t, o, _, hf, h => by
    simp only [St.walk, Option.some.injEq, Prod.mk.injEq] at h
    rw [← h.2]; exact hf
  | p :: l, s, t, o, hc, hf, h => by
    unfold St.walk at h
    split at h
    · split at h
      · rename_i o' t' hw
        simp only [Option.some.injEq, Prod.mk.injEq] at h
        rw [← h.2]
        exact walk_fit l (fun q hq => hc q (List.mem_cons_of_mem _ hq)) (fit_step hf (hc p (List.mem_cons_self ..))) hw
      · cases h
    · cases h
end Go.Tru
