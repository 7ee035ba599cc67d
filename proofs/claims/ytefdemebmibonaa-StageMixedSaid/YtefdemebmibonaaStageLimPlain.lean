/-
  StageLimits, plain: what the stage holds within a container whose parts have no count.
-/
import Derived.Test.YtefdemebmibonaaDocBal
namespace Go.Tru

def sizes (l : List Ev) : Int := (l.map Ev.size).sum

theorem sizes_nil : sizes [] = 0 := rfl
theorem sizes_append (a b : List Ev) : sizes (a ++ b) = sizes a + sizes b := by unfold sizes; rw [List.map_append, List.sum_append]
theorem sizes_one (p : Ev) : sizes [p] = p.size := by simp [sizes]
theorem sizes_pos (l : List Ev) : 0 ≤ sizes l := by
  induction l with
  | nil => simp [sizes]
  | cons p l ih => have := size_pos p; have e : sizes (p :: l) = p.size + sizes l := by simp [sizes]
                   omega
theorem sizes_le (l : List Ev) (h : ∀ p ∈ l, p.size ≤ 29) : sizes l ≤ 29 * (l.length : Int) := by
  induction l with
  | nil => simp [sizes]
  | cons p l ih =>
    have h1 := h p (List.mem_cons_self ..)
    have h2 := ih (fun q hq => h q (List.mem_cons_of_mem _ hq))
    have e : sizes (p :: l) = p.size + sizes l := by simp [sizes]
    simp only [List.length_cons]
    omega
theorem take_snoc {l : List Ev} {k : Nat} (h : k < l.length) : l.take (k + 1) = l.take k ++ [l[k]] := List.take_succ_eq_append_getElem h
theorem sizes_snoc {l : List Ev} {k : Nat} (h : k < l.length) : sizes (l.take (k + 1)) = sizes (l.take k) + l[k].size := by rw [take_snoc h, sizes_append, sizes_one]
theorem sizes_mono (l : List Ev) {i j : Nat} (h : i ≤ j) : sizes (l.take i) ≤ sizes (l.take j) := by
  have e : l.take j = l.take i ++ (l.take j).drop i := by
    have e1 := List.take_append_drop i (l.take j)
    rw [List.take_take, Nat.min_eq_left h] at e1
    exact e1.symm
  rw [e, sizes_append]
  have := sizes_pos ((l.take j).drop i)
  omega
theorem net_snoc {l : List Ev} {k : Nat} (h : k < l.length) : net (l.take (k + 1)) = net (l.take k) + net [l[k]] := by rw [take_snoc h, net_append]

/-- what holds of the stage behind the first k parts of a container that is held -/
structure LimSt (L : Int) (d : List Ev) (k : Nat) (s : St) : Prop where
  fit : s.Fit
  e : s.e = 0
  lim : s.limit = L
  opn : (s.open_.length : Int) = net (d.take k)
  len : s.held.length = k
  size : s.size = sizes (d.take k)

theorem hold_lim {s : St} {p : Ev} {L : Int} {d : List Ev} {k : Nat} (hk : k < d.length) (hp : d[k] = p) (he : s.e = 0) (hl : s.limit = L) (hlen : s.held.length = k) (hsz : s.size = sizes (d.take k)) (hn : (s.open_.length : Int) = net (d.take (k + 1))) (hfit : (s.hold p).Fit) :
    (L < sizes (d.take (k + 1)) ∧ s.hold p = stBad) ∨ (¬ L < sizes (d.take (k + 1)) ∧ (s.hold p).e = 0 ∧ LimSt L d (k + 1) (s.hold p)) := by
  have h1 := sizes_snoc hk
  rw [hp] at h1
  by_cases h : s.limit < s.size + p.size
  · exact Or.inl ⟨by omega, by unfold St.hold; rw [if_pos h]⟩
  · have e : s.hold p = { s with held := s.held ++ [p], size := s.size + p.size } := by unfold St.hold; rw [if_neg h]
    refine Or.inr ⟨by omega, by rw [e]; exact he, hfit, ?_, ?_, ?_, ?_, ?_⟩
    all_goals rw [e]
    · exact he
    · exact hl
    · exact hn
    · simp [hlen]
    · simp only []; omega

/-- the first part -/
theorem lim_first {L : Int} (hL : 0 ≤ L ∧ L ≤ 2000) {d : List Ev} {p : Ev} (hd : 0 < d.length) (hp : d[0] = p) (ho : isOpen p = true) (hl : p.loose = true) (hc : Clear p) :
    ∃ t, (St.new L).step p = ([], t.e, t) ∧ ((L < sizes (d.take 1) ∧ t = stBad) ∨ (¬ L < sizes (d.take 1) ∧ t.e = 0 ∧ LimSt L d 1 t)) := by
  have hs : (St.new L).step p = ([], (St.hold { St.new L with open_ := [⟨0, 0⟩] } p).e, St.hold { St.new L with open_ := [⟨0, 0⟩] } p) := by
    unfold St.step
    rw [if_neg (by simp [St.new])]
    simp [St.new, hl]
  refine ⟨_, hs, ?_⟩
  have hfit := fit_step (fit_new hL) hc
  rw [hs] at hfit
  refine hold_lim (s := { St.new L with open_ := [⟨0, 0⟩] }) hd hp rfl rfl rfl rfl ?_ hfit
  rw [net_snoc hd, hp]
  simp [net, ho]

/-- a part within -/
theorem lim_mid {L : Int} {d : List Ev} {k : Nat} {s : St} (h : LimSt L d k s) (hk : k < d.length) {p : Ev} (hp : d[k] = p) (h1 : 1 ≤ net (d.take k)) (h2 : 1 ≤ net (d.take (k + 1))) (hc : Clear p) :
    ∃ t, s.step p = ([], t.e, t) ∧ ((L < sizes (d.take (k + 1)) ∧ t = stBad) ∨ (¬ L < sizes (d.take (k + 1)) ∧ t.e = 0 ∧ LimSt L d (k + 1) t)) := by
  have hn := net_snoc hk
  rw [hp] at hn
  have hfit := fit_step h.fit hc
  cases ho : s.open_ with
  | nil =>
    have := h.opn
    rw [ho, List.length_nil] at this
    omega
  | cons c r =>
    have hopn := h.opn
    rw [ho, List.length_cons] at hopn
    by_cases h7 : p.kind = 7
    · have hi : isOpen p = false := by simp [isOpen, h7]
      have hn2 : net [p] = -1 := by simp [net, hi, h7]
      cases hr : r with
      | nil => rw [hr] at hopn; simp only [List.length_nil] at hopn; omega
      | cons c' r' =>
        have hpe : p = evEnd := by
          rcases hc with rfl | ⟨b, rfl⟩ | ⟨n, m, rfl⟩ | ⟨s, rfl⟩ | ⟨s, rfl⟩ | ⟨n, hn, rfl⟩ | ⟨n, hn, rfl⟩ | rfl
          all_goals first | rfl | (simp [evNull, evBool, evInt, evText, evBytes, evArr, evMap] at h7)
        have hs : s.step p = ([], (St.hold { s with held := heldSet s.held c.at_ c.parts, open_ := c' :: r' } evEnd).e, St.hold { s with held := heldSet s.held c.at_ c.parts, open_ := c' :: r' } evEnd) := by
          unfold St.step
          rw [if_neg (by simp [h.e]), ho, hr]
          simp only []
          rw [if_pos h7]
          rfl
        rw [hs] at hfit
        refine ⟨_, hs, ?_⟩
        rw [← hpe] at hfit ⊢
        refine hold_lim (s := { s with held := heldSet s.held c.at_ c.parts, open_ := c' :: r' }) hk hp h.e h.lim (by simp only [heldSet_len]; exact h.len) h.size ?_ hfit
        rw [hr, List.length_cons] at hopn
        simp only [List.length_cons]
        omega
    · have hs : s.step p = ([], (St.hold { s with open_ := if isOpen p then ⟨s.held.length, 0⟩ :: bump (c :: r) else bump (c :: r) } p).e, St.hold { s with open_ := if isOpen p then ⟨s.held.length, 0⟩ :: bump (c :: r) else bump (c :: r) } p) := by
        unfold St.step
        rw [if_neg (by simp [h.e]), ho]
        simp only []
        rw [if_neg h7]
      rw [hs] at hfit
      refine ⟨_, hs, ?_⟩
      refine hold_lim (s := { s with open_ := if isOpen p then ⟨s.held.length, 0⟩ :: bump (c :: r) else bump (c :: r) }) hk hp h.e h.lim h.len h.size ?_ hfit
      cases hi : isOpen p with
      | true =>
        have hn2 : net [p] = 1 := by simp [net, hi]
        simp only [if_true, List.length_cons, bump]
        omega
      | false =>
        have hn2 : net [p] = 0 := by simp [net, hi, h7]
        simp only [Bool.false_eq_true, if_false, List.length_cons, bump]
        omega

/-- the last part -/
theorem lim_last {L : Int} {d : List Ev} {k : Nat} {s : St} (h : LimSt L d k s) (h1 : net (d.take k) = 1) :
    ∃ l, s.step evEnd = (l, 0, { s with held := [], size := 0, open_ := [] }) ∧ l.length = k + 1 := by
  have hopn := h.opn
  rw [h1] at hopn
  cases ho : s.open_ with
  | nil => rw [ho] at hopn; simp at hopn
  | cons c r =>
    rw [ho, List.length_cons] at hopn
    obtain rfl : r = [] := by
      cases r with
      | nil => rfl
      | cons _ _ => simp only [List.length_cons] at hopn; omega
    refine ⟨heldSet s.held c.at_ c.parts ++ [evEnd], ?_, ?_⟩
    · unfold St.step
      rw [if_neg (by simp [h.e]), ho]
      rfl
    · rw [List.length_append, heldSet_len, h.len]
      rfl

theorem stBad_step (p : Ev) : stBad.step p = ([], 10, stBad) := by unfold St.step; rw [if_pos (by simp [stBad])]; rfl
end Go.Tru
