/-
  The stage as plain data.
-/
import Derived.Test.YtmhkgfddlkdmgaaEvMore
import Derived.Test.YtmhkgfddlkdmgaaCheck
namespace Go.Tru

/-- a container that began since parts are held -/
structure StC where
  at_ : Nat
  parts : Int

structure St where
  limit : Int
  held : List Ev
  size : Int
  open_ : List StC
  e : Int

def St.new (limit : Int) : St := ⟨limit, [], 0, [], 0⟩
def stBad : St := ⟨0, [], 0, [], 10⟩

/-- a part is held -/
def St.hold (s : St) (v : Ev) : St :=
  if s.limit < s.size + v.size then stBad else { s with held := s.held ++ [v], size := s.size + v.size }

/-- does a part begin a container of which the count is not known? -/
def Ev.loose (p : Ev) : Bool := decide ((p.kind = 5 ∨ p.kind = 6) ∧ p.count < 0)

/-- a container's count, known at last -/
def Ev.counted (p : Ev) (parts : Int) : Ev := if p.loose then { p with count := if p.kind = 6 then parts / 2 else parts } else p

def heldSet (l : List Ev) (i : Nat) (parts : Int) : List Ev :=
  match l[i]? with
  | none => l
  | some p => l.set i (p.counted parts)

/-- the innermost container ends -/
def St.close (s : St) (c : StC) (r : List StC) : List Ev × Int × St :=
  match r with
  | [] => (heldSet s.held c.at_ c.parts ++ [evEnd], 0, { s with held := [], size := 0, open_ := [] })
  | _ :: _ =>
    let t := St.hold { s with held := heldSet s.held c.at_ c.parts, open_ := r } evEnd
    ([], t.e, t)

def bump : List StC → List StC
  | [] => []
  | c :: r => ⟨c.at_, c.parts + 1⟩ :: r

def St.step (s : St) (p : Ev) : List Ev × Int × St :=
  if s.e ≠ 0 then ([], s.e, s)
  else match s.open_ with
    | [] =>
      if p.loose then
        let t := St.hold { s with open_ := [⟨s.held.length, 0⟩] } p
        ([], t.e, t)
      else ([p], 0, s)
    | c :: r =>
      if p.kind = 7 then s.close c r
      else
        let t := St.hold { s with open_ := if isOpen p then ⟨s.held.length, 0⟩ :: bump (c :: r) else bump (c :: r) } p
        ([], t.e, t)

/-- what holds of every stage that was made by New and stepped -/
structure St.Fit (s : St) : Prop where
  lim : 0 ≤ s.limit ∧ s.limit ≤ 2000
  size : s.held.length ≤ s.size ∧ s.size ≤ s.limit
  opens : ∀ c ∈ s.open_, (∃ p, s.held[c.at_]? = some p ∧ Clear p ∧ isOpen p = true) ∧ 0 ≤ c.parts ∧ c.parts ≤ s.held.length
  cnt : s.open_.length ≤ s.held.length
  none_ : s.open_ = [] → s.held = []
  err : 0 ≤ s.e ∧ s.e ≤ 10

theorem fit_new {x : Int} (h : 0 ≤ x ∧ x ≤ 2000) : (St.new x).Fit :=
  ⟨h, ⟨by simp [St.new], h.1⟩, by simp [St.new], by simp [St.new], fun _ => rfl, by simp [St.new]⟩
theorem fit_bad : stBad.Fit := ⟨by simp [stBad], by simp [stBad], by simp [stBad], by simp [stBad], fun _ => rfl, by simp [stBad]⟩

theorem size_pos (p : Ev) : 1 ≤ p.size := by unfold Ev.size; omega

/-- what is held and counted, before the last part is held -/
theorem fit_hold {s : St} (h1 : 0 ≤ s.limit ∧ s.limit ≤ 2000) (h2 : s.held.length ≤ s.size) (he : 0 ≤ s.e ∧ s.e ≤ 10) (p : Ev)
    (ho : ∀ c ∈ s.open_, (∃ q, (s.held ++ [p])[c.at_]? = some q ∧ Clear q ∧ isOpen q = true) ∧ 0 ≤ c.parts ∧ c.parts ≤ s.held.length + 1) (hc : s.open_.length ≤ s.held.length + 1) (hn : s.open_ ≠ []) : (s.hold p).Fit := by
  unfold St.hold
  by_cases h : s.limit < s.size + p.size
  · rw [if_pos h]; exact fit_bad
  · rw [if_neg h]
    have := size_pos p
    exact ⟨h1, ⟨by simp; omega, by simp only []; omega⟩, fun c hc' => by
      obtain ⟨a, b, d⟩ := ho c hc'
      exact ⟨a, b, by simp only [List.length_append, List.length_singleton]; omega⟩, by simp only [List.length_append, List.length_singleton]; exact hc, fun e => absurd e hn, he⟩

theorem counted_open {p : Ev} (hc : Clear p) (ho : isOpen p = true) {n : Int} (hn : 0 ≤ n) : Clear (p.counted n) ∧ isOpen (p.counted n) = true := by
  unfold Ev.counted
  split
  · rcases hc with rfl | ⟨b, rfl⟩ | ⟨n, m, rfl⟩ | ⟨s, rfl⟩ | ⟨s, rfl⟩ | ⟨k, hk, rfl⟩ | ⟨k, hk, rfl⟩ | rfl
    · simp [isOpen, evNull] at ho
    · simp [isOpen, evBool] at ho
    · simp [isOpen, evInt] at ho
    · simp [isOpen, evText] at ho
    · simp [isOpen, evBytes] at ho
    · exact ⟨Or.inr (Or.inr (Or.inr (Or.inr (Or.inr (Or.inl ⟨n, by omega, by simp [evArr]⟩))))), by simp [isOpen, evArr]⟩
    · refine ⟨Or.inr (Or.inr (Or.inr (Or.inr (Or.inr (Or.inr (Or.inl ⟨n / 2, ?_, by simp [evMap]⟩)))))), by simp [isOpen, evMap]⟩
      omega
    · simp [isOpen, evEnd] at ho
  · exact ⟨hc, ho⟩

theorem heldSet_len (l : List Ev) (i : Nat) (n : Int) : (heldSet l i n).length = l.length := by
  unfold heldSet; split <;> simp

theorem heldSet_open {l : List Ev} {i : Nat} {n : Int} (hn : 0 ≤ n) {j : Nat} (h : ∃ p, l[j]? = some p ∧ Clear p ∧ isOpen p = true) : ∃ p, (heldSet l i n)[j]? = some p ∧ Clear p ∧ isOpen p = true := by
  obtain ⟨p, h1, h2, h3⟩ := h
  unfold heldSet
  split
  · exact ⟨p, h1, h2, h3⟩
  · rename_i q hq
    by_cases e : i = j
    · subst e
      rw [hq] at h1
      injection h1 with h1
      subst h1
      have hl := (List.getElem?_eq_some_iff.1 hq).1
      exact ⟨_, by rw [List.getElem?_set_self hl], (counted_open h2 h3 hn).1, (counted_open h2 h3 hn).2⟩
    · exact ⟨p, by rw [List.getElem?_set_ne e]; exact h1, h2, h3⟩

theorem get_snoc {l : List Ev} {p q : Ev} {i : Nat} (h : l[i]? = some q) : (l ++ [p])[i]? = some q := by
  rw [List.getElem?_append_left (List.getElem?_eq_some_iff.1 h).1]; exact h

theorem fit_step {s : St} (h : s.Fit) {p : Ev} (hp : Clear p) : (s.step p).2.2.Fit := by
  unfold St.step
  by_cases he : s.e ≠ 0
  · rw [if_pos he]; exact h
  rw [if_neg he]
  cases ho : s.open_ with
  | nil =>
    simp only []
    by_cases hl : p.loose = true
    · rw [if_pos hl]
      have hnil := h.none_ ho
      refine fit_hold (s := { s with open_ := [⟨s.held.length, 0⟩] }) h.lim h.size.1 h.err p ?_ (by simp) (by simp)
      intro c hc
      simp only [List.mem_singleton] at hc
      subst hc
      simp only [hnil, List.length_nil, List.nil_append]
      refine ⟨⟨p, rfl, hp, ?_⟩, by omega, by omega⟩
      simp only [Ev.loose, decide_eq_true_eq] at hl
      simp [isOpen, hl.1]
    · rw [if_neg hl]; exact h
  | cons c r =>
    have hops := h.opens
    have hcnt := h.cnt
    rw [ho] at hops hcnt
    simp only [List.length_cons] at hcnt
    have hc := hops c (List.mem_cons_self ..)
    simp only []
    by_cases h7 : p.kind = 7
    · rw [if_pos h7]
      unfold St.close
      cases r with
      | nil => exact ⟨h.lim, ⟨by simp, h.lim.1⟩, by simp, by simp, fun _ => rfl, h.err⟩
      | cons c' r' =>
        simp only []
        refine fit_hold (by exact h.lim) (by simp only [heldSet_len]; exact h.size.1) (by exact h.err) _ ?_ (by simp only [heldSet_len]; simp only [List.length_cons] at hcnt ⊢; omega) (by simp)
        intro x hx
        obtain ⟨a, b, d⟩ := hops x (List.mem_cons_of_mem _ hx)
        obtain ⟨q, h1, h2⟩ := heldSet_open (i := c.at_) hc.2.1 a
        exact ⟨⟨q, get_snoc h1, h2⟩, b, by simp only [heldSet_len]; omega⟩
    · rw [if_neg h7]
      have hb : ∀ x ∈ bump (c :: r), (∃ q, (s.held ++ [p])[x.at_]? = some q ∧ Clear q ∧ isOpen q = true) ∧ 0 ≤ x.parts ∧ x.parts ≤ s.held.length + 1 := by
        intro x hx
        simp only [bump, List.mem_cons] at hx
        rcases hx with rfl | hx
        · obtain ⟨⟨q, h1, h2⟩, b, d⟩ := hc
          exact ⟨⟨q, get_snoc h1, h2⟩, by simp only []; omega, by simp only []; omega⟩
        · obtain ⟨⟨q, h1, h2⟩, b, d⟩ := hops x (List.mem_cons_of_mem _ hx)
          exact ⟨⟨q, get_snoc h1, h2⟩, b, by omega⟩
      refine fit_hold (s := { s with open_ := if isOpen p then ⟨s.held.length, 0⟩ :: bump (c :: r) else bump (c :: r) }) h.lim h.size.1 h.err p ?_ ?_ ?_
      · intro x hx
        simp only [] at hx
        split at hx
        · rename_i hop
          rcases List.mem_cons.1 hx with rfl | hx
          · simp only []
            exact ⟨⟨p, by simp, hp, hop⟩, by omega, by omega⟩
          · exact hb x hx
        · exact hb x hx
      · simp only []
        split <;> simp [bump] <;> omega
      · simp only []
        split <;> simp [bump]
end Go.Tru
