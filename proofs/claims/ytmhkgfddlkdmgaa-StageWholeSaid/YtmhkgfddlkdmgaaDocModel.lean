/-
  truchmanbook.Doc as plain data.
-/
import Derived.Test.YtmhkgfddlkdmgaaEvMore
namespace Go.Tru

/-- the next number -/
def nx : List Int → Nat × List Int
  | [] => (0, [])
  | x :: r => ((x % 65536).toNat, r)

theorem nx_small (l : List Int) : (nx l).1 < 65536 := by
  cases l with
  | nil => simp [nx]
  | cons x r => simp only [nx]; omega

theorem nx_len {l : List Int} : (nx l).2.length ≤ l.length := by cases l <;> simp [nx]
theorem nx_used {l : List Int} (h : (nx l).1 ≠ 0) : (nx l).2.length + 1 = l.length := by cases l <;> simp [nx] at *

def docTab : Nat → List UInt8
  | 0 => [97]
  | 1 => [34]
  | 2 => [92]
  | 3 => [10]
  | 4 => [195, 169]
  | 5 => [1]
  | 6 => [240, 157, 132, 158]
  | _ => [122]

def textGo (x : Nat) : Nat → List UInt8
  | 0 => []
  | k + 1 => docTab (x >>> (k + 1) % 8) ++ textGo x k

def docText (x : Nat) : ByteArray := ⟨(textGo x (x % 8)).toArray⟩

theorem docTab_len (n : Nat) : (docTab n).length ≤ 4 := by unfold docTab; split <;> simp
theorem textGo_len (x : Nat) : ∀ k, (textGo x k).length ≤ 4 * k
  | 0 => by simp [textGo]
  | k + 1 => by
    have h1 := textGo_len x k
    have h2 := docTab_len (x >>> (k + 1) % 8)
    simp only [textGo, List.length_append]
    omega
theorem docText_size (x : Nat) : (docText x).size ≤ 28 := by
  have := textGo_len x (x % 8)
  have e : (docText x).size = (textGo x (x % 8)).length := by unfold docText; simp [ByteArray.size]
  omega

/-- so many items, one behind the other -/
def rep (f : List Int → List Ev × List Int) : Nat → List Int → List Ev × List Int
  | 0, l => ([], l)
  | n + 1, l => ((f l).1 ++ (rep f n (f l).2).1, (rep f n (f l).2).2)

/-- a key and an item -/
def docPair (f : List Int → List Ev × List Int) (l : List Int) : List Ev × List Int :=
  (evText (docText (nx l).1) :: (f (nx l).2).1, (f (nx l).2).2)

def docLeaf (x : Nat) : List Ev :=
  if x % 8 = 0 then [evNull]
  else if x % 8 = 1 then [evBool (decide (x / 8 % 2 = 1))]
  else if x % 8 = 2 ∨ x % 8 = 3 then [evInt (decide (x / 8 % 2 = 1)) (((x * x) >>> (x % 8) : Nat) : Int)]
  else if x % 8 = 4 then [evText (docText x)]
  else if x % 8 = 5 then [evText noText]
  else [evInt false x]

/-- an item, so many containers deep at most -/
def docItem : Nat → List Int → List Ev × List Int
  | 0, l => (docLeaf (nx l).1, (nx l).2)
  | k + 1, l =>
    if (nx l).1 % 8 < 5 then (docLeaf (nx l).1, (nx l).2)
    else if (nx l).1 % 8 = 5 then
      let r := rep (docItem k) ((nx l).1 / 8 % 4) (nx l).2
      (evArr (((nx l).1 / 8 % 4 : Nat) : Int) :: r.1 ++ [evEnd], r.2)
    else
      let r := rep (docPair (docItem k)) ((nx l).1 / 8 % 3) (nx l).2
      (evMap (((nx l).1 / 8 % 3 : Nat) : Int) :: r.1 ++ [evEnd], r.2)

def doc (l : List Int) (depth : Nat) : List Ev := (docItem depth l).1

theorem docLeaf_len (x : Nat) : (docLeaf x).length = 1 := by
  unfold docLeaf
  repeat' split
  all_goals rfl

theorem rep_len {f : List Int → List Ev × List Int} {a : Nat} (h : ∀ l, (f l).1.length + 8 * (f l).2.length ≤ a + 8 * l.length) : ∀ n l, (rep f n l).1.length + 8 * (rep f n l).2.length ≤ a * n + 8 * l.length
  | 0, l => by simp [rep]
  | n + 1, l => by
    have h1 := h l
    have h2 := rep_len h n (f l).2
    simp only [rep, List.length_append, Nat.mul_add, Nat.mul_one]
    omega

theorem docItem_len : ∀ k l, (docItem k l).1.length + 8 * (docItem k l).2.length ≤ 1 + 8 * l.length
  | 0, l => by
    have := nx_len (l := l)
    simp only [docItem, docLeaf_len]
    omega
  | k + 1, l => by
    have h0 := nx_len (l := l)
    have ih := docItem_len k
    unfold docItem
    by_cases h5 : (nx l).1 % 8 < 5
    · rw [if_pos h5]; simp only [docLeaf_len]; omega
    rw [if_neg h5]
    have hu := nx_used (l := l) (by intro e; rw [e] at h5; simp at h5)
    by_cases h6 : (nx l).1 % 8 = 5
    · rw [if_pos h6]
      have h1 := rep_len ih ((nx l).1 / 8 % 4) (nx l).2
      simp only [List.length_cons, List.length_append, List.length_nil]
      omega
    · rw [if_neg h6]
      have h2 : ∀ l, (docPair (docItem k) l).1.length + 8 * (docPair (docItem k) l).2.length ≤ 2 + 8 * l.length := fun l => by
        have h3 := ih (nx l).2
        have h4 := nx_len (l := l)
        simp only [docPair, List.length_cons]
        omega
      have h1 := rep_len h2 ((nx l).1 / 8 % 3) (nx l).2
      simp only [List.length_cons, List.length_append, List.length_nil]
      omega

/-! ### what its parts are -/
/-- a part with no loose count -/
def DocPart (p : Ev) : Prop := Clear p ∧ ((p.kind = 5 ∨ p.kind = 6) → 0 ≤ p.count) ∧ p.text.size ≤ 28

theorem part_leaf (x : Nat) : ∀ p ∈ docLeaf x, DocPart p := by
  intro p hp
  have h0 : noText.size = 0 := rfl
  unfold docLeaf at hp
  repeat' split at hp
  all_goals
    rw [List.mem_singleton] at hp
    subst hp
  · exact ⟨Or.inl rfl, by decide, by simp [evNull, h0]⟩
  · exact ⟨Or.inr (Or.inl ⟨_, rfl⟩), by simp [evBool], by simp [evBool, h0]⟩
  · exact ⟨Or.inr (Or.inr (Or.inl ⟨_, _, rfl⟩)), by simp [evInt], by simp [evInt, h0]⟩
  · exact ⟨Or.inr (Or.inr (Or.inr (Or.inl ⟨_, rfl⟩))), by simp [evText], by simpa [evText] using docText_size x⟩
  · exact ⟨Or.inr (Or.inr (Or.inr (Or.inl ⟨_, rfl⟩))), by simp [evText], by simp [evText, h0]⟩
  · exact ⟨Or.inr (Or.inr (Or.inl ⟨_, _, rfl⟩)), by simp [evInt], by simp [evInt, h0]⟩

theorem rep_parts {f : List Int → List Ev × List Int} {P : Ev → Prop} (h : ∀ l, ∀ p ∈ (f l).1, P p) : ∀ n l, ∀ p ∈ (rep f n l).1, P p
  | 0, l => by simp [rep]
  | n + 1, l => by
    intro p hp
    simp only [rep, List.mem_append] at hp
    rcases hp with hp | hp
    · exact h l p hp
    · exact rep_parts h n _ p hp

theorem doc_parts : ∀ k l, ∀ p ∈ (docItem k l).1, DocPart p
  | 0, l => part_leaf _
  | k + 1, l => by
    have h0 : noText.size = 0 := rfl
    intro p hp
    unfold docItem at hp
    by_cases h5 : (nx l).1 % 8 < 5
    · rw [if_pos h5] at hp; exact part_leaf _ p hp
    rw [if_neg h5] at hp
    by_cases h6 : (nx l).1 % 8 = 5
    · rw [if_pos h6] at hp
      simp only [List.cons_append, List.mem_cons, List.mem_append, List.not_mem_nil, or_false] at hp
      rcases hp with rfl | hp | rfl
      · exact ⟨Or.inr (Or.inr (Or.inr (Or.inr (Or.inr (Or.inl ⟨_, by omega, rfl⟩))))), by simp [evArr]; omega, by simp [evArr, h0]⟩
      · exact rep_parts (fun l => doc_parts k l) _ _ p hp
      · exact ⟨Or.inr (Or.inr (Or.inr (Or.inr (Or.inr (Or.inr (Or.inr rfl)))))), by simp [evEnd], by simp [evEnd, h0]⟩
    · rw [if_neg h6] at hp
      simp only [List.cons_append, List.mem_cons, List.mem_append, List.not_mem_nil, or_false] at hp
      rcases hp with rfl | hp | rfl
      · exact ⟨Or.inr (Or.inr (Or.inr (Or.inr (Or.inr (Or.inr (Or.inl ⟨_, by omega, rfl⟩)))))), by simp [evMap]; omega, by simp [evMap, h0]⟩
      · refine rep_parts (P := DocPart) (fun l q hq => ?_) _ _ p hp
        simp only [docPair, List.mem_cons] at hq
        rcases hq with rfl | hq
        · exact ⟨Or.inr (Or.inr (Or.inr (Or.inl ⟨_, rfl⟩))), by simp [evText], by simpa [evText] using docText_size _⟩
        · exact doc_parts k _ q hq
      · exact ⟨Or.inr (Or.inr (Or.inr (Or.inr (Or.inr (Or.inr (Or.inr rfl)))))), by simp [evEnd], by simp [evEnd, h0]⟩
end Go.Tru
