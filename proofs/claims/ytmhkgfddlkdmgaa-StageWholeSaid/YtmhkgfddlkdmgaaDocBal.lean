/-
  A document's parts are balanced: items, one behind the other; how many containers are open at each place.
-/
import Derived.Test.YtmhkgfddlkdmgaaDocModel
import Derived.Test.YtmhkgfddlkdmgaaStageModel
namespace Go.Tru

/-- so many items, one behind the other -/
inductive Items : Nat → List Ev → Prop
  | nil : Items 0 []
  | leaf {n : Nat} {p : Ev} {r : List Ev} (h : isOpen p = false) (h7 : p.kind ≠ 7) (hr : Items n r) : Items (n + 1) (p :: r)
  | cont {m n : Nat} {p : Ev} {l r : List Ev} (h : isOpen p = true) (hl : Items m l) (hr : Items n r) : Items (n + 1) (p :: (l ++ evEnd :: r))

theorem Items.append {m n : Nat} {a b : List Ev} (h : Items m a) (k : Items n b) : Items (m + n) (a ++ b) := by
  induction h with
  | nil => simpa using k
  | @leaf x p r h h7 _ ih =>
    rw [show x + 1 + n = (x + n) + 1 by omega]
    exact Items.leaf h h7 ih
  | @cont y x p l r h hl _ _ ih =>
    rw [show x + 1 + n = (x + n) + 1 by omega, List.cons_append, List.append_assoc, List.cons_append]
    exact Items.cont h hl ih

theorem items_leaf (x : Nat) : Items 1 (docLeaf x) := by
  unfold docLeaf
  repeat' split
  all_goals exact Items.leaf (by simp [isOpen, evNull, evBool, evInt, evText]) (by simp [evNull, evBool, evInt, evText]) Items.nil

theorem items_rep {f : List Int → List Ev × List Int} {c : Nat} (h : ∀ l, Items c (f l).1) : ∀ n l, Items (n * c) (rep f n l).1
  | 0, l => by simp only [Nat.zero_mul, rep]; exact Items.nil
  | n + 1, l => by
    rw [show (n + 1) * c = c + n * c by rw [Nat.add_mul]; omega]
    exact (h l).append (items_rep h n _)

theorem items_doc : ∀ k l, Items 1 (docItem k l).1
  | 0, l => items_leaf _
  | k + 1, l => by
    unfold docItem
    by_cases h5 : (nx l).1 % 8 < 5
    · rw [if_pos h5]; exact items_leaf _
    rw [if_neg h5]
    by_cases h6 : (nx l).1 % 8 = 5
    · rw [if_pos h6]
      exact Items.cont (by simp [isOpen, evArr]) (items_rep (items_doc k) _ _) Items.nil
    · rw [if_neg h6]
      refine Items.cont (by simp [isOpen, evMap]) (items_rep (f := docPair (docItem k)) (c := 2) (fun l => ?_) _ _) Items.nil
      simp only [docPair]
      exact Items.leaf (by simp [isOpen, evText]) (by simp [evText]) (items_doc k _)

/-- one item is a leaf, or a container -/
theorem items_one {l : List Ev} (h : Items 1 l) : (∃ p, l = [p] ∧ isOpen p = false ∧ p.kind ≠ 7) ∨ ∃ p m i, l = p :: (i ++ [evEnd]) ∧ isOpen p = true ∧ Items m i := by
  cases h with
  | leaf h h7 hr => cases hr; exact Or.inl ⟨_, rfl, h, h7⟩
  | cont h hl hr => cases hr; exact Or.inr ⟨_, _, _, rfl, h, hl⟩

/-- how many more containers are open behind these parts -/
def net : List Ev → Int
  | [] => 0
  | p :: r => (if isOpen p then 1 else if p.kind = 7 then -1 else 0) + net r

theorem net_append (a b : List Ev) : net (a ++ b) = net a + net b := by
  induction a with
  | nil => simp [net]
  | cons p a ih => simp only [List.cons_append, net, ih]; omega

theorem net_end (r : List Ev) : net (evEnd :: r) = -1 + net r := rfl

theorem items_net {n : Nat} {l : List Ev} (h : Items n l) : net l = 0 := by
  induction h with
  | nil => rfl
  | leaf h h7 _ ih => simp only [net, h, h7, if_false, Bool.false_eq_true, ih]; rfl
  | cont h _ _ ihl ihr => simp only [net, h, if_true, net_append, ihl, ihr]; rfl

theorem items_pre {n : Nat} {l : List Ev} (h : Items n l) : ∀ i, 0 ≤ net (l.take i) := by
  induction h with
  | nil => intro i; simp [net]
  | leaf h h7 _ ih =>
    intro i
    cases i with
    | zero => simp [net]
    | succ i =>
      have := ih i
      simp only [List.take_succ_cons, net, h, h7, if_false, Bool.false_eq_true]
      omega
  | @cont m n p l r h hl _ ihl ihr =>
    intro i
    cases i with
    | zero => simp [net]
    | succ i =>
      have h1 := ihl i
      simp only [List.take_succ_cons, net, h, if_true, List.take_append, net_append]
      by_cases hi : i ≤ l.length
      · rw [show i - l.length = 0 by omega]
        simp only [List.take_zero, net]
        omega
      · obtain ⟨j, hj⟩ : ∃ j, i - l.length = j + 1 := ⟨i - l.length - 1, by omega⟩
        have h2 := ihr j
        have h3 := items_net hl
        rw [hj, List.take_of_length_le (by omega : l.length ≤ i), h3, List.take_succ_cons, net_end]
        omega

/-- within a container at least one is open -/
theorem cont_pre {m : Nat} {p : Ev} {l : List Ev} (h : isOpen p = true) (hl : Items m l) {i : Nat} (h0 : 0 < i) (hi : i ≤ l.length + 1) : 1 ≤ net ((p :: (l ++ [evEnd])).take i) := by
  obtain ⟨j, rfl⟩ : ∃ j, i = j + 1 := ⟨i - 1, by omega⟩
  have := items_pre hl j
  rw [List.take_succ_cons, List.take_append_of_le_length (by omega)]
  simp only [net, h, if_true]
  omega

/-- the same part with a count that is not known -/
def openEv (p : Ev) : Ev := if p.kind = 5 ∨ p.kind = 6 then { p with count := -1 } else p

theorem openEv_kind (p : Ev) : (openEv p).kind = p.kind := by unfold openEv; split <;> rfl
theorem openEv_text (p : Ev) : (openEv p).text = p.text := by unfold openEv; split <;> rfl
theorem openEv_isOpen (p : Ev) : isOpen (openEv p) = isOpen p := by unfold isOpen; rw [openEv_kind]
theorem openEv_loose {p : Ev} (h : isOpen p = true) : (openEv p).loose = true := by
  have hk : p.kind = 5 ∨ p.kind = 6 := by simpa [isOpen] using h
  unfold Ev.loose
  rw [openEv_kind]
  simp only [decide_eq_true_eq]
  refine ⟨hk, ?_⟩
  unfold openEv
  rw [if_pos hk]
  show (-1 : Int) < 0
  decide
theorem openEv_end : openEv evEnd = evEnd := rfl

theorem openEv_clear {p : Ev} (h : Clear p) : Clear (openEv p) := by
  rcases h with rfl | ⟨b, rfl⟩ | ⟨n, m, rfl⟩ | ⟨s, rfl⟩ | ⟨s, rfl⟩ | ⟨n, hn, rfl⟩ | ⟨n, hn, rfl⟩ | rfl
  · exact Or.inl rfl
  · exact Or.inr (Or.inl ⟨b, rfl⟩)
  · exact Or.inr (Or.inr (Or.inl ⟨n, m, rfl⟩))
  · exact Or.inr (Or.inr (Or.inr (Or.inl ⟨s, rfl⟩)))
  · exact Or.inr (Or.inr (Or.inr (Or.inr (Or.inl ⟨s, rfl⟩))))
  · exact Or.inr (Or.inr (Or.inr (Or.inr (Or.inr (Or.inl ⟨-1, by omega, rfl⟩)))))
  · exact Or.inr (Or.inr (Or.inr (Or.inr (Or.inr (Or.inr (Or.inl ⟨-1, by omega, rfl⟩))))))
  · exact Or.inr (Or.inr (Or.inr (Or.inr (Or.inr (Or.inr (Or.inr rfl))))))

theorem items_map {n : Nat} {l : List Ev} (h : Items n l) : Items n (l.map openEv) := by
  induction h with
  | nil => exact Items.nil
  | leaf h h7 _ ih =>
    rw [List.map_cons]
    exact Items.leaf (by rw [openEv_isOpen]; exact h) (by rw [openEv_kind]; exact h7) ih
  | cont h _ _ ihl ihr =>
    rw [List.map_cons, List.map_append, List.map_cons, openEv_end]
    exact Items.cont (by rw [openEv_isOpen]; exact h) ihl ihr
end Go.Tru
