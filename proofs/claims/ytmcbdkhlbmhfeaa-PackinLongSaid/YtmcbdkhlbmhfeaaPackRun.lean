/-
  packin's Parser, plain: its parts are clear; how many they are.
-/
import Derived.Test.YtmcbdkhlbmhfeaaPackModel
namespace Go.Tru

theorem clear_close : ∀ l : List Cont, ∀ q ∈ (closeUp l).1, Clear q
  | [] => by simp [closeUp]
  | c :: r => by
    unfold closeUp
    split
    · intro q hq
      simp only [List.mem_cons] at hq
      rcases hq with rfl | hq
      · exact Or.inr (Or.inr (Or.inr (Or.inr (Or.inr (Or.inr (Or.inr rfl))))))
      · exact clear_close r q hq
    · simp

theorem len_close : ∀ l : List Cont, (closeUp l).1.length ≤ l.length
  | [] => by simp [closeUp]
  | c :: r => by
    have := len_close r
    unfold closeUp
    split
    · simp only [List.length_cons]; omega
    · simp

theorem clear_end' : Clear evEnd := Or.inr (Or.inr (Or.inr (Or.inr (Or.inr (Or.inr (Or.inr rfl))))))

theorem clear_value {k : Core} {p : Ev} (h : Clear p) : ∀ q ∈ (k.value p).1, Clear q := by
  intro q hq
  simp only [Core.value, List.mem_cons] at hq
  rcases hq with rfl | hq
  · exact h
  · exact clear_close _ q hq

theorem clear_beginEv (pairs : Bool) {n : Int} (h : -1 ≤ n) : Clear (beginEv pairs n) := by
  unfold beginEv
  split
  · exact Or.inr (Or.inr (Or.inr (Or.inr (Or.inr (Or.inr (Or.inl ⟨n, h, rfl⟩))))))
  · exact Or.inr (Or.inr (Or.inr (Or.inr (Or.inr (Or.inl ⟨n, h, rfl⟩)))))

theorem clear_begin {k : Core} (pairs : Bool) {n : Int} (h : -1 ≤ n) : ∀ q ∈ (k.begin pairs n).1, Clear q := by
  unfold Core.begin
  split
  · intro q hq
    simp only [List.mem_cons] at hq
    rcases hq with rfl | hq
    · exact clear_beginEv pairs h
    · exact clear_value clear_end' q hq
  · intro q hq
    simp only [List.mem_singleton] at hq
    subst hq
    exact clear_beginEv pairs h

theorem clear_word (word : Bool) (l : List UInt8) : Clear (wordEv word l) := by
  unfold wordEv
  split
  · exact Or.inr (Or.inr (Or.inr (Or.inl ⟨_, rfl⟩)))
  · exact Or.inr (Or.inr (Or.inr (Or.inr (Or.inl ⟨_, rfl⟩))))

theorem clear_text' {k : Core} : ∀ q ∈ k.text.1, Clear q := clear_value (clear_word _ _)

theorem clear_length {k : Core} (word : Bool) (n : Int) : ∀ q ∈ (k.length word n).1, Clear q := by
  unfold Core.length
  split
  · simp [Core.fail]
  · simp only []
    split
    · simp
    · exact clear_text'

theorem clear_byte {k : Core} (b : Int) : ∀ q ∈ (k.byte b).1, Clear q := by
  unfold Core.byte
  simp only []
  generalize (if k.word then k.c.step b else k.c) = c'
  split
  · simp [Core.fail]
  · split
    · simp
    · exact clear_text'

theorem clear_int' (b : Bool) (m : Int) : Clear (evInt b m) := Or.inr (Or.inr (Or.inl ⟨_, _, rfl⟩))

theorem clear_count {p : Pk} (pairs : Bool) {n : Int} (h : 0 ≤ n) : ∀ q ∈ (p.count pairs n).1, Clear q := by
  unfold Pk.count
  split
  · simp [Pk.put, Core.fail]
  · exact clear_begin pairs (by omega)

theorem clear_number {N : Int} {p : Pk} (h : p.Fit N) (hk : p.kind ≠ 0) {b : Int} (hb : 0 ≤ b) : ∀ q ∈ (p.number b).1, Clear q := by
  obtain ⟨h1, h2, h3, h4, h5⟩ := h.num hk
  unfold Pk.number
  split
  · simp
  · unfold Pk.told
    split
    · exact clear_value (clear_int' _ _)
    · split
      · obtain ⟨b', m, e⟩ := signed_kind p.all (p.v * 256 + b)
        rw [e]
        exact clear_value (clear_int' _ _)
      · split
        · exact clear_length _ _
        · exact clear_count _ (by omega)

theorem long_nil (p : Pk) (b : Int) : (p.long b).1 = [] := by
  unfold Pk.long
  split
  · rfl
  split
  · rfl
  split
  · rfl
  split
  · rfl
  split
  · rfl
  · rfl

theorem item_cases {P : List Ev × Pk → Prop} {p : Pk} {b : Int} (hf : ∀ e, P (p.put (p.c.fail e))) (hi : ∀ n m, P (p.put (p.c.value (evInt n m)))) (hc : ∀ pairs, P (p.count pairs (b % 16))) (hl : P (p.put (p.c.length true (b % 32)))) (hn : P (p.put (p.c.value evNull))) (hb : ∀ y, P (p.put (p.c.value (evBool y)))) (hlo : P (p.long b)) : P (p.item b) := by
  unfold Pk.item
  split
  · exact hf 2
  split
  · exact hf 8
  split
  · exact hf 8
  split
  · exact hf 6
  split
  · exact hf 4
  split
  · exact hi _ _
  split
  · exact hi _ _
  split
  · exact hc _
  split
  · exact hl
  split
  · exact hn
  split
  · exact hb _
  · exact hlo

theorem clear_item {p : Pk} {b : Int} (_hb : 0 ≤ b) : ∀ q ∈ (p.item b).1, Clear q :=
  item_cases (P := fun t => ∀ q ∈ t.1, Clear q) (fun e q hq => by cases hq) (fun _ _ => clear_value (clear_int' _ _)) (fun _ => clear_count _ (by omega)) (clear_length _ _) (clear_value (Or.inl rfl)) (fun _ => clear_value (Or.inr (Or.inl ⟨_, rfl⟩))) (by rw [long_nil]; intro q hq; cases hq)

theorem clear_step {N : Int} {p : Pk} (h : p.Fit N) {b : Int} (hb : 0 ≤ b) : ∀ q ∈ (p.step b).1, Clear q := by
  unfold Pk.step
  split
  · simp
  split
  · exact clear_byte b
  split
  · rename_i hk
    exact clear_number h hk hb
  · exact clear_item hb

theorem len_value {N : Int} {k : Core} (h : k.Fit N) (p : Ev) : (k.value p).1.length ≤ 17 := by
  have := len_close k.open_
  have := h.opens
  have := h.depth
  simp only [Core.value, List.length_cons]
  omega

theorem len_begin {N : Int} {k : Core} (h : k.Fit N) (pairs : Bool) (n : Int) : (k.begin pairs n).1.length ≤ 18 := by
  have := len_value h evEnd
  unfold Core.begin
  split
  · simp only [List.length_cons]; omega
  · simp

theorem len_text {N : Int} {k : Core} (h : k.Fit N) : k.text.1.length ≤ 17 := by
  have hk : Core.Fit N { k with s := [], chunks := false } := ⟨h.depth, h.opens, h.parts, by have := h.lack; simp only [List.length_nil]; omega, h.chk⟩
  exact len_value hk _

theorem len_length {N : Int} {k : Core} (h : k.Fit N) (word : Bool) {n : Int} (hn : 0 ≤ n) : (k.length word n).1.length ≤ 17 := by
  unfold Core.length
  split
  · simp [Core.fail]
  · have hk : Core.Fit N { k with word := word, lack := n, c := Chk.zero } := ⟨h.depth, h.opens, h.parts, by simp only []; omega, Chk.fit_zero⟩
    simp only []
    split
    · simp
    · exact len_text hk

theorem len_byte {N : Int} {k : Core} (h : k.Fit N) (hl : 0 < k.lack) (b : Int) : (k.byte b).1.length ≤ 17 := by
  unfold Core.byte
  have hc : (if k.word then k.c.step b else k.c).Fit := by
    split
    · exact Chk.fit_step h.chk b
    · exact h.chk
  generalize (if k.word then k.c.step b else k.c) = c' at hc
  have hk : Core.Fit N { k with s := k.s ++ [UInt8.ofNat b.toNat], lack := k.lack - 1, c := c' } :=
    ⟨h.depth, h.opens, h.parts, by have := h.lack; simp only [List.length_append, List.length_singleton]; omega, hc⟩
  simp only []
  split
  · simp [Core.fail]
  · split
    · simp
    · exact len_text hk

theorem len_count {N : Int} {p : Pk} (h : p.c.Fit N) (pairs : Bool) (n : Int) : (p.count pairs n).1.length ≤ 18 := by
  unfold Pk.count
  split
  · simp [Pk.put, Core.fail]
  · exact len_begin h pairs n

theorem len_step {N : Int} {p : Pk} (h : p.Fit N) {b : Int} (hb : 0 ≤ b) : (p.step b).1.length ≤ 18 := by
  have hv : ∀ q, (p.c.value q).1.length ≤ 18 := fun q => Nat.le_trans (len_value h.core q) (by omega)
  unfold Pk.step
  split
  · simp
  split
  · rename_i hl
    exact Nat.le_trans (len_byte h.core hl b) (by omega)
  split
  · rename_i hk
    obtain ⟨h1, h2, h3, h4, h5⟩ := h.num hk
    unfold Pk.number
    split
    · simp
    · unfold Pk.told
      split
      · exact hv _
      · split
        · exact hv _
        · split
          · exact Nat.le_trans (len_length h.core _ (by omega)) (by omega)
          · exact len_count (p := { p with v := p.v * 256 + b, lack := p.lack - 1, kind := 0 }) h.core _ _
  · exact item_cases (P := fun t => t.1.length ≤ 18) (fun e => Nat.zero_le _) (fun _ _ => hv _) (fun _ => len_count h.core _ _) (Nat.le_trans (len_length h.core _ (by omega)) (by omega)) (hv _) (fun _ => hv _) (by rw [long_nil]; exact Nat.zero_le _)
end Go.Tru
