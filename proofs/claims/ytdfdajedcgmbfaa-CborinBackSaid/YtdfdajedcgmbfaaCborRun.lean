/-
  cborin's Parser, plain: its parts are clear; how many they are.
-/
import Derived.Test.YtdfdajedcgmbfaaCborModel
namespace Go.Tru

theorem clear_close : ∀ l : List Cont, ∀ q ∈ (closeUp l).1, Clear q
  | [] => by simp [closeUp]
  | c :: r => by
    unfold closeUp
    split
    · intro q hq
      simp only [List.mem_cons] at hq
      rcases hq with rfl | hq
      · exact Or.inr (Or.inr (Or.inr (Or.inr (Or.inr (Or.inr (Or.inr rfl))))))
      · exact clear_close r q hq
    · simp

theorem len_close : ∀ l : List Cont, (closeUp l).1.length ≤ l.length
  | [] => by simp [closeUp]
  | c :: r => by
    have := len_close r
    unfold closeUp
    split
    · simp only [List.length_cons]; omega
    · simp

theorem clear_end' : Clear evEnd := Or.inr (Or.inr (Or.inr (Or.inr (Or.inr (Or.inr (Or.inr rfl))))))

theorem clear_value {k : Core} {p : Ev} (h : Clear p) : ∀ q ∈ (k.value p).1, Clear q := by
  intro q hq
  simp only [Core.value, List.mem_cons] at hq
  rcases hq with rfl | hq
  · exact h
  · exact clear_close _ q hq

theorem clear_beginEv (pairs : Bool) {n : Int} (h : -1 ≤ n) : Clear (beginEv pairs n) := by
  unfold beginEv
  split
  · exact Or.inr (Or.inr (Or.inr (Or.inr (Or.inr (Or.inr (Or.inl ⟨n, h, rfl⟩))))))
  · exact Or.inr (Or.inr (Or.inr (Or.inr (Or.inr (Or.inl ⟨n, h, rfl⟩)))))

theorem clear_begin {k : Core} (pairs : Bool) {n : Int} (h : -1 ≤ n) : ∀ q ∈ (k.begin pairs n).1, Clear q := by
  unfold Core.begin
  split
  · intro q hq
    simp only [List.mem_cons] at hq
    rcases hq with rfl | hq
    · exact clear_beginEv pairs h
    · exact clear_value clear_end' q hq
  · intro q hq
    simp only [List.mem_singleton] at hq
    subst hq
    exact clear_beginEv pairs h

theorem clear_word (word : Bool) (l : List UInt8) : Clear (wordEv word l) := by
  unfold wordEv
  split
  · exact Or.inr (Or.inr (Or.inr (Or.inl ⟨_, rfl⟩)))
  · exact Or.inr (Or.inr (Or.inr (Or.inr (Or.inl ⟨_, rfl⟩))))

theorem clear_text' {k : Core} : ∀ q ∈ k.text.1, Clear q := clear_value (clear_word _ _)

theorem clear_length {k : Core} (word : Bool) (n : Int) : ∀ q ∈ (k.length word n).1, Clear q := by
  unfold Core.length
  split
  · simp [Core.fail]
  · simp only []
    split
    · simp
    · exact clear_text'

theorem clear_byte {k : Core} (b : Int) : ∀ q ∈ (k.byte b).1, Clear q := by
  unfold Core.byte
  simp only []
  generalize (if k.word then k.c.step b else k.c) = c'
  split
  · simp [Core.fail]
  · split
    · simp
    · exact clear_text'

theorem clear_int' (b : Bool) (m : Int) : Clear (evInt b m) := Or.inr (Or.inr (Or.inl ⟨_, _, rfl⟩))

theorem clear_brk {k : Core} : ∀ q ∈ k.brk.1, Clear q := by
  unfold Core.brk
  split
  · simp [Core.fail]
  · split
    · simp [Core.fail]
    · exact clear_value clear_end'

theorem clear_told {p : Cb} {v : Int} (hv : 0 ≤ v) (major : Int) (without : Bool) : ∀ q ∈ (p.told major v without).1, Clear q := by
  unfold Cb.told
  split
  · exact clear_value (clear_int' _ _)
  split
  · split
    · simp
    · exact clear_length _ _
  split
  · exact clear_begin _ (by omega)
  split
  · simp [Cb.put, Core.fail]
  · exact clear_begin _ (by omega)

theorem clear_first {p : Cb} {b : Int} : ∀ q ∈ (p.first b).1, Clear q := by
  unfold Cb.first
  split
  · exact clear_told (by omega) _ _
  split
  · simp
  split
  · exact clear_told (by omega) _ _
  · simp [Cb.put, Core.fail]

theorem clear_more {p : Cb} (h : p.h.Fit) {b : Int} (hb : 0 ≤ b) : ∀ q ∈ (p.more b).1, Clear q := by
  have := h.v
  unfold Cb.more
  split
  · simp
  · exact clear_told (by omega) _ _

theorem clear_step {N : Int} {p : Cb} (h : p.Fit N) {b : Int} (hb : 0 ≤ b) : ∀ q ∈ (p.step b).1, Clear q := by
  unfold Cb.step
  by_cases he : p.c.e ≠ 0
  · rw [if_pos he]; simp
  rw [if_neg he]
  have he0 : p.c.e = 0 := by omega
  split
  · exact clear_byte b
  split
  · rename_i hbg
    exact clear_more (h.head he0 hbg).1 hb
  split
  · unfold Cb.chunk
    split
    · exact clear_text'
    by_cases h2 : b / 32 ≠ (if p.c.word = true then 3 else 2) ∨ b % 32 = 31
    · rw [if_pos h2]; simp [Cb.put, Core.fail]
    · rw [if_neg h2]; exact clear_first
  · unfold Cb.item
    split
    · simp [Cb.put, Core.fail]
    split
    · simp [Cb.put, Core.fail]
    split
    · exact clear_brk
    split
    · simp [Cb.put, Core.fail]
    split
    · unfold Cb.simple
      split
      · exact clear_value (Or.inr (Or.inl ⟨_, rfl⟩))
      split
      · exact clear_value (Or.inl rfl)
      split
      · simp [Cb.put, Core.fail]
      · simp [Cb.put, Core.fail]
    split
    · simp [Cb.put, Core.fail]
    · exact clear_first

theorem len_value {N : Int} {k : Core} (h : k.Fit N) (p : Ev) : (k.value p).1.length ≤ 17 := by
  have := len_close k.open_
  have := h.opens
  have := h.depth
  simp only [Core.value, List.length_cons]
  omega

theorem len_begin {N : Int} {k : Core} (h : k.Fit N) (pairs : Bool) (n : Int) : (k.begin pairs n).1.length ≤ 18 := by
  have := len_value h evEnd
  unfold Core.begin
  split
  · simp only [List.length_cons]; omega
  · simp

theorem len_text {N : Int} {k : Core} (h : k.Fit N) : k.text.1.length ≤ 17 := by
  have hk : Core.Fit N { k with s := [], chunks := false } := ⟨h.depth, h.opens, h.parts, by have := h.lack; simp only [List.length_nil]; omega, h.chk⟩
  exact len_value hk _

theorem len_length {N : Int} {k : Core} (h : k.Fit N) (word : Bool) {n : Int} (hn : 0 ≤ n) : (k.length word n).1.length ≤ 17 := by
  unfold Core.length
  split
  · simp [Core.fail]
  · have hk : Core.Fit N { k with word := word, lack := n, c := Chk.zero } := ⟨h.depth, h.opens, h.parts, by simp only []; omega, Chk.fit_zero⟩
    simp only []
    split
    · simp
    · exact len_text hk

theorem len_byte {N : Int} {k : Core} (h : k.Fit N) (hl : 0 < k.lack) (b : Int) : (k.byte b).1.length ≤ 17 := by
  unfold Core.byte
  have hc : (if k.word then k.c.step b else k.c).Fit := by
    split
    · exact Chk.fit_step h.chk b
    · exact h.chk
  generalize (if k.word then k.c.step b else k.c) = c' at hc
  have hk : Core.Fit N { k with s := k.s ++ [UInt8.ofNat b.toNat], lack := k.lack - 1, c := c' } :=
    ⟨h.depth, h.opens, h.parts, by have := h.lack; simp only [List.length_append, List.length_singleton]; omega, hc⟩
  simp only []
  split
  · simp [Core.fail]
  · split
    · simp
    · exact len_text hk

theorem len_brk {N : Int} {k : Core} (h : k.Fit N) : k.brk.1.length ≤ 18 := by
  have hd := h.depth
  have ho := h.opens
  unfold Core.brk
  split
  · simp [Core.fail]
  · rename_i c r hr
    rw [hr, List.length_cons] at ho
    split
    · simp [Core.fail]
    · have := len_close r
      simp only [Core.value, List.length_cons]
      omega

theorem len_told {N : Int} {p : Cb} (h : p.c.Fit N) {v : Int} (hv : 0 ≤ v) (major : Int) (without : Bool) : (p.told major v without).1.length ≤ 18 := by
  unfold Cb.told
  split
  · exact Nat.le_trans (len_value h _) (by omega)
  split
  · split
    · simp
    · exact Nat.le_trans (len_length h _ hv) (by omega)
  split
  · exact len_begin h _ _
  split
  · simp [Cb.put, Core.fail]
  · exact len_begin h _ _

theorem len_first {N : Int} {p : Cb} (h : p.c.Fit N) {b : Int} : (p.first b).1.length ≤ 18 := by
  unfold Cb.first
  split
  · exact len_told (p := { p with h := Hd.zero, begun := false }) h (by omega) _ _
  split
  · simp
  split
  · exact len_told (p := { p with h := Hd.zero, begun := false }) h (by omega) _ _
  · simp [Cb.put, Core.fail]

theorem len_more {N : Int} {p : Cb} (h : p.c.Fit N) (hh : p.h.Fit) {b : Int} (hb : 0 ≤ b) : (p.more b).1.length ≤ 18 := by
  have := hh.v
  unfold Cb.more
  split
  · simp
  · exact len_told (p := { p with h := Hd.zero, begun := false }) h (by omega) _ _

theorem len_step {N : Int} {p : Cb} (h : p.Fit N) {b : Int} (hb : 0 ≤ b) : (p.step b).1.length ≤ 18 := by
  have hv : ∀ q, (p.c.value q).1.length ≤ 18 := fun q => Nat.le_trans (len_value h.core q) (by omega)
  unfold Cb.step
  by_cases he : p.c.e ≠ 0
  · rw [if_pos he]; simp
  rw [if_neg he]
  have he0 : p.c.e = 0 := by omega
  split
  · rename_i hl
    exact Nat.le_trans (len_byte h.core hl b) (by omega)
  split
  · rename_i hbg
    exact len_more h.core (h.head he0 hbg).1 hb
  split
  · unfold Cb.chunk
    split
    · exact Nat.le_trans (len_text h.core) (by omega)
    by_cases h2 : b / 32 ≠ (if p.c.word = true then 3 else 2) ∨ b % 32 = 31
    · rw [if_pos h2]; simp [Cb.put, Core.fail]
    · rw [if_neg h2]; exact len_first h.core
  · unfold Cb.item
    split
    · simp [Cb.put, Core.fail]
    split
    · simp [Cb.put, Core.fail]
    split
    · exact len_brk h.core
    split
    · simp [Cb.put, Core.fail]
    split
    · unfold Cb.simple
      split
      · exact hv _
      split
      · exact hv _
      split
      · simp [Cb.put, Core.fail]
      · simp [Cb.put, Core.fail]
    split
    · simp [Cb.put, Core.fail]
    · exact len_first h.core
end Go.Tru
