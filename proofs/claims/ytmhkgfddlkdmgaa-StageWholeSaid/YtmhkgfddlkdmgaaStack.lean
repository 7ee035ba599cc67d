/-
  A stack of open containers (three cells each) in a slice that the call owns: top of the stack: head of the list.
-/
import Derived.Test.YtmhkgfddlkdmgaaTru
namespace Go.Tru

structure Cont where
  pairs : Bool
  count : Int
  parts : Int

def Cont.cells (c : Cont) : List Value := [.bool c.pairs, .int .i64 c.count, .int .i64 c.parts]
def Cont.val (c : Cont) : Value := .agg c.cells.toArray
def stkCells (s : List Cont) : List Value := s.reverse.flatMap Cont.cells

theorem stkCells_len (s : List Cont) : (stkCells s).length = s.length * 3 := by
  unfold stkCells
  induction s with
  | nil => rfl
  | cons c s ih => rw [List.reverse_cons, List.flatMap_append, List.length_append, ih]; simp [Cont.cells]; omega

theorem stkCells_cons (c : Cont) (s : List Cont) : stkCells (c :: s) = stkCells s ++ c.cells := by
  unfold stkCells
  rw [List.reverse_cons, List.flatMap_append, List.flatMap_cons, List.flatMap_nil, List.append_nil]

/-- The slice value v holds the stack s, in a row that the call owns. -/
def OwnsStk (w : World) (base E : Nat) (v : Value) (s : List Cont) : Prop := w.ownsRow base E 3 v s.length (stkCells s)

theorem OwnsStk.nil (w : World) (base E : Nat) : OwnsStk w base E (.slice none 0 0) [] := World.ownsRow_nil _ _ _ _

theorem OwnsStk.some_ {w : World} {base E : Nat} {v : Value} {c : Cont} {s : List Cont} (h : OwnsStk w base E v (c :: s)) :
    ∃ g cap, v = .slice (some ⟨g, 0, none⟩) (s.length + 1) cap ∧ base ≤ g ∧ g < w.heap.size ∧ s.length + 1 ≤ cap ∧ cap ≤ maxLen ∧
      w.cell? ⟨g, s.length * 3, none⟩ = some (.bool c.pairs) ∧ w.cell? ⟨g, s.length * 3 + 1, none⟩ = some (.int .i64 c.count) ∧ w.cell? ⟨g, s.length * 3 + 2, none⟩ = some (.int .i64 c.parts) ∧
      ∀ j, w.frozen? ⟨g, j, none⟩ = false := by
  have hlt := World.ownsRow.lt h
  rcases h.2 with ⟨_, h2⟩ | ⟨g, cap, cur, rfl, hb, hg, hn, hm, _⟩
  · simp at h2
  · have hl := stkCells_len s
    refine ⟨g, cap, rfl, hb, (hlt g rfl).2, hn, hm, ?_, ?_, ?_, fun j => h.frozenAt j⟩
    all_goals
      rw [h.cellAt _ (by simp only [List.length_cons]; omega), stkCells_cons, List.getElem?_append_right (by omega), hl]
      simp [Cont.cells]

theorem OwnsStk.pop {w : World} {base E g cap : Nat} {c : Cont} {s : List Cont} (h : OwnsStk w base E (.slice (some ⟨g, 0, none⟩) (s.length + 1) cap) (c :: s)) :
    OwnsStk w base E (.slice (some ⟨g, 0, none⟩) s.length cap) s := by
  unfold OwnsStk at h ⊢
  rw [stkCells_cons] at h
  exact ownsRow_pop (stkCells_len s) h

theorem OwnsStk.setParts {w : World} {base E g cap : Nat} {c : Cont} {s : List Cont} (h : OwnsStk w base E (.slice (some ⟨g, 0, none⟩) (s.length + 1) cap) (c :: s)) (p : Int) :
    OwnsStk (w.setCell ⟨g, s.length * 3 + 2, none⟩ (.int .i64 p)) base E (.slice (some ⟨g, 0, none⟩) (s.length + 1) cap) ({ c with parts := p } :: s) := by
  have h1 := (World.ownsRow.stored h (s.length * 3 + 2) (.int .i64 p)).1
  unfold OwnsStk
  have e : (stkCells (c :: s)).set (s.length * 3 + 2) (.int .i64 p) = stkCells ({ c with parts := p } :: s) := by
    have hl := stkCells_len s
    rw [stkCells_cons, stkCells_cons, List.set_append_right _ _ (by omega), hl]
    have : s.length * 3 + 2 - s.length * 3 = 2 := by omega
    rw [this]
    simp [Cont.cells]
  rw [e] at h1
  exact h1

theorem OwnsStk.shape {w : World} {base E : Nat} {v : Value} {s : List Cont} (h : OwnsStk w base E v s) : ∃ a cap, v = .slice a s.length cap := by
  rcases h.2 with ⟨h1, h2⟩ | ⟨g, cap, cur, h1, _⟩
  · exact ⟨none, 0, by rw [h1, h2]⟩
  · exact ⟨_, _, h1⟩

/-- what has just been laid, cell by cell -/
theorem cells_new {w : World} {t : TypeId} (cs : List Value) {n : Nat} (hn : n = w.heap.size) : ∀ (j : Nat) (u : Value), cs[j]? = some u → (w.alloc (.cells cs.toArray t)).cell? ((⟨n, 0, none⟩ : Addr).add j) = some u := by
  intro j u hu
  subst hn
  have hadd : (⟨w.heap.size, 0, none⟩ : Addr).add j = ⟨w.heap.size, j, none⟩ := by unfold Addr.add; split <;> simp_all
  rw [hadd, World.cell?_alloc_new]
  simpa using hu

theorem cont_one (c : Cont) : ∀ u ∈ c.cells, u.oneCell' = true := by
  intro u hu
  simp only [Cont.cells, List.mem_cons, List.not_mem_nil, or_false] at hu
  rcases hu with rfl | rfl | rfl <;> rfl

theorem len_beq {α : Type} (r : List α) : (((r.length : Nat) : Int) == 0) = r.isEmpty := by
  cases r with
  | nil => rfl
  | cons x r => simp; omega

theorem OwnsStk.push {w : World} {base E n : Nat} {v : Value} {c : Cont} {s : List Cont} (h : w.ownsRow base E 3 v n (stkCells s ++ c.cells)) (hn : n = s.length + 1) : OwnsStk w base E v (c :: s) := by
  subst hn
  unfold OwnsStk
  rw [stkCells_cons]
  exact h

end Go.Tru
