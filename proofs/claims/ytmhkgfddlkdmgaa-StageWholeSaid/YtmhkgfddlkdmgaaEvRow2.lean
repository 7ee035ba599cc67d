/-
  An own row of api.Ev: append another own row to it; its first count turned.
-/
import Derived.Test.YtmhkgfddlkdmgaaEvRow
import Derived.Laws.AppendOwnNone
namespace Go.Tru
theorem evsCells_set (e : Ev) (es : List Ev) (n : Int) : ((e :: es).flatMap Ev.cells).set 4 (.int .i64 n) = ({ e with count := n } :: es).flatMap Ev.cells := by
  simp [Ev.cells]

theorem OwnsEvs.setCount {w : World} {base g cap : Nat} {e : Ev} {es : List Ev} (h : OwnsEvs w base (.slice (some ⟨g, 0, none⟩) (es.length + 1) cap) (e :: es)) (x : Int) :
    OwnsEvs (w.setCell ⟨g, 4, none⟩ (.int .i64 x)) base (.slice (some ⟨g, 0, none⟩) (es.length + 1) cap) ({ e with count := x } :: es) := by
  have h1 := (World.ownsRow.stored h 4 (.int .i64 x)).1
  unfold OwnsEvs
  rw [evsCells_set] at h1
  exact h1

theorem OwnsEvs.some_ {w : World} {base : Nat} {v : Value} {e : Ev} {es : List Ev} (h : OwnsEvs w base v (e :: es)) :
    ∃ g cap, v = .slice (some ⟨g, 0, none⟩) (es.length + 1) cap ∧ base ≤ g ∧ g < w.heap.size ∧ es.length + 1 ≤ cap ∧ cap ≤ maxLen ∧ ∀ j, w.frozen? ⟨g, j, none⟩ = false := by
  have hlt := World.ownsRow.lt h
  rcases h.2 with ⟨_, h2⟩ | ⟨g, cap, cur, rfl, hb, hg, hn, hm, _⟩
  · simp at h2
  · exact ⟨g, cap, rfl, hb, (hlt g rfl).2, hn, hm, fun j => World.ownsRow.frozenAt h j⟩
end Go.Tru
namespace Go.Proofs.Ytmhkgfddlkdmgaa
open Go.RowKit Go.Tru

/-- append an own row of parts to another one -/
theorem app_evs_own {ops : Array Oper} {rest : List Oper} {o : Oper} {a : Act} {w : World} {Q : Exit → Act → World → Prop} (hgd : o.guard = none) (s x : Operand)
    (ho : o.op = .call { callee := .builtin .append, args := #[s, x], argTypes := #[23, 23] })
    (base base2 : Nat) (v vx : Value) (es ds : List Ev) (hs : a.eval s = v) (hown : OwnsEvs w base v es) (hx : a.eval x = vx) (hds : OwnsEvs w base2 vx ds)
    (hlen : es.length + ds.length ≤ 1000000000) (hbase : base ≤ w.heap.size)
    (h : ∀ v' w', OwnsEvs w' base v' (es ++ ds) → Keeps (blks v) w w' → (v' = .slice none 0 0 ↔ v = .slice none 0 0 ∧ ds.length = 0) → (v'.ownBlock = v.ownBlock ∨ v'.ownBlock = some w.heap.size) → wpList Try.prog ops Q rest (a.put o.dst v') w') :
    wpList Try.prog ops Q (o :: rest) a w := by
  rcases hds.2 with ⟨rfl, h0⟩ | ⟨g, cap, cur, rfl, hb, hg, hr⟩
  · obtain ⟨i0, hi, hz0, hz1, hz2⟩ := info_parts info_ev
    obtain rfl : ds = [] := List.length_eq_zero_iff.1 h0
    refine wpList_append_own_none hgd s x 23 ho base 34 i0 5 Try.underlying23 hi v es.length (es.flatMap Ev.cells) hs hown hx ?_
    exact h v w (by rw [List.append_nil]; exact hown) (Keeps.refl _ _) (by simp) (Or.inl rfl)
  · refine app_evs hgd s x ho base v es hs hown ⟨g, 0, none⟩ ds.length cap ds hx rfl (World.ownsRow.cells hds (g := g) rfl) hlen hbase h
end Go.Proofs.Ytmhkgfddlkdmgaa
