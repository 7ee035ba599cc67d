/-
  An own row of api.Ev: append to it.
-/
import Derived.Test.YtmhkgfddlkdmgaaAnys
namespace Go.Tru
theorem ev_one (es : List Ev) : ∀ u ∈ es.flatMap Ev.cells, u.oneCell' = true := by
  intro u hu
  obtain ⟨e, _, h⟩ := List.mem_flatMap.1 hu
  simp only [Ev.cells, List.mem_cons, List.not_mem_nil, or_false] at h
  rcases h with rfl | rfl | rfl | rfl | rfl <;> rfl

/-- The slice value v holds these parts, in a row that the call owns. -/
def OwnsEvs (w : World) (base : Nat) (v : Value) (es : List Ev) : Prop := w.ownsRow base 34 5 v es.length (es.flatMap Ev.cells)

theorem OwnsEvs.nil (w : World) (base : Nat) : OwnsEvs w base (.slice none 0 0) [] := World.ownsRow_nil _ _ _ _

theorem OwnsEvs.shape {w : World} {base : Nat} {v : Value} {es : List Ev} (h : OwnsEvs w base v es) : ∃ a cap, v = .slice a es.length cap := by
  rcases h.2 with ⟨h1, h2⟩ | ⟨g, cap, cur, h1, _⟩
  · exact ⟨none, 0, by rw [h1, h2]⟩
  · exact ⟨_, _, h1⟩
end Go.Tru
namespace Go.Proofs.Ytmhkgfddlkdmgaa
open Go.RowKit Go.Tru

theorem info_ev : (Try.prog.info? 34).map (fun i => (i.zero, i.size, i.bytes)) = some (some (.agg #[.int .i64 0, .bool false, .int .u64 0, .string ⟨#[]⟩, .int .i64 0]), 5, 48) := by kernel_rfl

/-- append to an own row of parts -/
theorem app_evs {ops : Array Oper} {rest : List Oper} {o : Oper} {a : Act} {w : World} {Q : Exit → Act → World → Prop} (hgd : o.guard = none) (s x : Operand)
    (ho : o.op = .call { callee := .builtin .append, args := #[s, x], argTypes := #[23, 23] })
    (base : Nat) (v : Value) (es : List Ev) (hs : a.eval s = v) (hown : OwnsEvs w base v es)
    (ad : Addr) (m c : Nat) (ds : List Ev) (hx : a.eval x = .slice (some ad) m c) (hl : ds.length = m) (hnews : ∀ (j : Nat) (u : Value), (ds.flatMap Ev.cells)[j]? = some u → w.cell? (ad.add j) = some u)
    (hlen : es.length + m ≤ 1000000000) (hbase : base ≤ w.heap.size)
    (h : ∀ v' w', OwnsEvs w' base v' (es ++ ds) → Keeps (blks v) w w' → (v' = .slice none 0 0 ↔ v = .slice none 0 0 ∧ m = 0) → (v'.ownBlock = v.ownBlock ∨ v'.ownBlock = some w.heap.size) → wpList Try.prog ops Q rest (a.put o.dst v') w') :
    wpList Try.prog ops Q (o :: rest) a w := by
  obtain ⟨i0, hi, hz0, hz1, hz2⟩ := info_parts info_ev
  subst hl
  refine wpList_append_own_at w hgd s x 23 ho base 34 i0 (.agg #[.int .i64 0, .bool false, .int .u64 0, .string ⟨#[]⟩, .int .i64 0]) 5 48 Try.underlying23 hi hz0 hz1 hz2 rfl (by decide) v es.length (es.flatMap Ev.cells) hs hown ad ds.length c (ds.flatMap Ev.cells) hx (evCells_len ds) hnews (ev_one ds) (by unfold maxLen; omega) (by omega) hbase ?_
  intro v' w' h2 h3 h4 h5
  refine h v' w' ?_ (keeps_grown h3) h4 h5
  unfold OwnsEvs
  rw [List.length_append, List.flatMap_append]
  exact h2
end Go.Proofs.Ytmhkgfddlkdmgaa
