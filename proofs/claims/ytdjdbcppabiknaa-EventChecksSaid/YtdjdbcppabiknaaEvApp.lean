/-
  append to an own row of parts.
-/
import Derived.Test.YtdjdbcppabiknaaEventDeep
import Derived.Test.YtdjdbcppabiknaaWrapPlain
namespace Go.Proofs.Ytdjdbcppabiknaa
open Go.RowKit Go.Tru

theorem app_evs {ops : Array Oper} {rest : List Oper} {o : Oper} {a : Act} {w : World} {Q : Exit → Act → World → Prop} (hgd : o.guard = none) (s x : Operand)
    (ho : o.op = .call { callee := .builtin .append, args := #[s, x], argTypes := #[22, 22] })
    (base : Nat) (v : Value) (es : List Ev) (hs : a.eval s = v) (hown : OwnsEvs w base 32 v es)
    (ad : Addr) (m c : Nat) (ds : List Ev) (hx : a.eval x = .slice (some ad) m c) (hl : ds.length = m) (hnews : ∀ (j : Nat) (u : Value), (ds.flatMap Ev.cells)[j]? = some u → w.cell? (ad.add j) = some u)
    (hlen : es.length + m ≤ 1000000000) (hbase : base ≤ w.heap.size)
    (h : ∀ v' w', OwnsEvs w' base 32 v' (es ++ ds) → w.grownBy w' v.ownBlock → (v' = .slice none 0 0 ↔ v = .slice none 0 0 ∧ m = 0) → wpList Try.prog ops Q rest (a.put o.dst v') w') :
    wpList Try.prog ops Q (o :: rest) a w := by
  obtain ⟨i0, hi, hz0, hz1, hz2⟩ := info_parts info_ev
  subst hl
  refine wpList_append_own w hgd s x 22 ho base 32 i0 (.agg #[.int .i64 0, .bool false, .int .u64 0, .string ⟨#[]⟩, .int .i64 0]) 5 48 Try.underlying22 hi hz0 hz1 hz2 rfl (by decide) v es.length (es.flatMap Ev.cells) hs hown ad ds.length c (ds.flatMap Ev.cells) hx (evCells_len ds) hnews (ev_one ds) (by unfold maxLen; omega) (by omega) hbase ?_
  intro v' w' h1 h2 h3
  exact h v' w' (OwnsEvs.push h1 rfl) h2 h3

/-- A guarded step that is wanted is the step with no guard. -/
theorem wpList_wanted {P : Program} {ops : Array Oper} {rest : List Oper} {o : Oper} {a : Act} {w : World} {Q : Exit → Act → World → Prop} (hw : Region.wanted o (yielded ops a.tmps) = true)
    (h : wpList P ops Q ({ o with guard := none } :: rest) a w) : wpList P ops Q (o :: rest) a w := by
  unfold wpList at h ⊢
  rw [if_pos hw]
  rw [if_pos (by simp [Region.wanted])] at h
  exact h

theorem lit_ev {w : World} {base : Nat} (e : Ev) {g : Nat} (hg : g = w.heap.size) (hb : base ≤ g) : OwnsEvs (w.alloc (.cells e.cells.toArray 32)) base 32 (.slice (some ⟨g, 0, none⟩) 1 1) [e] := by
  unfold OwnsEvs
  subst hg
  exact ownsRow_lit (Has.new w ([e].flatMap Ev.cells) 32) hb rfl (by simp [maxLen])

theorem new_ev {w : World} (e : Ev) {g : Nat} (hg : g = w.heap.size) : ∀ (j : Nat) (u : Value), ([e].flatMap Ev.cells)[j]? = some u → (w.alloc (.cells e.cells.toArray 32)).cell? ((⟨g, 0, none⟩ : Addr).add j) = some u :=
  cells_new ([e].flatMap Ev.cells) hg
end Go.Proofs.Ytdjdbcppabiknaa
