/-
  truchmanref1.Writer: its open containers: copied, grown, counted up.
-/
import Derived.Test.YtdfdajedcgmbfaaWr
import Derived.Maps.AppendAt
namespace Go.Proofs.Ytdfdajedcgmbfaa
open Go.RowKit Go.Tru

theorem info_box : (Try.prog.info? 49).map (fun i => (i.zero, i.size, i.bytes)) = some (some (.agg #[.bool false, .int .i64 0, .int .i64 0]), 3, 24) := by kernel_rfl

theorem stk_one (l : List Cont) : ∀ u ∈ stkCells l, u.oneCell' = true := by
  intro u hu
  obtain ⟨c, _, h⟩ := List.mem_flatMap.1 hu
  exact cont_one c u h

theorem stk_app (l d : List Cont) : stkCells l ++ stkCells d = stkCells (d ++ l) := by
  unfold stkCells
  rw [List.reverse_append, List.flatMap_append]

/-- append to an own row of boxes -/
theorem app_box {ops : Array Oper} {rest : List Oper} {o : Oper} {a : Act} {w : World} {Q : Exit → Act → World → Prop} (hgd : o.guard = none) (s x : Operand)
    (ho : o.op = .call { callee := .builtin .append, args := #[s, x], argTypes := #[28, 28] })
    (base : Nat) (v : Value) (l : List Cont) (hs : a.eval s = v) (hown : OwnsStk w base 49 v l) (ad : Addr) (m c : Nat) (ds : List Cont) (hx : a.eval x = .slice (some ad) m c) (hm : ds.length = m)
    (hnews : ∀ (j : Nat) (u : Value), (stkCells ds)[j]? = some u → w.cell? (ad.add j) = some u) (hlen : l.length + m ≤ 1000000) (hbase : base ≤ w.heap.size)
    (h : ∀ v' w', OwnsStk w' base 49 v' (ds ++ l) → Keeps (blks v) w w' → (v'.ownBlock = v.ownBlock ∨ v'.ownBlock = some w.heap.size) → wpList Try.prog ops Q rest (a.put o.dst v') w') :
    wpList Try.prog ops Q (o :: rest) a w := by
  obtain ⟨i0, hi, hz0, hz1, hz2⟩ := info_parts info_box
  subst hm
  refine wpList_append_own_at w hgd s x 28 ho base 49 i0 (.agg #[.bool false, .int .i64 0, .int .i64 0]) 3 24 Try.underlying28 hi hz0 hz1 hz2 rfl (by decide) v l.length (stkCells l) hs hown ad ds.length c (stkCells ds) hx (stkCells_len ds) hnews (stk_one ds) (by unfold maxLen; omega) (by omega) hbase ?_
  intro v' w' h2 h3 _ h5
  refine h v' w' ?_ (keeps_grown h3) h5
  unfold OwnsStk
  rw [← stk_app, List.length_append, Nat.add_comm]
  exact h2

/-- the same, within a region that draws its order -/
theorem wp_app_box {o : Oper} {a : Act} {w : World} {K : Act → World → Prop} {Q : Exit → Act → World → Prop} (s x : Operand)
    (ho : o.op = .call { callee := .builtin .append, args := #[s, x], argTypes := #[28, 28] })
    (base : Nat) (v : Value) (l : List Cont) (hs : a.eval s = v) (hown : OwnsStk w base 49 v l) (ad : Addr) (m c : Nat) (ds : List Cont) (hx : a.eval x = .slice (some ad) m c) (hm : ds.length = m)
    (hnews : ∀ (j : Nat) (u : Value), (stkCells ds)[j]? = some u → w.cell? (ad.add j) = some u) (hlen : l.length + m ≤ 1000000) (hbase : base ≤ w.heap.size)
    (h : ∀ v' w', OwnsStk w' base 49 v' (ds ++ l) → Keeps (blks v) w w' → (v'.ownBlock = v.ownBlock ∨ v'.ownBlock = some w.heap.size) → K (a.put o.dst v') w') : Oper.wp Try.prog o a w K Q := by
  obtain ⟨i0, hi, hz0, hz1, hz2⟩ := info_parts info_box
  subst hm
  obtain ⟨v', w', hr, h2, h3, _, h5⟩ := run_append_own_at (P := Try.prog) w base 28 o.type 49 i0 (.agg #[.bool false, .int .i64 0, .int .i64 0]) 3 24 Try.underlying28 hi hz0 hz1 hz2 rfl (by decide) v l.length (stkCells l) hown ad ds.length c (stkCells ds) (stkCells_len ds) hnews (stk_one ds) (by unfold maxLen; omega) (by omega) hbase
  unfold Oper.wp execOp
  simp only [ho, resolve, invoke, builtin, Sem.run_bind, Sem.run_pure, Result.andThen_ok, List.map_toArray, List.map_cons, List.map_nil, hs, hx, hr]
  refine h v' w' ?_ (keeps_grown h3) h5
  unfold OwnsStk
  rw [← stk_app, List.length_append, Nat.add_comm]
  exact h2
end Go.Proofs.Ytdfdajedcgmbfaa
