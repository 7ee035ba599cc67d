/-
  truchmanref1.May: a part that may be.
  truchmanref1.Writer in memory; Step at a part that stands alone.
  truchmanref1.Writer: its open containers: copied, grown, counted up.
  truchmanref1.Writer.Step for JSON, at a part that stands alone. Printed by wip/genwrj.py.
  truchmanref1.Writer.Step at a container's end: one of a count.
  truchmanref1.Writer.Step for JSON, at a container's end. Printed by wip/genwrj.py.
  truchmanref1.Writer.Step for JSON, at a part within an open container. Printed by wip/genwrj.py.
  truchmanref1.Write (the rest of XRefText) and Write: their contracts.
  truchmanref1.Digits and Print: their contracts.
  truchmanref1.plain for JSON: the parts of a document.
  truchmanref1.Writer: its list of open containers put back, a new one.
-/
import Derived.Test.YtbeocehadnhmnaaEvMore
import Derived.Test.YtbeocehadnhmnaaStack
import Derived.Test.YtbeocehadnhmnaaAnys
import Derived.Deep.RegionHeld
import Derived.Deep.QuietTactic
import Derived.BigQuiet
import Derived.Maps.AppendAt
import Derived.Test.YtbeocehadnhmnaaRows
import Derived.Test.YtbeocehadnhmnaaEscModel
import Derived.Lib.Builder
import Derived.Lib.Strings
import Derived.Deep.RegionWith
import Derived.Test.YtbeocehadnhmnaaDecModel

namespace Go.Proofs.Ytbeocehadnhmnaa
open Go.RowKit Go.Tru

theorem may_yes (e : Ev) (h : (0 ≤ e.kind ∧ e.kind ≤ 7 ∧ e.kind ≠ 5 ∧ e.kind ≠ 6) ∨ ((e.kind = 5 ∨ e.kind = 6) ∧ -1 ≤ e.count)) (w : World) : Calls Try.prog 22 #[e.val] w fun r w' => r = .returned (.bool true) ∧ Keeps [] w w' := by
  obtain ⟨k, y, m, t, c⟩ := e
  simp only [Ev.val, Ev.cells] at *
  rcases h with ⟨h0, h7, h5, h6⟩ | ⟨rfl | rfl, h⟩
  · have h5' : (k != 5) = true := by simpa using h5
    have h6' : (k != 6) = true := by simpa using h6
    go_enter Try.func22, Try.ntmps22
    go_wp2_with fail
    go_ret
    exact ⟨rfl, (Keeps.refl _ _).alloc _⟩
  all_goals
    go_enter Try.func22, Try.ntmps22
    go_wp2_with fail
    go_ret
    exact ⟨rfl, (Keeps.refl _ _).alloc _⟩
end Go.Proofs.Ytbeocehadnhmnaa

namespace Go.Proofs.Ytbeocehadnhmnaa
open Go.RowKit Go.Tru

/-- a Writer: its format, its open containers, is it done -/
structure WrIn (w : World) (base b : Nat) (to : Int) (ov : Value) (stk : List Cont) (done : Bool) : Prop where
  blk : Has w b [.int .i64 to, ov, .bool done] 30
  opn : OwnsStk w base 64 ov stk
  bo : b ∉ blks ov

theorem WrIn.keeps {F : List Nat} {w w' : World} {base b : Nat} {to : Int} {ov : Value} {stk : List Cont} {done : Bool} (h : WrIn w base b to ov stk done) (k : Keeps F w w') (hb : b ∉ F) (ho : ∀ i ∈ blks ov, i ∉ F) : WrIn w' base b to ov stk done :=
  ⟨h.blk.keeps k hb, ownsRow_keeps h.opn k (fun i hi => ho i (mem_blks.2 hi)), h.bo⟩

theorem WrIn.cells {w : World} {base b : Nat} {to : Int} {ov : Value} {stk : List Cont} {done : Bool} (h : WrIn w base b to ov stk done) :
    w.cell? ⟨b, 0, none⟩ = some (.int .i64 to) ∧ w.cell? ⟨b, 1, none⟩ = some ov ∧ w.cell? ⟨b, 2, none⟩ = some (.bool done) := ⟨h.blk.cell 0, h.blk.cell 1, h.blk.cell 2⟩

/-- what Step leaves -/
def WrPost (w : World) (base b : Nat) (to : Int) (ov : Value) (out : ByteArray) (stk : List Cont) (done : Bool) (r : Ending) (w' : World) : Prop :=
  r = .returned (.tuple #[.string out, .int .i64 0]) ∧ ∃ ov', WrIn w' base b to ov' stk done ∧ Keeps (b :: blks ov) w w' ∧ ∀ i ∈ blks ov', i ∈ blks ov ∨ w.heap.size ≤ i

set_option maxHeartbeats 1600000 in
set_option maxRecDepth 100000 in
theorem wstep_leaf0 {to : Int} (hto : to = 2 ∨ to = 3) (e : Ev) (hk : 0 ≤ e.kind ∧ e.kind ≤ 4) {bs : ByteArray} (hbs : bs.size ≤ 1000000)
    (HP : ∀ W, Calls Try.prog 25 #[.int .i64 to, e.val] W fun r w' => r = .returned (.tuple #[.string bs, .int .i64 0]) ∧ Keeps [] W w')
    {w : World} {base b : Nat} {ov : Value} (h : WrIn w base b to ov [] false) :
    Calls Try.prog 12 #[.pointer (some ⟨b, 0, none⟩), e.val] w (WrPost w base b to ov bs [] true) := by
  have HM := Lib.hid (fun W => may_yes e (Or.inl (by omega)) W)
  obtain ⟨a, cap, rfl⟩ := h.opn.shape
  obtain ⟨k, y, m, t, c⟩ := e
  simp only [Ev.val, Ev.cells, List.length_nil] at *
  have h1 : (to == 1) = false := by rcases hto with rfl | rfl <;> decide
  have k5 : (k == 5) = false := by simp; omega
  have k6 : (k == 6) = false := by simp; omega
  have k7 : (k == 7) = false := by simp; omega
  have hcat : (⟨#[]⟩ : ByteArray) ++ bs = bs := ByteArray.empty_append
  have HP := Lib.hid HP
  have H := Lib.hid h
  have hbl := h.blk.lt
  clear h hto hk
  go_enter Try.func12, Try.ntmps12
  have hnew := Has.new' w #[.int .i64 k, .bool y, .int .u64 m, .string t, .int .i64 c] 36 rfl
  have k0 := (Keeps.refl [] w).alloc (.cells #[.int .i64 k, .bool y, .int .u64 m, .string t, .int .i64 c] 36)
  obtain ⟨w1, hw1⟩ : ∃ w1, w.alloc (.cells #[.int .i64 k, .bool y, .int .u64 m, .string t, .int .i64 c] 36) = w1 := ⟨_, rfl⟩
  have H1 := Lib.hid (H.out.keeps (k0) (by simp) (by simp))
  rw [hw1] at hnew k0 H1
  obtain ⟨g0, g1, g2⟩ := H1.out.cells
  have e0 : w1.cell? ⟨w.heap.size, 0, none⟩ = some (.int .i64 k) := hnew.cell 0
  have e1 : w1.cell? ⟨w.heap.size, 1, none⟩ = some (.bool y) := hnew.cell 1
  have e2 : w1.cell? ⟨w.heap.size, 2, none⟩ = some (.int .u64 m) := hnew.cell 2
  have e3 : w1.cell? ⟨w.heap.size, 3, none⟩ = some (.string t) := hnew.cell 3
  have e4 : w1.cell? ⟨w.heap.size, 4, none⟩ = some (.int .i64 c) := hnew.cell 4
  have K0 := Lib.hid k0
  have HN := Lib.hid hnew
  clear hnew k0
  go_wp2_with fail
  go_wp2_with fail
  refine (HM.out _).mono ?_
  rintro e w2 ⟨rfl, k2⟩
  have H2 := Lib.hid (H1.out.keeps k2 (by simp) (by simp))
  have hnew := HN.out.keeps k2 (by simp)
  have K2 := Lib.hid (K0.out.trans k2)
  clear g0 g1 g2 e0 e1 e2 e3 e4 hw1
  obtain ⟨g0, g1, g2⟩ := H2.out.cells
  have e0 : w2.cell? ⟨w.heap.size, 0, none⟩ = some (.int .i64 k) := hnew.cell 0
  have e1 : w2.cell? ⟨w.heap.size, 1, none⟩ = some (.bool y) := hnew.cell 1
  have e2 : w2.cell? ⟨w.heap.size, 2, none⟩ = some (.int .u64 m) := hnew.cell 2
  have e3 : w2.cell? ⟨w.heap.size, 3, none⟩ = some (.string t) := hnew.cell 3
  have e4 : w2.cell? ⟨w.heap.size, 4, none⟩ = some (.int .i64 c) := hnew.cell 4
  have HN2 := Lib.hid hnew
  clear hnew k2 K0 HN H1
  go_wp2_with fail
  go_region_held (fun W => W.cell? ⟨b, 0, none⟩ = some (.int .i64 to) ∧ W.cell? ⟨w.heap.size, 0, none⟩ = some (.int .i64 k) ∧ W.cell? ⟨w.heap.size, 1, none⟩ = some (.bool y) ∧ W.cell? ⟨w.heap.size, 2, none⟩ = some (.int .u64 m) ∧ W.cell? ⟨w.heap.size, 3, none⟩ = some (.string t) ∧ W.cell? ⟨w.heap.size, 4, none⟩ = some (.int .i64 c)) (go_keep) ((go_at_call 25; refine (HP.out _).mono ?_; rintro e w4 ⟨rfl, k4⟩; have d := k4.cell (p := ⟨b, 0, none⟩) g0 (by simp); have d0 := k4.cell (p := ⟨w.heap.size, 0, none⟩) e0 (by simp); have d1 := k4.cell (p := ⟨w.heap.size, 1, none⟩) e1 (by simp); have d2 := k4.cell (p := ⟨w.heap.size, 2, none⟩) e2 (by simp); have d3 := k4.cell (p := ⟨w.heap.size, 3, none⟩) e3 (by simp); have d4 := k4.cell (p := ⟨w.heap.size, 4, none⟩) e4 (by simp)))
  all_goals
    have k24 := (Keeps.refl [] w2).drew.trans k4
    have H4 := Lib.hid (H2.out.keeps k24 (by simp) (by simp))
    have K4 := Lib.hid (K2.out.trans k24)
    have g2 := H4.out.blk.cell 2
    have f2 := H4.out.blk.free 2
    have hb4 := H4.out.blk.lt
    simp only [List.getElem?_cons_succ, List.getElem?_cons_zero] at g2
    clear g0 g1 e0 e1 e2 e3 e4 k4 k24 d1 d2 d3 d4 HN2 K2 H2
    go_wp2_with fail
    go_ret2
    refine ⟨rfl, _, ⟨(H4.out.blk.set 2 (.bool true)).conv rfl, ownsRow_keeps H4.out.opn ((Keeps.refl [b] _).set1 _) (fun i hi hm => H4.out.bo (by rw [List.mem_singleton] at hm; exact hm ▸ mem_blks.2 hi)), H4.out.bo⟩, ?_, fun i hi => Or.inl hi⟩
    exact (K4.out.mono (G := b :: blks (.slice a 0 cap)) (fun i hi => by cases hi)).setCell (p := ⟨b, 2, none⟩) (Or.inl (List.mem_cons_self ..)) _
end Go.Proofs.Ytbeocehadnhmnaa

namespace Go.Proofs.Ytbeocehadnhmnaa
open Go.RowKit Go.Tru

theorem info_box : (Try.prog.info? 64).map (fun i => (i.zero, i.size, i.bytes)) = some (some (.agg #[.bool false, .int .i64 0, .int .i64 0]), 3, 24) := by kernel_rfl

theorem stk_one (l : List Cont) : ∀ u ∈ stkCells l, u.oneCell' = true := by
  intro u hu
  obtain ⟨c, _, h⟩ := List.mem_flatMap.1 hu
  exact cont_one c u h

theorem stk_app (l d : List Cont) : stkCells l ++ stkCells d = stkCells (d ++ l) := by
  unfold stkCells
  rw [List.reverse_append, List.flatMap_append]

/-- append to an own row of boxes -/
theorem app_box {ops : Array Oper} {rest : List Oper} {o : Oper} {a : Act} {w : World} {Q : Exit → Act → World → Prop} (hgd : o.guard = none) (s x : Operand)
    (ho : o.op = .call { callee := .builtin .append, args := #[s, x], argTypes := #[28, 28] })
    (base : Nat) (v : Value) (l : List Cont) (hs : a.eval s = v) (hown : OwnsStk w base 64 v l) (ad : Addr) (m c : Nat) (ds : List Cont) (hx : a.eval x = .slice (some ad) m c) (hm : ds.length = m)
    (hnews : ∀ (j : Nat) (u : Value), (stkCells ds)[j]? = some u → w.cell? (ad.add j) = some u) (hlen : l.length + m ≤ 1000000) (hbase : base ≤ w.heap.size)
    (h : ∀ v' w', OwnsStk w' base 64 v' (ds ++ l) → Keeps (blks v) w w' → (v'.ownBlock = v.ownBlock ∨ v'.ownBlock = some w.heap.size) → wpList Try.prog ops Q rest (a.put o.dst v') w') :
    wpList Try.prog ops Q (o :: rest) a w := by
  obtain ⟨i0, hi, hz0, hz1, hz2⟩ := info_parts info_box
  subst hm
  refine wpList_append_own_at w hgd s x 28 ho base 64 i0 (.agg #[.bool false, .int .i64 0, .int .i64 0]) 3 24 Try.underlying28 hi hz0 hz1 hz2 rfl (by decide) v l.length (stkCells l) hs hown ad ds.length c (stkCells ds) hx (stkCells_len ds) hnews (stk_one ds) (by unfold maxLen; omega) (by omega) hbase ?_
  intro v' w' h2 h3 _ h5
  refine h v' w' ?_ (keeps_grown h3) h5
  unfold OwnsStk
  rw [← stk_app, List.length_append, Nat.add_comm]
  exact h2

/-- the same, within a region that draws its order -/
theorem wp_app_box {o : Oper} {a : Act} {w : World} {K : Act → World → Prop} {Q : Exit → Act → World → Prop} (s x : Operand)
    (ho : o.op = .call { callee := .builtin .append, args := #[s, x], argTypes := #[28, 28] })
    (base : Nat) (v : Value) (l : List Cont) (hs : a.eval s = v) (hown : OwnsStk w base 64 v l) (ad : Addr) (m c : Nat) (ds : List Cont) (hx : a.eval x = .slice (some ad) m c) (hm : ds.length = m)
    (hnews : ∀ (j : Nat) (u : Value), (stkCells ds)[j]? = some u → w.cell? (ad.add j) = some u) (hlen : l.length + m ≤ 1000000) (hbase : base ≤ w.heap.size)
    (h : ∀ v' w', OwnsStk w' base 64 v' (ds ++ l) → Keeps (blks v) w w' → (v'.ownBlock = v.ownBlock ∨ v'.ownBlock = some w.heap.size) → K (a.put o.dst v') w') : Oper.wp Try.prog o a w K Q := by
  obtain ⟨i0, hi, hz0, hz1, hz2⟩ := info_parts info_box
  subst hm
  obtain ⟨v', w', hr, h2, h3, _, h5⟩ := run_append_own_at (P := Try.prog) w base 28 o.type 64 i0 (.agg #[.bool false, .int .i64 0, .int .i64 0]) 3 24 Try.underlying28 hi hz0 hz1 hz2 rfl (by decide) v l.length (stkCells l) hown ad ds.length c (stkCells ds) (stkCells_len ds) hnews (stk_one ds) (by unfold maxLen; omega) (by omega) hbase
  unfold Oper.wp execOp
  simp only [ho, resolve, invoke, builtin, Sem.run_bind, Sem.run_pure, Result.andThen_ok, List.map_toArray, List.map_cons, List.map_nil, hs, hx, hr]
  refine h v' w' ?_ (keeps_grown h3) h5
  unfold OwnsStk
  rw [← stk_app, List.length_append, Nat.add_comm]
  exact h2
end Go.Proofs.Ytbeocehadnhmnaa

namespace Go.Proofs.Ytbeocehadnhmnaa
open Go.RowKit Go.Tru

set_option maxHeartbeats 1600000 in
set_option maxRecDepth 100000 in
theorem wj_leaf0 (e : Ev) (hk : 0 ≤ e.kind ∧ e.kind ≤ 4) {bs : ByteArray} (hbs : bs.size ≤ 1000000)
    (HP : ∀ W, Calls Try.prog 25 #[.int .i64 1, e.val] W fun r w' => r = .returned (.tuple #[.string bs, .int .i64 0]) ∧ Keeps [] W w')
    {w : World} {base b : Nat} {ov : Value} (h : WrIn w base b 1 ov [] false) :
    Calls Try.prog 12 #[.pointer (some ⟨b, 0, none⟩), e.val] w (WrPost w base b 1 ov bs [] true) := by
  have HM := Lib.hid (fun W => may_yes e (Or.inl (by omega)) W)
  obtain ⟨a, cap, rfl⟩ := h.opn.shape
  obtain ⟨k, y, m, t, c⟩ := e
  simp only [Ev.val, Ev.cells, List.length_nil] at *
  have k5 : (k == 5) = false := by simp; omega
  have k6 : (k == 6) = false := by simp; omega
  have k7 : (k == 7) = false := by simp; omega
  have hcat : (⟨#[]⟩ : ByteArray) ++ bs = bs := ByteArray.empty_append
  have HP := Lib.hid HP
  have H := Lib.hid h
  have hbl := h.blk.lt
  clear h hk
  go_enter Try.func12, Try.ntmps12
  have hnew := Has.new' w #[.int .i64 k, .bool y, .int .u64 m, .string t, .int .i64 c] 36 rfl
  have k0 := (Keeps.refl [] w).alloc (.cells #[.int .i64 k, .bool y, .int .u64 m, .string t, .int .i64 c] 36)
  obtain ⟨w1, hw1⟩ : ∃ w1, w.alloc (.cells #[.int .i64 k, .bool y, .int .u64 m, .string t, .int .i64 c] 36) = w1 := ⟨_, rfl⟩
  have H1 := Lib.hid (H.out.keeps (k0) (by simp) (by simp))
  rw [hw1] at hnew k0 H1
  obtain ⟨g0, g1, g2⟩ := H1.out.cells
  have e0 : w1.cell? ⟨w.heap.size, 0, none⟩ = some (.int .i64 k) := hnew.cell 0
  have e1 : w1.cell? ⟨w.heap.size, 1, none⟩ = some (.bool y) := hnew.cell 1
  have e2 : w1.cell? ⟨w.heap.size, 2, none⟩ = some (.int .u64 m) := hnew.cell 2
  have e3 : w1.cell? ⟨w.heap.size, 3, none⟩ = some (.string t) := hnew.cell 3
  have e4 : w1.cell? ⟨w.heap.size, 4, none⟩ = some (.int .i64 c) := hnew.cell 4
  have K0 := Lib.hid k0
  have HN := Lib.hid hnew
  clear hnew k0
  go_wp2_with fail
  go_wp2_with fail
  refine (HM.out _).mono ?_
  rintro e w2 ⟨rfl, k2⟩
  have H2 := Lib.hid (H1.out.keeps k2 (by simp) (by simp))
  have hnew := HN.out.keeps k2 (by simp)
  have K2 := Lib.hid (K0.out.trans k2)
  clear g0 g1 g2 e0 e1 e2 e3 e4 hw1
  obtain ⟨g0, g1, g2⟩ := H2.out.cells
  have e0 : w2.cell? ⟨w.heap.size, 0, none⟩ = some (.int .i64 k) := hnew.cell 0
  have e1 : w2.cell? ⟨w.heap.size, 1, none⟩ = some (.bool y) := hnew.cell 1
  have e2 : w2.cell? ⟨w.heap.size, 2, none⟩ = some (.int .u64 m) := hnew.cell 2
  have e3 : w2.cell? ⟨w.heap.size, 3, none⟩ = some (.string t) := hnew.cell 3
  have e4 : w2.cell? ⟨w.heap.size, 4, none⟩ = some (.int .i64 c) := hnew.cell 4
  have HN2 := Lib.hid hnew
  clear hnew k2 K0 HN H1
  go_wp2_with fail
  go_region_held (fun W => W.cell? ⟨b, 0, none⟩ = some (.int .i64 1) ∧ W.cell? ⟨w.heap.size, 0, none⟩ = some (.int .i64 k) ∧ W.cell? ⟨w.heap.size, 1, none⟩ = some (.bool y) ∧ W.cell? ⟨w.heap.size, 2, none⟩ = some (.int .u64 m) ∧ W.cell? ⟨w.heap.size, 3, none⟩ = some (.string t) ∧ W.cell? ⟨w.heap.size, 4, none⟩ = some (.int .i64 c)) (go_keep) ((go_at_call 25; refine (HP.out _).mono ?_; rintro e w4 ⟨rfl, k4⟩; have d := k4.cell (p := ⟨b, 0, none⟩) g0 (by simp); have d0 := k4.cell (p := ⟨w.heap.size, 0, none⟩) e0 (by simp); have d1 := k4.cell (p := ⟨w.heap.size, 1, none⟩) e1 (by simp); have d2 := k4.cell (p := ⟨w.heap.size, 2, none⟩) e2 (by simp); have d3 := k4.cell (p := ⟨w.heap.size, 3, none⟩) e3 (by simp); have d4 := k4.cell (p := ⟨w.heap.size, 4, none⟩) e4 (by simp)))
  all_goals
    have k24 := (Keeps.refl [] w2).drew.trans k4
    have H4 := Lib.hid (H2.out.keeps k24 (by simp) (by simp))
    have K4 := Lib.hid (K2.out.trans k24)
    have g2 := H4.out.blk.cell 2
    have f2 := H4.out.blk.free 2
    have hb4 := H4.out.blk.lt
    simp only [List.getElem?_cons_succ, List.getElem?_cons_zero] at g2
    clear g0 g1 e0 e1 e2 e3 e4 k4 k24 d1 d2 d3 d4 HN2 K2 H2
    go_wp2_with fail
    go_ret2
    refine ⟨rfl, _, ⟨(H4.out.blk.set 2 (.bool true)).conv rfl, ownsRow_keeps H4.out.opn ((Keeps.refl [b] _).set1 _) (fun i hi hm => H4.out.bo (by rw [List.mem_singleton] at hm; exact hm ▸ mem_blks.2 hi)), H4.out.bo⟩, ?_, fun i hi => Or.inl hi⟩
    exact (K4.out.mono (G := b :: blks (.slice a 0 cap)) (fun i hi => by cases hi)).setCell (p := ⟨b, 2, none⟩) (Or.inl (List.mem_cons_self ..)) _
end Go.Proofs.Ytbeocehadnhmnaa

namespace Go.Proofs.Ytbeocehadnhmnaa
open Go.RowKit Go.Tru

/-- the list of what is open has been put back, in a row of its own -/
theorem _root_.Go.Tru.WrIn.put {w w2 : World} {base b : Nat} {to : Int} {ov v2 : Value} {stk l : List Cont} {dn : Bool} (h : WrIn w base b to ov stk dn) (hown : OwnsStk w2 base 64 v2 l) (k : Keeps [] w w2)
    (hb : ∀ m, v2.ownBlock = some m → w.heap.size ≤ m) :
    WrIn (w2.setCell ⟨b, 1, none⟩ v2) base b to v2 l dn ∧ Keeps [b] w (w2.setCell ⟨b, 1, none⟩ v2) ∧ (∀ i ∈ blks v2, w.heap.size ≤ i) ∧ w2.cell? ⟨b, 1, none⟩ = some ov ∧ w2.frozen? ⟨b, 1, none⟩ = false ∧ b < w2.heap.size := by
  have hbl := h.blk.lt
  have hblk := h.blk.keeps k (by simp)
  have hset : Keeps [b] w2 (w2.setCell ⟨b, 1, none⟩ v2) := (Keeps.refl _ _).set1 _
  have hge : ∀ i ∈ blks v2, w.heap.size ≤ i := fun i hi => hb i (mem_blks.1 hi)
  refine ⟨⟨(hblk.set 1 _).conv rfl, ownsRow_keeps hown hset (fun i hi hmm => ?_), fun hmm => ?_⟩, (k.mono (by simp)).trans hset, hge, hblk.cell 1, hblk.free 1, hblk.lt⟩
  · rw [List.mem_singleton] at hmm
    have := hge i (mem_blks.2 hi)
    omega
  · have := hge b hmm
    omega

/-- is the document at its end? -/
theorem _root_.Go.Tru.WrIn.fin {w : World} {base b : Nat} {to : Int} {ov : Value} {stk : List Cont} {dn : Bool} (h : WrIn w base b to ov stk dn) (d : Bool) : WrIn (w.setCell ⟨b, 2, none⟩ (.bool d)) base b to ov stk d :=
  ⟨(h.blk.set 2 (.bool d)).conv rfl, ownsRow_keeps h.opn ((Keeps.refl [b] _).set1 _) (fun i hi hm => h.bo (by rw [List.mem_singleton] at hm; exact hm ▸ mem_blks.2 hi)), h.bo⟩
end Go.Proofs.Ytbeocehadnhmnaa

namespace Go.Proofs.Ytbeocehadnhmnaa
open Go.RowKit Go.Tru

set_option maxHeartbeats 3200000 in
set_option maxRecDepth 100000 in
theorem wj_end_arr {w : World} {base b : Nat} {ov : Value} {cc cpt : Int} {s : List Cont} (h : WrIn w base b 1 ov (⟨false, cc, cpt⟩ :: s) false) (hs : s.length ≤ 100) (hr : 0 ≤ cpt ∧ cpt ≤ 3000000) (hbase : base ≤ w.heap.size) :
    Calls Try.prog 12 #[.pointer (some ⟨b, 0, none⟩), evEnd.val] w (WrPost w base b 1 ov ⟨#[93]⟩ s s.isEmpty) := by
  have HM := Lib.hid (fun W => may_yes evEnd (Or.inl (by decide)) W)
  obtain ⟨g, cap, rfl, gb, gl, gr, gm, -, -, -, -⟩ := h.opn.some_
  simp only [Ev.val, Ev.cells, evEnd, noText] at *
  obtain ⟨hr1, hr2⟩ := hr
  have hsn : ((s.length : Int) + 1 == 0) = false := by simp; omega
  have hs1 : ((s.length : Int) + 1 == 1) = s.isEmpty := by
    cases s with
    | nil => rfl
    | cons x r => simp; omega
  have H := Lib.hid h
  have HB := Lib.hid hbase
  have hbl := h.blk.lt
  unfold maxLen at gm
  clear h hbase
  go_enter Try.func12, Try.ntmps12
  have hnew := Has.new' w #[.int .i64 7, .bool false, .int .u64 0, .string ⟨#[]⟩, .int .i64 0] 36 rfl
  have k0 := (Keeps.refl [] w).alloc (.cells #[.int .i64 7, .bool false, .int .u64 0, .string ⟨#[]⟩, .int .i64 0] 36)
  obtain ⟨w1, hw1'⟩ : ∃ w1, w.alloc (.cells #[.int .i64 7, .bool false, .int .u64 0, .string ⟨#[]⟩, .int .i64 0] 36) = w1 := ⟨_, rfl⟩
  have H1 := Lib.hid (H.out.keeps (k0) (by simp) (by simp))
  rw [hw1'] at hnew k0 H1
  obtain ⟨g0, g1, g2⟩ := H1.out.cells
  have e0 : w1.cell? ⟨w.heap.size, 0, none⟩ = some (.int .i64 7) := hnew.cell 0
  have e1 : w1.cell? ⟨w.heap.size, 1, none⟩ = some (.bool false) := hnew.cell 1
  have e2 : w1.cell? ⟨w.heap.size, 2, none⟩ = some (.int .u64 0) := hnew.cell 2
  have e3 : w1.cell? ⟨w.heap.size, 3, none⟩ = some (.string ⟨#[]⟩) := hnew.cell 3
  have e4 : w1.cell? ⟨w.heap.size, 4, none⟩ = some (.int .i64 0) := hnew.cell 4
  have K0 := Lib.hid k0
  have HN := Lib.hid hnew
  clear hnew k0
  go_wp2_with fail
  refine (HM.out _).mono ?_
  rintro e w2 ⟨rfl, k2⟩
  have H2 := Lib.hid (H1.out.keeps k2 (by simp) (by simp))
  have hnew := HN.out.keeps k2 (by simp)
  have K2 := Lib.hid (K0.out.trans k2)
  clear g0 g1 g2 e0 e1 e2 e3 e4 hw1'
  obtain ⟨g0, g1, g2⟩ := H2.out.cells
  obtain ⟨g', cap', he, -, gl2, -, -, q0, q1, q2, -⟩ := OwnsStk.some_ H2.out.opn
  simp only [Value.slice.injEq, Option.some.injEq, Addr.mk.injEq, and_true, true_and] at he
  obtain ⟨rfl, rfl⟩ := he
  have e0 : w2.cell? ⟨w.heap.size, 0, none⟩ = some (.int .i64 7) := hnew.cell 0
  have e1 : w2.cell? ⟨w.heap.size, 1, none⟩ = some (.bool false) := hnew.cell 1
  have e2 : w2.cell? ⟨w.heap.size, 2, none⟩ = some (.int .u64 0) := hnew.cell 2
  have e3 : w2.cell? ⟨w.heap.size, 3, none⟩ = some (.string ⟨#[]⟩) := hnew.cell 3
  have e4 : w2.cell? ⟨w.heap.size, 4, none⟩ = some (.int .i64 0) := hnew.cell 4
  have hb2 := H2.out.blk.lt
  have he2 : w.heap.size < w2.heap.size := hnew.lt
  have k3 := (Keeps.refl [] w2).alloc (.cells #[.bool false, .int .i64 cc, .int .i64 cpt] 64)
  obtain ⟨w3, hw3⟩ : ∃ w3, w2.alloc (.cells #[.bool false, .int .i64 cc, .int .i64 cpt] 64) = w3 := ⟨_, rfl⟩
  rw [hw3] at k3
  have H3 := Lib.hid (H2.out.keeps k3 (by simp) (by simp))
  have K3 := Lib.hid (K2.out.trans k3)
  have HW3 := Lib.hid hw3
  have hwb : base ≤ w3.heap.size := Nat.le_trans HB.out K3.out.size
  have hb7 : w2.heap.size < w3.heap.size := by rw [← hw3]; simp
  have b7 : w3.cell? ⟨w2.heap.size, 1, none⟩ = some (.int .i64 cc) := by rw [← hw3]; exact (Has.new' w2 #[.bool false, .int .i64 cc, .int .i64 cpt] 64 rfl).cell 1
  have b70 : w3.cell? ⟨w2.heap.size, 0, none⟩ = some (.bool false) := by rw [← hw3]; exact (Has.new' w2 #[.bool false, .int .i64 cc, .int .i64 cpt] 64 rfl).cell 0
  have hbne : w2.heap.size ≠ b := by omega
  have hbne2 : b ≠ w2.heap.size := by omega
  clear hnew k2 K0 HN H1 k3 hw3
  go_wp2_with (at_builtin; rw [HW3.out]; go_must (refine app_box rfl _ _ rfl base (.slice none 0 0) [] rfl (OwnsStk.nil _ _ _) ⟨g, 0, none⟩ s.length cap s rfl rfl ?_ (by simp; omega) hwb ?_))
  · exact World.ownsRow.cells (OwnsStk.pop H3.out.opn) (g := g) rfl
  intro v6 w6 hown6 hk6 hb6
  rw [blks_nil] at hk6
  try rw [List.append_nil] at hown6
  have d7 := hk6.cell b7 (by simp)
  have d70 := hk6.cell b70 (by simp)
  have hz6 := hk6.size
  obtain ⟨o6, c6, rfl⟩ := hown6.shape
  obtain ⟨hW7, K7, hB7, r1, rf1, rb1⟩ := WrIn.put H3.out hown6 hk6 (fun m hm => by
    rcases hb6 with h | h
    · rw [h] at hm
      simp [Value.ownBlock] at hm
    · rw [h] at hm
      simp at hm
      omega)
  have r2 := (H3.out.blk.keeps hk6 (by simp)).cell 2
  have rf2 := (H3.out.blk.keeps hk6 (by simp)).free 2
  have r0 := (H3.out.blk.keeps hk6 (by simp)).cell 0
  simp only [List.getElem?_cons_succ, List.getElem?_cons_zero] at r0 r2
  have hW8 := Lib.hid (WrIn.fin hW7 s.isEmpty)
  have K8 := Lib.hid ((K3.out.mono (G := [b]) (by simp)).trans (K7.trans ((Keeps.refl [b] _).set1 (b := b) (i := 2) (.bool s.isEmpty))))
  have HB7 := Lib.hid (fun i hi => Nat.le_trans K3.out.size (hB7 i hi))
  clear hown6 hk6 hb6 hW7 K7 hB7 g0 g1 g2 q0 q1 q2 e0 e1 e2 e3 e4 b7 b70 H3 K3 H2 K2 HW3
  go_wp2_with fail
  all_goals
    go_ret2
    refine ⟨rfl, _, hW8.out, K8.out.mono (fun i hi => by rw [List.mem_singleton] at hi; rw [hi]; exact List.mem_cons_self ..), fun i hi => Or.inr (HB7.out i hi)⟩

set_option maxHeartbeats 3200000 in
set_option maxRecDepth 100000 in
theorem wj_end_map {w : World} {base b : Nat} {ov : Value} {cc cpt : Int} {s : List Cont} (h : WrIn w base b 1 ov (⟨true, cc, cpt⟩ :: s) false) (hs : s.length ≤ 100) (hr : 0 ≤ cpt ∧ cpt ≤ 3000000) (hpar : cpt % 2 = 0) (hbase : base ≤ w.heap.size) :
    Calls Try.prog 12 #[.pointer (some ⟨b, 0, none⟩), evEnd.val] w (WrPost w base b 1 ov ⟨#[125]⟩ s s.isEmpty) := by
  have HM := Lib.hid (fun W => may_yes evEnd (Or.inl (by decide)) W)
  obtain ⟨g, cap, rfl, gb, gl, gr, gm, -, -, -, -⟩ := h.opn.some_
  simp only [Ev.val, Ev.cells, evEnd, noText] at *
  obtain ⟨hr1, hr2⟩ := hr
  have hmod : cpt.tmod 2 = 0 := by rw [Int.tmod_eq_emod_of_nonneg (by omega)]; exact hpar
  have hsn : ((s.length : Int) + 1 == 0) = false := by simp; omega
  have hs1 : ((s.length : Int) + 1 == 1) = s.isEmpty := by
    cases s with
    | nil => rfl
    | cons x r => simp; omega
  have H := Lib.hid h
  have HB := Lib.hid hbase
  have hbl := h.blk.lt
  unfold maxLen at gm
  clear h hbase
  go_enter Try.func12, Try.ntmps12
  have hnew := Has.new' w #[.int .i64 7, .bool false, .int .u64 0, .string ⟨#[]⟩, .int .i64 0] 36 rfl
  have k0 := (Keeps.refl [] w).alloc (.cells #[.int .i64 7, .bool false, .int .u64 0, .string ⟨#[]⟩, .int .i64 0] 36)
  obtain ⟨w1, hw1'⟩ : ∃ w1, w.alloc (.cells #[.int .i64 7, .bool false, .int .u64 0, .string ⟨#[]⟩, .int .i64 0] 36) = w1 := ⟨_, rfl⟩
  have H1 := Lib.hid (H.out.keeps (k0) (by simp) (by simp))
  rw [hw1'] at hnew k0 H1
  obtain ⟨g0, g1, g2⟩ := H1.out.cells
  have e0 : w1.cell? ⟨w.heap.size, 0, none⟩ = some (.int .i64 7) := hnew.cell 0
  have e1 : w1.cell? ⟨w.heap.size, 1, none⟩ = some (.bool false) := hnew.cell 1
  have e2 : w1.cell? ⟨w.heap.size, 2, none⟩ = some (.int .u64 0) := hnew.cell 2
  have e3 : w1.cell? ⟨w.heap.size, 3, none⟩ = some (.string ⟨#[]⟩) := hnew.cell 3
  have e4 : w1.cell? ⟨w.heap.size, 4, none⟩ = some (.int .i64 0) := hnew.cell 4
  have K0 := Lib.hid k0
  have HN := Lib.hid hnew
  clear hnew k0
  go_wp2_with fail
  refine (HM.out _).mono ?_
  rintro e w2 ⟨rfl, k2⟩
  have H2 := Lib.hid (H1.out.keeps k2 (by simp) (by simp))
  have hnew := HN.out.keeps k2 (by simp)
  have K2 := Lib.hid (K0.out.trans k2)
  clear g0 g1 g2 e0 e1 e2 e3 e4 hw1'
  obtain ⟨g0, g1, g2⟩ := H2.out.cells
  obtain ⟨g', cap', he, -, gl2, -, -, q0, q1, q2, -⟩ := OwnsStk.some_ H2.out.opn
  simp only [Value.slice.injEq, Option.some.injEq, Addr.mk.injEq, and_true, true_and] at he
  obtain ⟨rfl, rfl⟩ := he
  have e0 : w2.cell? ⟨w.heap.size, 0, none⟩ = some (.int .i64 7) := hnew.cell 0
  have e1 : w2.cell? ⟨w.heap.size, 1, none⟩ = some (.bool false) := hnew.cell 1
  have e2 : w2.cell? ⟨w.heap.size, 2, none⟩ = some (.int .u64 0) := hnew.cell 2
  have e3 : w2.cell? ⟨w.heap.size, 3, none⟩ = some (.string ⟨#[]⟩) := hnew.cell 3
  have e4 : w2.cell? ⟨w.heap.size, 4, none⟩ = some (.int .i64 0) := hnew.cell 4
  have hb2 := H2.out.blk.lt
  have he2 : w.heap.size < w2.heap.size := hnew.lt
  have k3 := (Keeps.refl [] w2).alloc (.cells #[.bool true, .int .i64 cc, .int .i64 cpt] 64)
  obtain ⟨w3, hw3⟩ : ∃ w3, w2.alloc (.cells #[.bool true, .int .i64 cc, .int .i64 cpt] 64) = w3 := ⟨_, rfl⟩
  rw [hw3] at k3
  have H3 := Lib.hid (H2.out.keeps k3 (by simp) (by simp))
  have K3 := Lib.hid (K2.out.trans k3)
  have HW3 := Lib.hid hw3
  have hwb : base ≤ w3.heap.size := Nat.le_trans HB.out K3.out.size
  have hb7 : w2.heap.size < w3.heap.size := by rw [← hw3]; simp
  have b7 : w3.cell? ⟨w2.heap.size, 1, none⟩ = some (.int .i64 cc) := by rw [← hw3]; exact (Has.new' w2 #[.bool true, .int .i64 cc, .int .i64 cpt] 64 rfl).cell 1
  have b70 : w3.cell? ⟨w2.heap.size, 0, none⟩ = some (.bool true) := by rw [← hw3]; exact (Has.new' w2 #[.bool true, .int .i64 cc, .int .i64 cpt] 64 rfl).cell 0
  have hbne : w2.heap.size ≠ b := by omega
  have hbne2 : b ≠ w2.heap.size := by omega
  clear hnew k2 K0 HN H1 k3 hw3
  go_wp2_with (at_builtin; rw [HW3.out]; go_must (refine app_box rfl _ _ rfl base (.slice none 0 0) [] rfl (OwnsStk.nil _ _ _) ⟨g, 0, none⟩ s.length cap s rfl rfl ?_ (by simp; omega) hwb ?_))
  · exact World.ownsRow.cells (OwnsStk.pop H3.out.opn) (g := g) rfl
  intro v6 w6 hown6 hk6 hb6
  rw [blks_nil] at hk6
  try rw [List.append_nil] at hown6
  have d7 := hk6.cell b7 (by simp)
  have d70 := hk6.cell b70 (by simp)
  have hz6 := hk6.size
  obtain ⟨o6, c6, rfl⟩ := hown6.shape
  obtain ⟨hW7, K7, hB7, r1, rf1, rb1⟩ := WrIn.put H3.out hown6 hk6 (fun m hm => by
    rcases hb6 with h | h
    · rw [h] at hm
      simp [Value.ownBlock] at hm
    · rw [h] at hm
      simp at hm
      omega)
  have r2 := (H3.out.blk.keeps hk6 (by simp)).cell 2
  have rf2 := (H3.out.blk.keeps hk6 (by simp)).free 2
  have r0 := (H3.out.blk.keeps hk6 (by simp)).cell 0
  simp only [List.getElem?_cons_succ, List.getElem?_cons_zero] at r0 r2
  have hW8 := Lib.hid (WrIn.fin hW7 s.isEmpty)
  have K8 := Lib.hid ((K3.out.mono (G := [b]) (by simp)).trans (K7.trans ((Keeps.refl [b] _).set1 (b := b) (i := 2) (.bool s.isEmpty))))
  have HB7 := Lib.hid (fun i hi => Nat.le_trans K3.out.size (hB7 i hi))
  clear hown6 hk6 hb6 hW7 K7 hB7 g0 g1 g2 q0 q1 q2 e0 e1 e2 e3 e4 b7 b70 H3 K3 H2 K2 HW3
  go_wp2_with fail
  all_goals
    go_ret2
    refine ⟨rfl, _, hW8.out, K8.out.mono (fun i hi => by rw [List.mem_singleton] at hi; rw [hi]; exact List.mem_cons_self ..), fun i hi => Or.inr (HB7.out i hi)⟩
end Go.Proofs.Ytbeocehadnhmnaa

namespace Go.Proofs.Ytbeocehadnhmnaa
open Go.RowKit Go.Tru

set_option maxHeartbeats 3200000 in
set_option maxRecDepth 100000 in
theorem wj_leaf_arr0 (e : Ev) (hk : 0 ≤ e.kind ∧ e.kind ≤ 4) {bs : ByteArray} (hbs : bs.size ≤ 1000000)
    (HP : ∀ W, Calls Try.prog 25 #[.int .i64 1, e.val] W fun r w' => r = .returned (.tuple #[.string bs, .int .i64 0]) ∧ Keeps [] W w')
    {w : World} {base b : Nat} {ov : Value} {cc cpt : Int} {s : List Cont} (h : WrIn w base b 1 ov (⟨false, cc, cpt⟩ :: s) false) (hs : s.length ≤ 100) (hp0 : 0 ≤ cpt) (hp1 : cpt ≤ 3000000) (hr : -1 ≤ cc ∧ cc < 0) (hz : ¬ 0 < cpt) (hbase : base ≤ w.heap.size) :
    Calls Try.prog 12 #[.pointer (some ⟨b, 0, none⟩), e.val] w (WrPost w base b 1 ov bs (⟨false, cc, cpt + 1⟩ :: s) false) := by
  have HM := Lib.hid (fun W => may_yes e (Or.inl (by omega)) W)
  obtain ⟨g, cap, rfl, gb, gl, gr, gm, -, -, -, -⟩ := h.opn.some_
  obtain ⟨k, y, m, t, cn⟩ := e
  simp only [Ev.val, Ev.cells] at *
  obtain ⟨hr1, hr2⟩ := hr
  have k5 : (k == 5) = false := by simp; omega
  have k6 : (k == 6) = false := by simp; omega
  have k7 : (k == 7) = false := by simp; omega
  have hcat : (⟨#[]⟩ : ByteArray) ++ bs = bs := ByteArray.empty_append
  have hsn : ((s.length : Int) + 1 == 0) = false := by simp; omega
  have HP := Lib.hid HP
  have H := Lib.hid h
  have HB := Lib.hid hbase
  have hbl := h.blk.lt
  unfold maxLen at gm
  clear h hk hbase
  go_enter Try.func12, Try.ntmps12
  have hnew := Has.new' w #[.int .i64 k, .bool y, .int .u64 m, .string t, .int .i64 cn] 36 rfl
  have k0 := (Keeps.refl [] w).alloc (.cells #[.int .i64 k, .bool y, .int .u64 m, .string t, .int .i64 cn] 36)
  obtain ⟨w1, hw1⟩ : ∃ w1, w.alloc (.cells #[.int .i64 k, .bool y, .int .u64 m, .string t, .int .i64 cn] 36) = w1 := ⟨_, rfl⟩
  have H1 := Lib.hid (H.out.keeps (k0) (by simp) (by simp))
  rw [hw1] at hnew k0 H1
  obtain ⟨g0, g1, g2⟩ := H1.out.cells
  have e0 : w1.cell? ⟨w.heap.size, 0, none⟩ = some (.int .i64 k) := hnew.cell 0
  have e1 : w1.cell? ⟨w.heap.size, 1, none⟩ = some (.bool y) := hnew.cell 1
  have e2 : w1.cell? ⟨w.heap.size, 2, none⟩ = some (.int .u64 m) := hnew.cell 2
  have e3 : w1.cell? ⟨w.heap.size, 3, none⟩ = some (.string t) := hnew.cell 3
  have e4 : w1.cell? ⟨w.heap.size, 4, none⟩ = some (.int .i64 cn) := hnew.cell 4
  have K0 := Lib.hid k0
  have HN := Lib.hid hnew
  clear hnew k0
  go_wp2_with fail
  refine (HM.out _).mono ?_
  rintro e w2 ⟨rfl, k2⟩
  have H2 := Lib.hid (H1.out.keeps k2 (by simp) (by simp))
  have hnew := HN.out.keeps k2 (by simp)
  have K2 := Lib.hid (K0.out.trans k2)
  clear g0 g1 g2 e0 e1 e2 e3 e4 hw1
  obtain ⟨g0, g1, g2⟩ := H2.out.cells
  obtain ⟨g', cap', he, -, gl2, -, -, q0, q1, q2, -⟩ := OwnsStk.some_ H2.out.opn
  simp only [Value.slice.injEq, Option.some.injEq, Addr.mk.injEq, and_true, true_and] at he
  obtain ⟨rfl, rfl⟩ := he
  have e0 : w2.cell? ⟨w.heap.size, 0, none⟩ = some (.int .i64 k) := hnew.cell 0
  have e1 : w2.cell? ⟨w.heap.size, 1, none⟩ = some (.bool y) := hnew.cell 1
  have e2 : w2.cell? ⟨w.heap.size, 2, none⟩ = some (.int .u64 m) := hnew.cell 2
  have e3 : w2.cell? ⟨w.heap.size, 3, none⟩ = some (.string t) := hnew.cell 3
  have e4 : w2.cell? ⟨w.heap.size, 4, none⟩ = some (.int .i64 cn) := hnew.cell 4
  have HN2 := Lib.hid hnew
  have hb2 := H2.out.blk.lt
  have he2 : w.heap.size < w2.heap.size := hnew.lt
  clear hnew k2 K0 HN H1
  go_wp2_with fail
  obtain ⟨wc, hwc⟩ : ∃ wc, w2.alloc (.cells #[.bool false, .int .i64 cc, .int .i64 cpt] 64) = wc := ⟨_, rfl⟩
  have hkc : Keeps [] w2 wc := by rw [← hwc]; exact (Keeps.refl _ _).alloc _
  rw [hwc]
  have H3 := Lib.hid (H2.out.keeps hkc (by simp) (by simp))
  have hnew := HN2.out.keeps hkc (by simp)
  have K3 := Lib.hid (K2.out.trans hkc)
  clear g0 g1 g2 q0 q1 q2 e0 e1 e2 e3 e4 hb2 he2 HN2 H2 K2 hwc
  obtain ⟨g0, g1, g2⟩ := H3.out.cells
  have e0 : wc.cell? ⟨w.heap.size, 0, none⟩ = some (.int .i64 k) := hnew.cell 0
  have e1 : wc.cell? ⟨w.heap.size, 1, none⟩ = some (.bool y) := hnew.cell 1
  have e2 : wc.cell? ⟨w.heap.size, 2, none⟩ = some (.int .u64 m) := hnew.cell 2
  have e3 : wc.cell? ⟨w.heap.size, 3, none⟩ = some (.string t) := hnew.cell 3
  have e4 : wc.cell? ⟨w.heap.size, 4, none⟩ = some (.int .i64 cn) := hnew.cell 4
  clear hnew hkc
  go_region_held (fun W => W.cell? ⟨b, 0, none⟩ = some (.int .i64 1) ∧ W.cell? ⟨w.heap.size, 0, none⟩ = some (.int .i64 k) ∧ W.cell? ⟨w.heap.size, 1, none⟩ = some (.bool y) ∧ W.cell? ⟨w.heap.size, 2, none⟩ = some (.int .u64 m) ∧ W.cell? ⟨w.heap.size, 3, none⟩ = some (.string t) ∧ W.cell? ⟨w.heap.size, 4, none⟩ = some (.int .i64 cn)) (go_keep) ((go_at_call 25; refine (HP.out _).mono ?_; rintro e w4 ⟨rfl, k4⟩; have d := k4.cell (p := ⟨b, 0, none⟩) g0 (by simp); have d0 := k4.cell (p := ⟨w.heap.size, 0, none⟩) e0 (by simp); have d1 := k4.cell (p := ⟨w.heap.size, 1, none⟩) e1 (by simp); have d2 := k4.cell (p := ⟨w.heap.size, 2, none⟩) e2 (by simp); have d3 := k4.cell (p := ⟨w.heap.size, 3, none⟩) e3 (by simp); have d4 := k4.cell (p := ⟨w.heap.size, 4, none⟩) e4 (by simp)))
  have k24 := (Keeps.refl [] wc).drew.trans k4
  have H4 := Lib.hid (H3.out.keeps k24 (by simp) (by simp))
  have K4 := Lib.hid (K3.out.trans k24)
  clear g0 g1 g2 e0 e1 e2 e3 e4 k4 k24 d1 d2 d3 d4 K3 H3
  obtain ⟨g0, g1, g2⟩ := H4.out.cells
  have f2 := H4.out.blk.free 2
  have hb4 := H4.out.blk.lt
  have he4 : w.heap.size < w4.heap.size := World.block_lt_of_cell? w4 _ d0
  have hwb : base ≤ w4.heap.size := Nat.le_trans HB.out K4.out.size
  have hset : Keeps [b] w4 (w4.setCell ⟨b, 2, none⟩ (.bool false)) := (Keeps.refl _ _).set1 _
  have hne : w.heap.size ≠ b := by omega
  have hW5 : WrIn (w4.setCell ⟨b, 2, none⟩ (.bool false)) base b 1 (.slice (some ⟨g, 0, none⟩) (s.length + 1) cap) (⟨false, cc, cpt⟩ :: s) false := ⟨(H4.out.blk.set 2 (.bool false)).conv rfl, ownsRow_keeps H4.out.opn hset (fun i hi hm => H4.out.bo (by rw [List.mem_singleton] at hm; exact hm ▸ mem_blks.2 hi)), H4.out.bo⟩
  have d5 : (w4.setCell ⟨b, 2, none⟩ (.bool false)).cell? ⟨w.heap.size, 0, none⟩ = some (.int .i64 k) := hset.cell d0 (by simpa using hne)
  have H5 := Lib.hid hW5
  have K5 := Lib.hid ((K4.out.mono (G := [b]) (by simp)).trans hset)
  have hz5 : (w4.setCell ⟨b, 2, none⟩ (.bool false)).heap.size = w4.heap.size := by simp [World.setCell]
  clear hW5 hset
  go_wp2_with (at_builtin; go_must (refine app_box rfl _ _ rfl base (.slice none 0 0) [] rfl (OwnsStk.nil _ _ _) ⟨g, 0, none⟩ (s.length + 1) cap (⟨false, cc, cpt⟩ :: s) rfl rfl ?_ (by simp; omega) (by simp [World.setCell]; exact hwb) ?_))
  · exact World.ownsRow.cells H5.out.opn (g := g) rfl
  intro v6 w6 hown6 hk6 hb6
  obtain ⟨g6, c6, rfl, gb6, gl6, gr6, gm6, p0, p1, p2, pf⟩ := hown6.some_
  have hg6 : g6 = w4.heap.size := by
    rcases hb6 with h | h
    · simp [Value.ownBlock] at h
    · try rw [hz5] at h
      simpa [Value.ownBlock] using h
  rw [blks_nil] at hk6
  have hblk6 := H5.out.blk.keeps hk6 (by simp)
  have r1 := hblk6.cell 1
  have rf1 := hblk6.free 1
  have rb1 := hblk6.lt
  have d6 := hk6.cell d5 (by simp)
  have he6 : w.heap.size < w6.heap.size := World.block_lt_of_cell? w6 _ d6
  have hgb : g6 ≠ b := by omega
  have hbg : b ≠ g6 := by omega
  have hge : w.heap.size ≠ g6 := by omega
  have hge2 : g6 ≠ w.heap.size := by omega
  have hne2 : b ≠ w.heap.size := by omega
  have pf2 := pf (s.length * 3 + 2)
  have hszg : w.heap.size ≤ g6 := by
    have := K4.out.size
    omega
  unfold maxLen at gm6
  clear hg6
  simp only [List.getElem?_cons_succ, List.getElem?_cons_zero] at r1
  have hset7 : Keeps [b] w6 (w6.setCell ⟨b, 1, none⟩ (.slice (some ⟨g6, 0, none⟩) (s.length + 1) c6)) := (Keeps.refl _ _).set1 _
  have hown7 := ownsRow_keeps hown6 hset7 (fun i hi hm => by
    rw [List.mem_singleton] at hm
    simp only [Value.ownBlock, Option.some.injEq] at hi
    omega)
  have HFIN := Lib.hid (show WrIn ((w6.setCell ⟨b, 1, none⟩ (.slice (some ⟨g6, 0, none⟩) (s.length + 1) c6)).setCell ⟨g6, s.length * 3 + 2, none⟩ (.int .i64 (cpt + 1))) base b 1 (.slice (some ⟨g6, 0, none⟩) (s.length + 1) c6) (⟨false, cc, cpt + 1⟩ :: s) false from
    ⟨((hblk6.set 1 (.slice (some ⟨g6, 0, none⟩) (s.length + 1) c6)).conv rfl).other (by simpa using hbg) _, OwnsStk.setParts hown7 (cpt + 1), fun hm => by
      rw [mem_blks] at hm
      simp only [Value.ownBlock, Option.some.injEq] at hm
      omega⟩)
  have K7 := Lib.hid ((((K5.out.trans (hk6.mono (G := [b]) (by simp))).trans hset7).mono (G := b :: blks (.slice (some ⟨g, 0, none⟩) (s.length + 1) cap)) (fun i hi => by rw [List.mem_singleton] at hi; rw [hi]; exact List.mem_cons_self ..)).setCell (p := ⟨g6, s.length * 3 + 2, none⟩) (Or.inr hszg) (.int .i64 (cpt + 1)))
  have HSZ := Lib.hid hszg
  clear g0 g1 g2 f2 hown6 hk6 hb6 hszg hset7 hown7 hblk6 pf K5 H5 d5
  go_wp2_with fail
  go_ret2
  refine ⟨rfl, _, HFIN.out, K7.out, fun i hi => Or.inr ?_⟩
  rw [mem_blks] at hi
  simp only [Value.ownBlock, Option.some.injEq] at hi
  rw [← hi]
  exact HSZ.out

set_option maxHeartbeats 3200000 in
set_option maxRecDepth 100000 in
theorem wj_leaf_arr1 (e : Ev) (hk : 0 ≤ e.kind ∧ e.kind ≤ 4) {bs : ByteArray} (hbs : bs.size ≤ 1000000)
    (HP : ∀ W, Calls Try.prog 25 #[.int .i64 1, e.val] W fun r w' => r = .returned (.tuple #[.string bs, .int .i64 0]) ∧ Keeps [] W w')
    {w : World} {base b : Nat} {ov : Value} {cc cpt : Int} {s : List Cont} (h : WrIn w base b 1 ov (⟨false, cc, cpt⟩ :: s) false) (hs : s.length ≤ 100) (hp0 : 0 ≤ cpt) (hp1 : cpt ≤ 3000000) (hr : -1 ≤ cc ∧ cc < 0) (hz : 0 < cpt) (hbase : base ≤ w.heap.size) :
    Calls Try.prog 12 #[.pointer (some ⟨b, 0, none⟩), e.val] w (WrPost w base b 1 ov ((⟨#[44]⟩ : ByteArray) ++ bs) (⟨false, cc, cpt + 1⟩ :: s) false) := by
  have HM := Lib.hid (fun W => may_yes e (Or.inl (by omega)) W)
  obtain ⟨g, cap, rfl, gb, gl, gr, gm, -, -, -, -⟩ := h.opn.some_
  obtain ⟨k, y, m, t, cn⟩ := e
  simp only [Ev.val, Ev.cells] at *
  obtain ⟨hr1, hr2⟩ := hr
  have k5 : (k == 5) = false := by simp; omega
  have k6 : (k == 6) = false := by simp; omega
  have k7 : (k == 7) = false := by simp; omega
  have hcat : (⟨#[]⟩ : ByteArray) ++ bs = bs := ByteArray.empty_append
  have hsn : ((s.length : Int) + 1 == 0) = false := by simp; omega
  have HP := Lib.hid HP
  have H := Lib.hid h
  have HB := Lib.hid hbase
  have hbl := h.blk.lt
  unfold maxLen at gm
  clear h hk hbase
  go_enter Try.func12, Try.ntmps12
  have hnew := Has.new' w #[.int .i64 k, .bool y, .int .u64 m, .string t, .int .i64 cn] 36 rfl
  have k0 := (Keeps.refl [] w).alloc (.cells #[.int .i64 k, .bool y, .int .u64 m, .string t, .int .i64 cn] 36)
  obtain ⟨w1, hw1⟩ : ∃ w1, w.alloc (.cells #[.int .i64 k, .bool y, .int .u64 m, .string t, .int .i64 cn] 36) = w1 := ⟨_, rfl⟩
  have H1 := Lib.hid (H.out.keeps (k0) (by simp) (by simp))
  rw [hw1] at hnew k0 H1
  obtain ⟨g0, g1, g2⟩ := H1.out.cells
  have e0 : w1.cell? ⟨w.heap.size, 0, none⟩ = some (.int .i64 k) := hnew.cell 0
  have e1 : w1.cell? ⟨w.heap.size, 1, none⟩ = some (.bool y) := hnew.cell 1
  have e2 : w1.cell? ⟨w.heap.size, 2, none⟩ = some (.int .u64 m) := hnew.cell 2
  have e3 : w1.cell? ⟨w.heap.size, 3, none⟩ = some (.string t) := hnew.cell 3
  have e4 : w1.cell? ⟨w.heap.size, 4, none⟩ = some (.int .i64 cn) := hnew.cell 4
  have K0 := Lib.hid k0
  have HN := Lib.hid hnew
  clear hnew k0
  go_wp2_with fail
  refine (HM.out _).mono ?_
  rintro e w2 ⟨rfl, k2⟩
  have H2 := Lib.hid (H1.out.keeps k2 (by simp) (by simp))
  have hnew := HN.out.keeps k2 (by simp)
  have K2 := Lib.hid (K0.out.trans k2)
  clear g0 g1 g2 e0 e1 e2 e3 e4 hw1
  obtain ⟨g0, g1, g2⟩ := H2.out.cells
  obtain ⟨g', cap', he, -, gl2, -, -, q0, q1, q2, -⟩ := OwnsStk.some_ H2.out.opn
  simp only [Value.slice.injEq, Option.some.injEq, Addr.mk.injEq, and_true, true_and] at he
  obtain ⟨rfl, rfl⟩ := he
  have e0 : w2.cell? ⟨w.heap.size, 0, none⟩ = some (.int .i64 k) := hnew.cell 0
  have e1 : w2.cell? ⟨w.heap.size, 1, none⟩ = some (.bool y) := hnew.cell 1
  have e2 : w2.cell? ⟨w.heap.size, 2, none⟩ = some (.int .u64 m) := hnew.cell 2
  have e3 : w2.cell? ⟨w.heap.size, 3, none⟩ = some (.string t) := hnew.cell 3
  have e4 : w2.cell? ⟨w.heap.size, 4, none⟩ = some (.int .i64 cn) := hnew.cell 4
  have HN2 := Lib.hid hnew
  have hb2 := H2.out.blk.lt
  have he2 : w.heap.size < w2.heap.size := hnew.lt
  clear hnew k2 K0 HN H1
  go_wp2_with fail
  obtain ⟨wc, hwc⟩ : ∃ wc, w2.alloc (.cells #[.bool false, .int .i64 cc, .int .i64 cpt] 64) = wc := ⟨_, rfl⟩
  have hkc : Keeps [] w2 wc := by rw [← hwc]; exact (Keeps.refl _ _).alloc _
  rw [hwc]
  have H3 := Lib.hid (H2.out.keeps hkc (by simp) (by simp))
  have hnew := HN2.out.keeps hkc (by simp)
  have K3 := Lib.hid (K2.out.trans hkc)
  clear g0 g1 g2 q0 q1 q2 e0 e1 e2 e3 e4 hb2 he2 HN2 H2 K2 hwc
  obtain ⟨g0, g1, g2⟩ := H3.out.cells
  have e0 : wc.cell? ⟨w.heap.size, 0, none⟩ = some (.int .i64 k) := hnew.cell 0
  have e1 : wc.cell? ⟨w.heap.size, 1, none⟩ = some (.bool y) := hnew.cell 1
  have e2 : wc.cell? ⟨w.heap.size, 2, none⟩ = some (.int .u64 m) := hnew.cell 2
  have e3 : wc.cell? ⟨w.heap.size, 3, none⟩ = some (.string t) := hnew.cell 3
  have e4 : wc.cell? ⟨w.heap.size, 4, none⟩ = some (.int .i64 cn) := hnew.cell 4
  clear hnew hkc
  go_region_held (fun W => W.cell? ⟨b, 0, none⟩ = some (.int .i64 1) ∧ W.cell? ⟨w.heap.size, 0, none⟩ = some (.int .i64 k) ∧ W.cell? ⟨w.heap.size, 1, none⟩ = some (.bool y) ∧ W.cell? ⟨w.heap.size, 2, none⟩ = some (.int .u64 m) ∧ W.cell? ⟨w.heap.size, 3, none⟩ = some (.string t) ∧ W.cell? ⟨w.heap.size, 4, none⟩ = some (.int .i64 cn)) (go_keep) ((go_at_call 25; refine (HP.out _).mono ?_; rintro e w4 ⟨rfl, k4⟩; have d := k4.cell (p := ⟨b, 0, none⟩) g0 (by simp); have d0 := k4.cell (p := ⟨w.heap.size, 0, none⟩) e0 (by simp); have d1 := k4.cell (p := ⟨w.heap.size, 1, none⟩) e1 (by simp); have d2 := k4.cell (p := ⟨w.heap.size, 2, none⟩) e2 (by simp); have d3 := k4.cell (p := ⟨w.heap.size, 3, none⟩) e3 (by simp); have d4 := k4.cell (p := ⟨w.heap.size, 4, none⟩) e4 (by simp)))
  have k24 := (Keeps.refl [] wc).drew.trans k4
  have H4 := Lib.hid (H3.out.keeps k24 (by simp) (by simp))
  have K4 := Lib.hid (K3.out.trans k24)
  clear g0 g1 g2 e0 e1 e2 e3 e4 k4 k24 d1 d2 d3 d4 K3 H3
  obtain ⟨g0, g1, g2⟩ := H4.out.cells
  have f2 := H4.out.blk.free 2
  have hb4 := H4.out.blk.lt
  have he4 : w.heap.size < w4.heap.size := World.block_lt_of_cell? w4 _ d0
  have hwb : base ≤ w4.heap.size := Nat.le_trans HB.out K4.out.size
  have hset : Keeps [b] w4 (w4.setCell ⟨b, 2, none⟩ (.bool false)) := (Keeps.refl _ _).set1 _
  have hne : w.heap.size ≠ b := by omega
  have hW5 : WrIn (w4.setCell ⟨b, 2, none⟩ (.bool false)) base b 1 (.slice (some ⟨g, 0, none⟩) (s.length + 1) cap) (⟨false, cc, cpt⟩ :: s) false := ⟨(H4.out.blk.set 2 (.bool false)).conv rfl, ownsRow_keeps H4.out.opn hset (fun i hi hm => H4.out.bo (by rw [List.mem_singleton] at hm; exact hm ▸ mem_blks.2 hi)), H4.out.bo⟩
  have d5 : (w4.setCell ⟨b, 2, none⟩ (.bool false)).cell? ⟨w.heap.size, 0, none⟩ = some (.int .i64 k) := hset.cell d0 (by simpa using hne)
  have H5 := Lib.hid hW5
  have K5 := Lib.hid ((K4.out.mono (G := [b]) (by simp)).trans hset)
  have hz5 : (w4.setCell ⟨b, 2, none⟩ (.bool false)).heap.size = w4.heap.size := by simp [World.setCell]
  clear hW5 hset
  go_wp2_with (at_builtin; go_must (refine app_box rfl _ _ rfl base (.slice none 0 0) [] rfl (OwnsStk.nil _ _ _) ⟨g, 0, none⟩ (s.length + 1) cap (⟨false, cc, cpt⟩ :: s) rfl rfl ?_ (by simp; omega) (by simp [World.setCell]; exact hwb) ?_))
  · exact World.ownsRow.cells H5.out.opn (g := g) rfl
  intro v6 w6 hown6 hk6 hb6
  obtain ⟨g6, c6, rfl, gb6, gl6, gr6, gm6, p0, p1, p2, pf⟩ := hown6.some_
  have hg6 : g6 = w4.heap.size := by
    rcases hb6 with h | h
    · simp [Value.ownBlock] at h
    · try rw [hz5] at h
      simpa [Value.ownBlock] using h
  rw [blks_nil] at hk6
  have hblk6 := H5.out.blk.keeps hk6 (by simp)
  have r1 := hblk6.cell 1
  have rf1 := hblk6.free 1
  have rb1 := hblk6.lt
  have d6 := hk6.cell d5 (by simp)
  have he6 : w.heap.size < w6.heap.size := World.block_lt_of_cell? w6 _ d6
  have hgb : g6 ≠ b := by omega
  have hbg : b ≠ g6 := by omega
  have hge : w.heap.size ≠ g6 := by omega
  have hge2 : g6 ≠ w.heap.size := by omega
  have hne2 : b ≠ w.heap.size := by omega
  have pf2 := pf (s.length * 3 + 2)
  have hszg : w.heap.size ≤ g6 := by
    have := K4.out.size
    omega
  unfold maxLen at gm6
  clear hg6
  simp only [List.getElem?_cons_succ, List.getElem?_cons_zero] at r1
  have hset7 : Keeps [b] w6 (w6.setCell ⟨b, 1, none⟩ (.slice (some ⟨g6, 0, none⟩) (s.length + 1) c6)) := (Keeps.refl _ _).set1 _
  have hown7 := ownsRow_keeps hown6 hset7 (fun i hi hm => by
    rw [List.mem_singleton] at hm
    simp only [Value.ownBlock, Option.some.injEq] at hi
    omega)
  have HFIN := Lib.hid (show WrIn ((w6.setCell ⟨b, 1, none⟩ (.slice (some ⟨g6, 0, none⟩) (s.length + 1) c6)).setCell ⟨g6, s.length * 3 + 2, none⟩ (.int .i64 (cpt + 1))) base b 1 (.slice (some ⟨g6, 0, none⟩) (s.length + 1) c6) (⟨false, cc, cpt + 1⟩ :: s) false from
    ⟨((hblk6.set 1 (.slice (some ⟨g6, 0, none⟩) (s.length + 1) c6)).conv rfl).other (by simpa using hbg) _, OwnsStk.setParts hown7 (cpt + 1), fun hm => by
      rw [mem_blks] at hm
      simp only [Value.ownBlock, Option.some.injEq] at hm
      omega⟩)
  have K7 := Lib.hid ((((K5.out.trans (hk6.mono (G := [b]) (by simp))).trans hset7).mono (G := b :: blks (.slice (some ⟨g, 0, none⟩) (s.length + 1) cap)) (fun i hi => by rw [List.mem_singleton] at hi; rw [hi]; exact List.mem_cons_self ..)).setCell (p := ⟨g6, s.length * 3 + 2, none⟩) (Or.inr hszg) (.int .i64 (cpt + 1)))
  have HSZ := Lib.hid hszg
  clear g0 g1 g2 f2 hown6 hk6 hb6 hszg hset7 hown7 hblk6 pf K5 H5 d5
  go_wp2_with fail
  go_ret2
  refine ⟨rfl, _, HFIN.out, K7.out, fun i hi => Or.inr ?_⟩
  rw [mem_blks] at hi
  simp only [Value.ownBlock, Option.some.injEq] at hi
  rw [← hi]
  exact HSZ.out

set_option maxHeartbeats 3200000 in
set_option maxRecDepth 100000 in
theorem wj_leaf_odd (e : Ev) (hk : 0 ≤ e.kind ∧ e.kind ≤ 4) {bs : ByteArray} (hbs : bs.size ≤ 1000000)
    (HP : ∀ W, Calls Try.prog 25 #[.int .i64 1, e.val] W fun r w' => r = .returned (.tuple #[.string bs, .int .i64 0]) ∧ Keeps [] W w')
    {w : World} {base b : Nat} {ov : Value} {cc cpt : Int} {s : List Cont} (h : WrIn w base b 1 ov (⟨true, cc, cpt⟩ :: s) false) (hs : s.length ≤ 100) (hp0 : 0 ≤ cpt) (hp1 : cpt ≤ 3000000) (hr : -1 ≤ cc ∧ cc < 0) (hz : 0 < cpt) (hpar : cpt % 2 = 1) (hbase : base ≤ w.heap.size) :
    Calls Try.prog 12 #[.pointer (some ⟨b, 0, none⟩), e.val] w (WrPost w base b 1 ov ((⟨#[58]⟩ : ByteArray) ++ bs) (⟨true, cc, cpt + 1⟩ :: s) false) := by
  have HM := Lib.hid (fun W => may_yes e (Or.inl (by omega)) W)
  obtain ⟨g, cap, rfl, gb, gl, gr, gm, -, -, -, -⟩ := h.opn.some_
  obtain ⟨k, y, m, t, cn⟩ := e
  simp only [Ev.val, Ev.cells] at *
  obtain ⟨hr1, hr2⟩ := hr
  have hmod : cpt.tmod 2 = 1 := by rw [Int.tmod_eq_emod_of_nonneg hp0]; exact hpar
  clear hpar
  have k5 : (k == 5) = false := by simp; omega
  have k6 : (k == 6) = false := by simp; omega
  have k7 : (k == 7) = false := by simp; omega
  have hcat : (⟨#[]⟩ : ByteArray) ++ bs = bs := ByteArray.empty_append
  have hsn : ((s.length : Int) + 1 == 0) = false := by simp; omega
  have HP := Lib.hid HP
  have H := Lib.hid h
  have HB := Lib.hid hbase
  have hbl := h.blk.lt
  unfold maxLen at gm
  clear h hk hbase
  go_enter Try.func12, Try.ntmps12
  have hnew := Has.new' w #[.int .i64 k, .bool y, .int .u64 m, .string t, .int .i64 cn] 36 rfl
  have k0 := (Keeps.refl [] w).alloc (.cells #[.int .i64 k, .bool y, .int .u64 m, .string t, .int .i64 cn] 36)
  obtain ⟨w1, hw1⟩ : ∃ w1, w.alloc (.cells #[.int .i64 k, .bool y, .int .u64 m, .string t, .int .i64 cn] 36) = w1 := ⟨_, rfl⟩
  have H1 := Lib.hid (H.out.keeps (k0) (by simp) (by simp))
  rw [hw1] at hnew k0 H1
  obtain ⟨g0, g1, g2⟩ := H1.out.cells
  have e0 : w1.cell? ⟨w.heap.size, 0, none⟩ = some (.int .i64 k) := hnew.cell 0
  have e1 : w1.cell? ⟨w.heap.size, 1, none⟩ = some (.bool y) := hnew.cell 1
  have e2 : w1.cell? ⟨w.heap.size, 2, none⟩ = some (.int .u64 m) := hnew.cell 2
  have e3 : w1.cell? ⟨w.heap.size, 3, none⟩ = some (.string t) := hnew.cell 3
  have e4 : w1.cell? ⟨w.heap.size, 4, none⟩ = some (.int .i64 cn) := hnew.cell 4
  have K0 := Lib.hid k0
  have HN := Lib.hid hnew
  clear hnew k0
  go_wp2_with fail
  refine (HM.out _).mono ?_
  rintro e w2 ⟨rfl, k2⟩
  have H2 := Lib.hid (H1.out.keeps k2 (by simp) (by simp))
  have hnew := HN.out.keeps k2 (by simp)
  have K2 := Lib.hid (K0.out.trans k2)
  clear g0 g1 g2 e0 e1 e2 e3 e4 hw1
  obtain ⟨g0, g1, g2⟩ := H2.out.cells
  obtain ⟨g', cap', he, -, gl2, -, -, q0, q1, q2, -⟩ := OwnsStk.some_ H2.out.opn
  simp only [Value.slice.injEq, Option.some.injEq, Addr.mk.injEq, and_true, true_and] at he
  obtain ⟨rfl, rfl⟩ := he
  have e0 : w2.cell? ⟨w.heap.size, 0, none⟩ = some (.int .i64 k) := hnew.cell 0
  have e1 : w2.cell? ⟨w.heap.size, 1, none⟩ = some (.bool y) := hnew.cell 1
  have e2 : w2.cell? ⟨w.heap.size, 2, none⟩ = some (.int .u64 m) := hnew.cell 2
  have e3 : w2.cell? ⟨w.heap.size, 3, none⟩ = some (.string t) := hnew.cell 3
  have e4 : w2.cell? ⟨w.heap.size, 4, none⟩ = some (.int .i64 cn) := hnew.cell 4
  have HN2 := Lib.hid hnew
  have hb2 := H2.out.blk.lt
  have he2 : w.heap.size < w2.heap.size := hnew.lt
  clear hnew k2 K0 HN H1
  go_wp2_with fail
  obtain ⟨wc, hwc⟩ : ∃ wc, w2.alloc (.cells #[.bool true, .int .i64 cc, .int .i64 cpt] 64) = wc := ⟨_, rfl⟩
  have hkc : Keeps [] w2 wc := by rw [← hwc]; exact (Keeps.refl _ _).alloc _
  rw [hwc]
  have H3 := Lib.hid (H2.out.keeps hkc (by simp) (by simp))
  have hnew := HN2.out.keeps hkc (by simp)
  have K3 := Lib.hid (K2.out.trans hkc)
  clear g0 g1 g2 q0 q1 q2 e0 e1 e2 e3 e4 hb2 he2 HN2 H2 K2 hwc
  obtain ⟨g0, g1, g2⟩ := H3.out.cells
  have e0 : wc.cell? ⟨w.heap.size, 0, none⟩ = some (.int .i64 k) := hnew.cell 0
  have e1 : wc.cell? ⟨w.heap.size, 1, none⟩ = some (.bool y) := hnew.cell 1
  have e2 : wc.cell? ⟨w.heap.size, 2, none⟩ = some (.int .u64 m) := hnew.cell 2
  have e3 : wc.cell? ⟨w.heap.size, 3, none⟩ = some (.string t) := hnew.cell 3
  have e4 : wc.cell? ⟨w.heap.size, 4, none⟩ = some (.int .i64 cn) := hnew.cell 4
  clear hnew hkc
  go_region_held (fun W => W.cell? ⟨b, 0, none⟩ = some (.int .i64 1) ∧ W.cell? ⟨w.heap.size, 0, none⟩ = some (.int .i64 k) ∧ W.cell? ⟨w.heap.size, 1, none⟩ = some (.bool y) ∧ W.cell? ⟨w.heap.size, 2, none⟩ = some (.int .u64 m) ∧ W.cell? ⟨w.heap.size, 3, none⟩ = some (.string t) ∧ W.cell? ⟨w.heap.size, 4, none⟩ = some (.int .i64 cn)) (go_keep) ((go_at_call 25; refine (HP.out _).mono ?_; rintro e w4 ⟨rfl, k4⟩; have d := k4.cell (p := ⟨b, 0, none⟩) g0 (by simp); have d0 := k4.cell (p := ⟨w.heap.size, 0, none⟩) e0 (by simp); have d1 := k4.cell (p := ⟨w.heap.size, 1, none⟩) e1 (by simp); have d2 := k4.cell (p := ⟨w.heap.size, 2, none⟩) e2 (by simp); have d3 := k4.cell (p := ⟨w.heap.size, 3, none⟩) e3 (by simp); have d4 := k4.cell (p := ⟨w.heap.size, 4, none⟩) e4 (by simp)))
  have k24 := (Keeps.refl [] wc).drew.trans k4
  have H4 := Lib.hid (H3.out.keeps k24 (by simp) (by simp))
  have K4 := Lib.hid (K3.out.trans k24)
  clear g0 g1 g2 e0 e1 e2 e3 e4 k4 k24 d1 d2 d3 d4 K3 H3
  obtain ⟨g0, g1, g2⟩ := H4.out.cells
  have f2 := H4.out.blk.free 2
  have hb4 := H4.out.blk.lt
  have he4 : w.heap.size < w4.heap.size := World.block_lt_of_cell? w4 _ d0
  have hwb : base ≤ w4.heap.size := Nat.le_trans HB.out K4.out.size
  have hset : Keeps [b] w4 (w4.setCell ⟨b, 2, none⟩ (.bool false)) := (Keeps.refl _ _).set1 _
  have hne : w.heap.size ≠ b := by omega
  have hW5 : WrIn (w4.setCell ⟨b, 2, none⟩ (.bool false)) base b 1 (.slice (some ⟨g, 0, none⟩) (s.length + 1) cap) (⟨true, cc, cpt⟩ :: s) false := ⟨(H4.out.blk.set 2 (.bool false)).conv rfl, ownsRow_keeps H4.out.opn hset (fun i hi hm => H4.out.bo (by rw [List.mem_singleton] at hm; exact hm ▸ mem_blks.2 hi)), H4.out.bo⟩
  have d5 : (w4.setCell ⟨b, 2, none⟩ (.bool false)).cell? ⟨w.heap.size, 0, none⟩ = some (.int .i64 k) := hset.cell d0 (by simpa using hne)
  have H5 := Lib.hid hW5
  have K5 := Lib.hid ((K4.out.mono (G := [b]) (by simp)).trans hset)
  have hz5 : (w4.setCell ⟨b, 2, none⟩ (.bool false)).heap.size = w4.heap.size := by simp [World.setCell]
  clear hW5 hset
  go_wp2_with (at_builtin; go_must (refine app_box rfl _ _ rfl base (.slice none 0 0) [] rfl (OwnsStk.nil _ _ _) ⟨g, 0, none⟩ (s.length + 1) cap (⟨true, cc, cpt⟩ :: s) rfl rfl ?_ (by simp; omega) (by simp [World.setCell]; exact hwb) ?_))
  · exact World.ownsRow.cells H5.out.opn (g := g) rfl
  intro v6 w6 hown6 hk6 hb6
  obtain ⟨g6, c6, rfl, gb6, gl6, gr6, gm6, p0, p1, p2, pf⟩ := hown6.some_
  have hg6 : g6 = w4.heap.size := by
    rcases hb6 with h | h
    · simp [Value.ownBlock] at h
    · try rw [hz5] at h
      simpa [Value.ownBlock] using h
  rw [blks_nil] at hk6
  have hblk6 := H5.out.blk.keeps hk6 (by simp)
  have r1 := hblk6.cell 1
  have rf1 := hblk6.free 1
  have rb1 := hblk6.lt
  have d6 := hk6.cell d5 (by simp)
  have he6 : w.heap.size < w6.heap.size := World.block_lt_of_cell? w6 _ d6
  have hgb : g6 ≠ b := by omega
  have hbg : b ≠ g6 := by omega
  have hge : w.heap.size ≠ g6 := by omega
  have hge2 : g6 ≠ w.heap.size := by omega
  have hne2 : b ≠ w.heap.size := by omega
  have pf2 := pf (s.length * 3 + 2)
  have hszg : w.heap.size ≤ g6 := by
    have := K4.out.size
    omega
  unfold maxLen at gm6
  clear hg6
  simp only [List.getElem?_cons_succ, List.getElem?_cons_zero] at r1
  have hset7 : Keeps [b] w6 (w6.setCell ⟨b, 1, none⟩ (.slice (some ⟨g6, 0, none⟩) (s.length + 1) c6)) := (Keeps.refl _ _).set1 _
  have hown7 := ownsRow_keeps hown6 hset7 (fun i hi hm => by
    rw [List.mem_singleton] at hm
    simp only [Value.ownBlock, Option.some.injEq] at hi
    omega)
  have HFIN := Lib.hid (show WrIn ((w6.setCell ⟨b, 1, none⟩ (.slice (some ⟨g6, 0, none⟩) (s.length + 1) c6)).setCell ⟨g6, s.length * 3 + 2, none⟩ (.int .i64 (cpt + 1))) base b 1 (.slice (some ⟨g6, 0, none⟩) (s.length + 1) c6) (⟨true, cc, cpt + 1⟩ :: s) false from
    ⟨((hblk6.set 1 (.slice (some ⟨g6, 0, none⟩) (s.length + 1) c6)).conv rfl).other (by simpa using hbg) _, OwnsStk.setParts hown7 (cpt + 1), fun hm => by
      rw [mem_blks] at hm
      simp only [Value.ownBlock, Option.some.injEq] at hm
      omega⟩)
  have K7 := Lib.hid ((((K5.out.trans (hk6.mono (G := [b]) (by simp))).trans hset7).mono (G := b :: blks (.slice (some ⟨g, 0, none⟩) (s.length + 1) cap)) (fun i hi => by rw [List.mem_singleton] at hi; rw [hi]; exact List.mem_cons_self ..)).setCell (p := ⟨g6, s.length * 3 + 2, none⟩) (Or.inr hszg) (.int .i64 (cpt + 1)))
  have HSZ := Lib.hid hszg
  clear g0 g1 g2 f2 hown6 hk6 hb6 hszg hset7 hown7 hblk6 pf K5 H5 d5
  go_wp2_with fail
  go_ret2
  refine ⟨rfl, _, HFIN.out, K7.out, fun i hi => Or.inr ?_⟩
  rw [mem_blks] at hi
  simp only [Value.ownBlock, Option.some.injEq] at hi
  rw [← hi]
  exact HSZ.out

set_option maxHeartbeats 3200000 in
set_option maxRecDepth 100000 in
theorem wj_leaf_even0 (e : Ev) (hk : 0 ≤ e.kind ∧ e.kind ≤ 4) {bs : ByteArray} (hbs : bs.size ≤ 1000000)
    (HP : ∀ W, Calls Try.prog 25 #[.int .i64 1, e.val] W fun r w' => r = .returned (.tuple #[.string bs, .int .i64 0]) ∧ Keeps [] W w')
    {w : World} {base b : Nat} {ov : Value} {cc cpt : Int} {s : List Cont} (h : WrIn w base b 1 ov (⟨true, cc, cpt⟩ :: s) false) (hs : s.length ≤ 100) (hp0 : 0 ≤ cpt) (hp1 : cpt ≤ 3000000) (hr : -1 ≤ cc ∧ cc < 0) (hz : ¬ 0 < cpt) (hpar : cpt % 2 = 0) (hk3 : e.kind = 3) (hbase : base ≤ w.heap.size) :
    Calls Try.prog 12 #[.pointer (some ⟨b, 0, none⟩), e.val] w (WrPost w base b 1 ov bs (⟨true, cc, cpt + 1⟩ :: s) false) := by
  have HM := Lib.hid (fun W => may_yes e (Or.inl (by omega)) W)
  obtain ⟨g, cap, rfl, gb, gl, gr, gm, -, -, -, -⟩ := h.opn.some_
  obtain ⟨k, y, m, t, cn⟩ := e
  simp only [Ev.val, Ev.cells] at *
  obtain ⟨hr1, hr2⟩ := hr
  have hmod : cpt.tmod 2 = 0 := by rw [Int.tmod_eq_emod_of_nonneg hp0]; exact hpar
  clear hpar
  subst hk3
  have hcat : (⟨#[]⟩ : ByteArray) ++ bs = bs := ByteArray.empty_append
  have hsn : ((s.length : Int) + 1 == 0) = false := by simp; omega
  have HP := Lib.hid HP
  have H := Lib.hid h
  have HB := Lib.hid hbase
  have hbl := h.blk.lt
  unfold maxLen at gm
  clear h hk hbase
  go_enter Try.func12, Try.ntmps12
  have hnew := Has.new' w #[.int .i64 3, .bool y, .int .u64 m, .string t, .int .i64 cn] 36 rfl
  have k0 := (Keeps.refl [] w).alloc (.cells #[.int .i64 3, .bool y, .int .u64 m, .string t, .int .i64 cn] 36)
  obtain ⟨w1, hw1⟩ : ∃ w1, w.alloc (.cells #[.int .i64 3, .bool y, .int .u64 m, .string t, .int .i64 cn] 36) = w1 := ⟨_, rfl⟩
  have H1 := Lib.hid (H.out.keeps (k0) (by simp) (by simp))
  rw [hw1] at hnew k0 H1
  obtain ⟨g0, g1, g2⟩ := H1.out.cells
  have e0 : w1.cell? ⟨w.heap.size, 0, none⟩ = some (.int .i64 3) := hnew.cell 0
  have e1 : w1.cell? ⟨w.heap.size, 1, none⟩ = some (.bool y) := hnew.cell 1
  have e2 : w1.cell? ⟨w.heap.size, 2, none⟩ = some (.int .u64 m) := hnew.cell 2
  have e3 : w1.cell? ⟨w.heap.size, 3, none⟩ = some (.string t) := hnew.cell 3
  have e4 : w1.cell? ⟨w.heap.size, 4, none⟩ = some (.int .i64 cn) := hnew.cell 4
  have K0 := Lib.hid k0
  have HN := Lib.hid hnew
  clear hnew k0
  go_wp2_with fail
  refine (HM.out _).mono ?_
  rintro e w2 ⟨rfl, k2⟩
  have H2 := Lib.hid (H1.out.keeps k2 (by simp) (by simp))
  have hnew := HN.out.keeps k2 (by simp)
  have K2 := Lib.hid (K0.out.trans k2)
  clear g0 g1 g2 e0 e1 e2 e3 e4 hw1
  obtain ⟨g0, g1, g2⟩ := H2.out.cells
  obtain ⟨g', cap', he, -, gl2, -, -, q0, q1, q2, -⟩ := OwnsStk.some_ H2.out.opn
  simp only [Value.slice.injEq, Option.some.injEq, Addr.mk.injEq, and_true, true_and] at he
  obtain ⟨rfl, rfl⟩ := he
  have e0 : w2.cell? ⟨w.heap.size, 0, none⟩ = some (.int .i64 3) := hnew.cell 0
  have e1 : w2.cell? ⟨w.heap.size, 1, none⟩ = some (.bool y) := hnew.cell 1
  have e2 : w2.cell? ⟨w.heap.size, 2, none⟩ = some (.int .u64 m) := hnew.cell 2
  have e3 : w2.cell? ⟨w.heap.size, 3, none⟩ = some (.string t) := hnew.cell 3
  have e4 : w2.cell? ⟨w.heap.size, 4, none⟩ = some (.int .i64 cn) := hnew.cell 4
  have HN2 := Lib.hid hnew
  have hb2 := H2.out.blk.lt
  have he2 : w.heap.size < w2.heap.size := hnew.lt
  clear hnew k2 K0 HN H1
  go_wp2_with fail
  obtain ⟨wc, hwc⟩ : ∃ wc, w2.alloc (.cells #[.bool true, .int .i64 cc, .int .i64 cpt] 64) = wc := ⟨_, rfl⟩
  have hkc : Keeps [] w2 wc := by rw [← hwc]; exact (Keeps.refl _ _).alloc _
  rw [hwc]
  have H3 := Lib.hid (H2.out.keeps hkc (by simp) (by simp))
  have hnew := HN2.out.keeps hkc (by simp)
  have K3 := Lib.hid (K2.out.trans hkc)
  clear g0 g1 g2 q0 q1 q2 e0 e1 e2 e3 e4 hb2 he2 HN2 H2 K2 hwc
  obtain ⟨g0, g1, g2⟩ := H3.out.cells
  have e0 : wc.cell? ⟨w.heap.size, 0, none⟩ = some (.int .i64 3) := hnew.cell 0
  have e1 : wc.cell? ⟨w.heap.size, 1, none⟩ = some (.bool y) := hnew.cell 1
  have e2 : wc.cell? ⟨w.heap.size, 2, none⟩ = some (.int .u64 m) := hnew.cell 2
  have e3 : wc.cell? ⟨w.heap.size, 3, none⟩ = some (.string t) := hnew.cell 3
  have e4 : wc.cell? ⟨w.heap.size, 4, none⟩ = some (.int .i64 cn) := hnew.cell 4
  clear hnew hkc
  go_region_held (fun W => W.cell? ⟨b, 0, none⟩ = some (.int .i64 1) ∧ W.cell? ⟨w.heap.size, 0, none⟩ = some (.int .i64 3) ∧ W.cell? ⟨w.heap.size, 1, none⟩ = some (.bool y) ∧ W.cell? ⟨w.heap.size, 2, none⟩ = some (.int .u64 m) ∧ W.cell? ⟨w.heap.size, 3, none⟩ = some (.string t) ∧ W.cell? ⟨w.heap.size, 4, none⟩ = some (.int .i64 cn)) (go_keep) ((go_at_call 25; refine (HP.out _).mono ?_; rintro e w4 ⟨rfl, k4⟩; have d := k4.cell (p := ⟨b, 0, none⟩) g0 (by simp); have d0 := k4.cell (p := ⟨w.heap.size, 0, none⟩) e0 (by simp); have d1 := k4.cell (p := ⟨w.heap.size, 1, none⟩) e1 (by simp); have d2 := k4.cell (p := ⟨w.heap.size, 2, none⟩) e2 (by simp); have d3 := k4.cell (p := ⟨w.heap.size, 3, none⟩) e3 (by simp); have d4 := k4.cell (p := ⟨w.heap.size, 4, none⟩) e4 (by simp)))
  have k24 := (Keeps.refl [] wc).drew.trans k4
  have H4 := Lib.hid (H3.out.keeps k24 (by simp) (by simp))
  have K4 := Lib.hid (K3.out.trans k24)
  clear g0 g1 g2 e0 e1 e2 e3 e4 k4 k24 d1 d2 d3 d4 K3 H3
  obtain ⟨g0, g1, g2⟩ := H4.out.cells
  have f2 := H4.out.blk.free 2
  have hb4 := H4.out.blk.lt
  have he4 : w.heap.size < w4.heap.size := World.block_lt_of_cell? w4 _ d0
  have hwb : base ≤ w4.heap.size := Nat.le_trans HB.out K4.out.size
  have hset : Keeps [b] w4 (w4.setCell ⟨b, 2, none⟩ (.bool false)) := (Keeps.refl _ _).set1 _
  have hne : w.heap.size ≠ b := by omega
  have hW5 : WrIn (w4.setCell ⟨b, 2, none⟩ (.bool false)) base b 1 (.slice (some ⟨g, 0, none⟩) (s.length + 1) cap) (⟨true, cc, cpt⟩ :: s) false := ⟨(H4.out.blk.set 2 (.bool false)).conv rfl, ownsRow_keeps H4.out.opn hset (fun i hi hm => H4.out.bo (by rw [List.mem_singleton] at hm; exact hm ▸ mem_blks.2 hi)), H4.out.bo⟩
  have d5 : (w4.setCell ⟨b, 2, none⟩ (.bool false)).cell? ⟨w.heap.size, 0, none⟩ = some (.int .i64 3) := hset.cell d0 (by simpa using hne)
  have H5 := Lib.hid hW5
  have K5 := Lib.hid ((K4.out.mono (G := [b]) (by simp)).trans hset)
  have hz5 : (w4.setCell ⟨b, 2, none⟩ (.bool false)).heap.size = w4.heap.size := by simp [World.setCell]
  clear hW5 hset
  go_wp2_with (at_builtin; go_must (refine app_box rfl _ _ rfl base (.slice none 0 0) [] rfl (OwnsStk.nil _ _ _) ⟨g, 0, none⟩ (s.length + 1) cap (⟨true, cc, cpt⟩ :: s) rfl rfl ?_ (by simp; omega) (by simp [World.setCell]; exact hwb) ?_))
  · exact World.ownsRow.cells H5.out.opn (g := g) rfl
  intro v6 w6 hown6 hk6 hb6
  obtain ⟨g6, c6, rfl, gb6, gl6, gr6, gm6, p0, p1, p2, pf⟩ := hown6.some_
  have hg6 : g6 = w4.heap.size := by
    rcases hb6 with h | h
    · simp [Value.ownBlock] at h
    · try rw [hz5] at h
      simpa [Value.ownBlock] using h
  rw [blks_nil] at hk6
  have hblk6 := H5.out.blk.keeps hk6 (by simp)
  have r1 := hblk6.cell 1
  have rf1 := hblk6.free 1
  have rb1 := hblk6.lt
  have d6 := hk6.cell d5 (by simp)
  have he6 : w.heap.size < w6.heap.size := World.block_lt_of_cell? w6 _ d6
  have hgb : g6 ≠ b := by omega
  have hbg : b ≠ g6 := by omega
  have hge : w.heap.size ≠ g6 := by omega
  have hge2 : g6 ≠ w.heap.size := by omega
  have hne2 : b ≠ w.heap.size := by omega
  have pf2 := pf (s.length * 3 + 2)
  have hszg : w.heap.size ≤ g6 := by
    have := K4.out.size
    omega
  unfold maxLen at gm6
  clear hg6
  simp only [List.getElem?_cons_succ, List.getElem?_cons_zero] at r1
  have hset7 : Keeps [b] w6 (w6.setCell ⟨b, 1, none⟩ (.slice (some ⟨g6, 0, none⟩) (s.length + 1) c6)) := (Keeps.refl _ _).set1 _
  have hown7 := ownsRow_keeps hown6 hset7 (fun i hi hm => by
    rw [List.mem_singleton] at hm
    simp only [Value.ownBlock, Option.some.injEq] at hi
    omega)
  have HFIN := Lib.hid (show WrIn ((w6.setCell ⟨b, 1, none⟩ (.slice (some ⟨g6, 0, none⟩) (s.length + 1) c6)).setCell ⟨g6, s.length * 3 + 2, none⟩ (.int .i64 (cpt + 1))) base b 1 (.slice (some ⟨g6, 0, none⟩) (s.length + 1) c6) (⟨true, cc, cpt + 1⟩ :: s) false from
    ⟨((hblk6.set 1 (.slice (some ⟨g6, 0, none⟩) (s.length + 1) c6)).conv rfl).other (by simpa using hbg) _, OwnsStk.setParts hown7 (cpt + 1), fun hm => by
      rw [mem_blks] at hm
      simp only [Value.ownBlock, Option.some.injEq] at hm
      omega⟩)
  have K7 := Lib.hid ((((K5.out.trans (hk6.mono (G := [b]) (by simp))).trans hset7).mono (G := b :: blks (.slice (some ⟨g, 0, none⟩) (s.length + 1) cap)) (fun i hi => by rw [List.mem_singleton] at hi; rw [hi]; exact List.mem_cons_self ..)).setCell (p := ⟨g6, s.length * 3 + 2, none⟩) (Or.inr hszg) (.int .i64 (cpt + 1)))
  have HSZ := Lib.hid hszg
  clear g0 g1 g2 f2 hown6 hk6 hb6 hszg hset7 hown7 hblk6 pf K5 H5 d5
  go_wp2_with fail
  go_ret2
  refine ⟨rfl, _, HFIN.out, K7.out, fun i hi => Or.inr ?_⟩
  rw [mem_blks] at hi
  simp only [Value.ownBlock, Option.some.injEq] at hi
  rw [← hi]
  exact HSZ.out

set_option maxHeartbeats 3200000 in
set_option maxRecDepth 100000 in
theorem wj_leaf_even1 (e : Ev) (hk : 0 ≤ e.kind ∧ e.kind ≤ 4) {bs : ByteArray} (hbs : bs.size ≤ 1000000)
    (HP : ∀ W, Calls Try.prog 25 #[.int .i64 1, e.val] W fun r w' => r = .returned (.tuple #[.string bs, .int .i64 0]) ∧ Keeps [] W w')
    {w : World} {base b : Nat} {ov : Value} {cc cpt : Int} {s : List Cont} (h : WrIn w base b 1 ov (⟨true, cc, cpt⟩ :: s) false) (hs : s.length ≤ 100) (hp0 : 0 ≤ cpt) (hp1 : cpt ≤ 3000000) (hr : -1 ≤ cc ∧ cc < 0) (hz : 0 < cpt) (hpar : cpt % 2 = 0) (hk3 : e.kind = 3) (hbase : base ≤ w.heap.size) :
    Calls Try.prog 12 #[.pointer (some ⟨b, 0, none⟩), e.val] w (WrPost w base b 1 ov ((⟨#[44]⟩ : ByteArray) ++ bs) (⟨true, cc, cpt + 1⟩ :: s) false) := by
  have HM := Lib.hid (fun W => may_yes e (Or.inl (by omega)) W)
  obtain ⟨g, cap, rfl, gb, gl, gr, gm, -, -, -, -⟩ := h.opn.some_
  obtain ⟨k, y, m, t, cn⟩ := e
  simp only [Ev.val, Ev.cells] at *
  obtain ⟨hr1, hr2⟩ := hr
  have hmod : cpt.tmod 2 = 0 := by rw [Int.tmod_eq_emod_of_nonneg hp0]; exact hpar
  clear hpar
  subst hk3
  have hcat : (⟨#[]⟩ : ByteArray) ++ bs = bs := ByteArray.empty_append
  have hsn : ((s.length : Int) + 1 == 0) = false := by simp; omega
  have HP := Lib.hid HP
  have H := Lib.hid h
  have HB := Lib.hid hbase
  have hbl := h.blk.lt
  unfold maxLen at gm
  clear h hk hbase
  go_enter Try.func12, Try.ntmps12
  have hnew := Has.new' w #[.int .i64 3, .bool y, .int .u64 m, .string t, .int .i64 cn] 36 rfl
  have k0 := (Keeps.refl [] w).alloc (.cells #[.int .i64 3, .bool y, .int .u64 m, .string t, .int .i64 cn] 36)
  obtain ⟨w1, hw1⟩ : ∃ w1, w.alloc (.cells #[.int .i64 3, .bool y, .int .u64 m, .string t, .int .i64 cn] 36) = w1 := ⟨_, rfl⟩
  have H1 := Lib.hid (H.out.keeps (k0) (by simp) (by simp))
  rw [hw1] at hnew k0 H1
  obtain ⟨g0, g1, g2⟩ := H1.out.cells
  have e0 : w1.cell? ⟨w.heap.size, 0, none⟩ = some (.int .i64 3) := hnew.cell 0
  have e1 : w1.cell? ⟨w.heap.size, 1, none⟩ = some (.bool y) := hnew.cell 1
  have e2 : w1.cell? ⟨w.heap.size, 2, none⟩ = some (.int .u64 m) := hnew.cell 2
  have e3 : w1.cell? ⟨w.heap.size, 3, none⟩ = some (.string t) := hnew.cell 3
  have e4 : w1.cell? ⟨w.heap.size, 4, none⟩ = some (.int .i64 cn) := hnew.cell 4
  have K0 := Lib.hid k0
  have HN := Lib.hid hnew
  clear hnew k0
  go_wp2_with fail
  refine (HM.out _).mono ?_
  rintro e w2 ⟨rfl, k2⟩
  have H2 := Lib.hid (H1.out.keeps k2 (by simp) (by simp))
  have hnew := HN.out.keeps k2 (by simp)
  have K2 := Lib.hid (K0.out.trans k2)
  clear g0 g1 g2 e0 e1 e2 e3 e4 hw1
  obtain ⟨g0, g1, g2⟩ := H2.out.cells
  obtain ⟨g', cap', he, -, gl2, -, -, q0, q1, q2, -⟩ := OwnsStk.some_ H2.out.opn
  simp only [Value.slice.injEq, Option.some.injEq, Addr.mk.injEq, and_true, true_and] at he
  obtain ⟨rfl, rfl⟩ := he
  have e0 : w2.cell? ⟨w.heap.size, 0, none⟩ = some (.int .i64 3) := hnew.cell 0
  have e1 : w2.cell? ⟨w.heap.size, 1, none⟩ = some (.bool y) := hnew.cell 1
  have e2 : w2.cell? ⟨w.heap.size, 2, none⟩ = some (.int .u64 m) := hnew.cell 2
  have e3 : w2.cell? ⟨w.heap.size, 3, none⟩ = some (.string t) := hnew.cell 3
  have e4 : w2.cell? ⟨w.heap.size, 4, none⟩ = some (.int .i64 cn) := hnew.cell 4
  have HN2 := Lib.hid hnew
  have hb2 := H2.out.blk.lt
  have he2 : w.heap.size < w2.heap.size := hnew.lt
  clear hnew k2 K0 HN H1
  go_wp2_with fail
  obtain ⟨wc, hwc⟩ : ∃ wc, w2.alloc (.cells #[.bool true, .int .i64 cc, .int .i64 cpt] 64) = wc := ⟨_, rfl⟩
  have hkc : Keeps [] w2 wc := by rw [← hwc]; exact (Keeps.refl _ _).alloc _
  rw [hwc]
  have H3 := Lib.hid (H2.out.keeps hkc (by simp) (by simp))
  have hnew := HN2.out.keeps hkc (by simp)
  have K3 := Lib.hid (K2.out.trans hkc)
  clear g0 g1 g2 q0 q1 q2 e0 e1 e2 e3 e4 hb2 he2 HN2 H2 K2 hwc
  obtain ⟨g0, g1, g2⟩ := H3.out.cells
  have e0 : wc.cell? ⟨w.heap.size, 0, none⟩ = some (.int .i64 3) := hnew.cell 0
  have e1 : wc.cell? ⟨w.heap.size, 1, none⟩ = some (.bool y) := hnew.cell 1
  have e2 : wc.cell? ⟨w.heap.size, 2, none⟩ = some (.int .u64 m) := hnew.cell 2
  have e3 : wc.cell? ⟨w.heap.size, 3, none⟩ = some (.string t) := hnew.cell 3
  have e4 : wc.cell? ⟨w.heap.size, 4, none⟩ = some (.int .i64 cn) := hnew.cell 4
  clear hnew hkc
  go_region_held (fun W => W.cell? ⟨b, 0, none⟩ = some (.int .i64 1) ∧ W.cell? ⟨w.heap.size, 0, none⟩ = some (.int .i64 3) ∧ W.cell? ⟨w.heap.size, 1, none⟩ = some (.bool y) ∧ W.cell? ⟨w.heap.size, 2, none⟩ = some (.int .u64 m) ∧ W.cell? ⟨w.heap.size, 3, none⟩ = some (.string t) ∧ W.cell? ⟨w.heap.size, 4, none⟩ = some (.int .i64 cn)) (go_keep) ((go_at_call 25; refine (HP.out _).mono ?_; rintro e w4 ⟨rfl, k4⟩; have d := k4.cell (p := ⟨b, 0, none⟩) g0 (by simp); have d0 := k4.cell (p := ⟨w.heap.size, 0, none⟩) e0 (by simp); have d1 := k4.cell (p := ⟨w.heap.size, 1, none⟩) e1 (by simp); have d2 := k4.cell (p := ⟨w.heap.size, 2, none⟩) e2 (by simp); have d3 := k4.cell (p := ⟨w.heap.size, 3, none⟩) e3 (by simp); have d4 := k4.cell (p := ⟨w.heap.size, 4, none⟩) e4 (by simp)))
  have k24 := (Keeps.refl [] wc).drew.trans k4
  have H4 := Lib.hid (H3.out.keeps k24 (by simp) (by simp))
  have K4 := Lib.hid (K3.out.trans k24)
  clear g0 g1 g2 e0 e1 e2 e3 e4 k4 k24 d1 d2 d3 d4 K3 H3
  obtain ⟨g0, g1, g2⟩ := H4.out.cells
  have f2 := H4.out.blk.free 2
  have hb4 := H4.out.blk.lt
  have he4 : w.heap.size < w4.heap.size := World.block_lt_of_cell? w4 _ d0
  have hwb : base ≤ w4.heap.size := Nat.le_trans HB.out K4.out.size
  have hset : Keeps [b] w4 (w4.setCell ⟨b, 2, none⟩ (.bool false)) := (Keeps.refl _ _).set1 _
  have hne : w.heap.size ≠ b := by omega
  have hW5 : WrIn (w4.setCell ⟨b, 2, none⟩ (.bool false)) base b 1 (.slice (some ⟨g, 0, none⟩) (s.length + 1) cap) (⟨true, cc, cpt⟩ :: s) false := ⟨(H4.out.blk.set 2 (.bool false)).conv rfl, ownsRow_keeps H4.out.opn hset (fun i hi hm => H4.out.bo (by rw [List.mem_singleton] at hm; exact hm ▸ mem_blks.2 hi)), H4.out.bo⟩
  have d5 : (w4.setCell ⟨b, 2, none⟩ (.bool false)).cell? ⟨w.heap.size, 0, none⟩ = some (.int .i64 3) := hset.cell d0 (by simpa using hne)
  have H5 := Lib.hid hW5
  have K5 := Lib.hid ((K4.out.mono (G := [b]) (by simp)).trans hset)
  have hz5 : (w4.setCell ⟨b, 2, none⟩ (.bool false)).heap.size = w4.heap.size := by simp [World.setCell]
  clear hW5 hset
  go_wp2_with (at_builtin; go_must (refine app_box rfl _ _ rfl base (.slice none 0 0) [] rfl (OwnsStk.nil _ _ _) ⟨g, 0, none⟩ (s.length + 1) cap (⟨true, cc, cpt⟩ :: s) rfl rfl ?_ (by simp; omega) (by simp [World.setCell]; exact hwb) ?_))
  · exact World.ownsRow.cells H5.out.opn (g := g) rfl
  intro v6 w6 hown6 hk6 hb6
  obtain ⟨g6, c6, rfl, gb6, gl6, gr6, gm6, p0, p1, p2, pf⟩ := hown6.some_
  have hg6 : g6 = w4.heap.size := by
    rcases hb6 with h | h
    · simp [Value.ownBlock] at h
    · try rw [hz5] at h
      simpa [Value.ownBlock] using h
  rw [blks_nil] at hk6
  have hblk6 := H5.out.blk.keeps hk6 (by simp)
  have r1 := hblk6.cell 1
  have rf1 := hblk6.free 1
  have rb1 := hblk6.lt
  have d6 := hk6.cell d5 (by simp)
  have he6 : w.heap.size < w6.heap.size := World.block_lt_of_cell? w6 _ d6
  have hgb : g6 ≠ b := by omega
  have hbg : b ≠ g6 := by omega
  have hge : w.heap.size ≠ g6 := by omega
  have hge2 : g6 ≠ w.heap.size := by omega
  have hne2 : b ≠ w.heap.size := by omega
  have pf2 := pf (s.length * 3 + 2)
  have hszg : w.heap.size ≤ g6 := by
    have := K4.out.size
    omega
  unfold maxLen at gm6
  clear hg6
  simp only [List.getElem?_cons_succ, List.getElem?_cons_zero] at r1
  have hset7 : Keeps [b] w6 (w6.setCell ⟨b, 1, none⟩ (.slice (some ⟨g6, 0, none⟩) (s.length + 1) c6)) := (Keeps.refl _ _).set1 _
  have hown7 := ownsRow_keeps hown6 hset7 (fun i hi hm => by
    rw [List.mem_singleton] at hm
    simp only [Value.ownBlock, Option.some.injEq] at hi
    omega)
  have HFIN := Lib.hid (show WrIn ((w6.setCell ⟨b, 1, none⟩ (.slice (some ⟨g6, 0, none⟩) (s.length + 1) c6)).setCell ⟨g6, s.length * 3 + 2, none⟩ (.int .i64 (cpt + 1))) base b 1 (.slice (some ⟨g6, 0, none⟩) (s.length + 1) c6) (⟨true, cc, cpt + 1⟩ :: s) false from
    ⟨((hblk6.set 1 (.slice (some ⟨g6, 0, none⟩) (s.length + 1) c6)).conv rfl).other (by simpa using hbg) _, OwnsStk.setParts hown7 (cpt + 1), fun hm => by
      rw [mem_blks] at hm
      simp only [Value.ownBlock, Option.some.injEq] at hm
      omega⟩)
  have K7 := Lib.hid ((((K5.out.trans (hk6.mono (G := [b]) (by simp))).trans hset7).mono (G := b :: blks (.slice (some ⟨g, 0, none⟩) (s.length + 1) cap)) (fun i hi => by rw [List.mem_singleton] at hi; rw [hi]; exact List.mem_cons_self ..)).setCell (p := ⟨g6, s.length * 3 + 2, none⟩) (Or.inr hszg) (.int .i64 (cpt + 1)))
  have HSZ := Lib.hid hszg
  clear g0 g1 g2 f2 hown6 hk6 hb6 hszg hset7 hown7 hblk6 pf K5 H5 d5
  go_wp2_with fail
  go_ret2
  refine ⟨rfl, _, HFIN.out, K7.out, fun i hi => Or.inr ?_⟩
  rw [mem_blks] at hi
  simp only [Value.ownBlock, Option.some.injEq] at hi
  rw [← hi]
  exact HSZ.out

end Go.Proofs.Ytbeocehadnhmnaa

namespace Go.Tru
theorem tx_app (a b : ByteArray) : (a ++ b).data.toList = a.data.toList ++ b.data.toList := by simp [ByteArray.data_append]
theorem tx_size (a : ByteArray) : a.size = a.data.toList.length := by rw [Array.length_toList]; rfl
theorem tx_of (a : ByteArray) {l : List UInt8} (h : a.data.toList = l) : a = ⟨l.toArray⟩ := by subst h; rfl

theorem putOf_1 {n : Nat} (h : n < 128) : putOf (n : Int) = [UInt8.ofNat n] := by
  unfold putOf enc encN
  rw [if_pos (by omega), Int.toNat_natCast, if_pos h]; rfl
theorem putOf_2 {n : Nat} (h : 128 ≤ n) (h2 : n < 2048) : putOf (n : Int) = [UInt8.ofNat (192 + n / 64), UInt8.ofNat (128 + n % 64)] := by
  unfold putOf enc encN
  rw [if_pos (by omega), Int.toNat_natCast, if_neg (by omega), if_pos h2]; rfl
theorem putOf_3 {n : Nat} (h : 2048 ≤ n) (h2 : n < 65536) (h3 : n < 55296 ∨ 57343 < n) : putOf (n : Int) = [UInt8.ofNat (224 + n / 4096), UInt8.ofNat (128 + n / 64 % 64), UInt8.ofNat (128 + n % 64)] := by
  unfold putOf enc encN
  rw [if_pos (by omega), Int.toNat_natCast, if_neg (by omega), if_neg (by omega), if_pos h2]; rfl
theorem putOf_4 {n : Nat} (h : 65536 ≤ n) (h2 : n ≤ 1114111) : putOf (n : Int) = [UInt8.ofNat (240 + n / 262144), UInt8.ofNat (128 + n / 4096 % 64), UInt8.ofNat (128 + n / 64 % 64), UInt8.ofNat (128 + n % 64)] := by
  unfold putOf enc encN
  rw [if_pos (by omega), Int.toNat_natCast, if_neg (by omega), if_neg (by omega), if_neg (by omega)]; rfl
end Go.Tru
namespace Go.Proofs.Ytbeocehadnhmnaa
open Go.RowKit Go.Tru

theorem lit_bytes (xs : List Int) (W : World) : (convert 42 9 (.slice (some ⟨W.heap.size, 0, none⟩) xs.length xs.length)).run Try.prog (W.alloc (.cells (xs.map (Value.int .u8)).toArray 5)) = .ok (.string (strOfNums xs)) (W.alloc (.cells (xs.map (Value.int .u8)).toArray 5)) :=
  run_bytes_lit 42 9 5 Try.underlying42 Try.underlying5 Try.underlying9 xs W _ rfl

theorem escB_len (b : UInt8) : (escB b).length ≤ 6 := by unfold escB; repeat' split
                                                         all_goals simp
theorem writeOf_len (l : List UInt8) : (writeOf l).length ≤ l.length * 6 := by
  induction l with
  | nil => simp [writeOf]
  | cons b l ih =>
    have e : writeOf (b :: l) = escB b ++ writeOf l := rfl
    have := escB_len b
    rw [e, List.length_append, List.length_cons]
    omega

theorem writeOf_take {l : List UInt8} {k : Nat} {x : UInt8} (h : l[k]? = some x) : writeOf (l.take (k + 1)) = writeOf (l.take k) ++ escB x := by
  obtain ⟨hk, rfl⟩ := List.getElem?_eq_some_iff.1 h
  have e : l.take (k + 1) = l.take k ++ [l[k]] := List.take_succ_eq_append_getElem hk
  rw [e]
  unfold writeOf
  rw [List.flatMap_append]
  simp

def hexStr : ByteArray := ⟨#[48, 49, 50, 51, 52, 53, 54, 55, 56, 57, 97, 98, 99, 100, 101, 102]⟩
theorem hexStr_at (i : Nat) (h : i < hexStr.size) : hexStr[i]'h = hexDig i := by
  have hall : ∀ j : Fin 16, hexStr[j.1]'(show j.1 < 16 from j.2) = hexDig j.1 := by decide +kernel
  exact hall ⟨i, h⟩

def twoB (a c : UInt8) : ByteArray := strOfNums [(a.toNat : Int), (c.toNat : Int)]
theorem twoB_data (a c : UInt8) : (twoB a c).data.toList = [a, c] := by unfold twoB; rw [str_data]; simp
theorem two_at (i : Nat) (h : i < 16) : (⟨#[48, 49, 50, 51, 52, 53, 54, 55, 56, 57, 97, 98, 99, 100, 101, 102]⟩ : ByteArray)[i]'(show i < 16 from h) = hexDig i := hexStr_at i h

theorem cut_one (s : ByteArray) (k : Nat) (h : k < s.size) : s.extract k (k + 1) = ⟨#[s[k]'h]⟩ := by
  apply ByteArray.ext
  rw [ByteArray.data_extract]
  apply Array.ext
  · have h1 : s.data.size = s.size := rfl
    simp only [Array.size_extract, h1]
    show min (k + 1) s.size - k = 1
    omega
  · intro i h1 h2
    have : i = 0 := by simp at h2; omega
    subst this
    simp
    rfl

def WriteRel (s : ByteArray) (w : World) (out i : Value) (wr : World) : Prop :=
  ∃ (k : Nat) (O : ByteArray), k ≤ s.size ∧ i = .int .i64 k ∧ out = .string O ∧ O.data.toList = writeOf (s.data.toList.take k) ∧ Keeps [] w wr

/-- a byte by its kind -/
theorem escB_kind (x : UInt8) : (x = 34 ∨ x = 92) ∧ escB x = [92, x] ∨ x = 8 ∧ escB x = [92, 98] ∨ x = 12 ∧ escB x = [92, 102] ∨ x = 10 ∧ escB x = [92, 110] ∨ x = 13 ∧ escB x = [92, 114] ∨ x = 9 ∧ escB x = [92, 116] ∨
    (x.toNat < 32 ∧ x.toNat ≠ 8 ∧ x.toNat ≠ 12 ∧ x.toNat ≠ 10 ∧ x.toNat ≠ 13 ∧ x.toNat ≠ 9) ∧ escB x = [92, 117, 48, 48, hexDig (x.toNat / 16), hexDig (x.toNat % 16)] ∨ (32 ≤ x.toNat ∧ x.toNat ≠ 34 ∧ x.toNat ≠ 92) ∧ escB x = [x] := by
  have hall : ∀ y : Fin 256, ((UInt8.ofNat y.1 = 34 ∨ UInt8.ofNat y.1 = 92) ∧ escB (UInt8.ofNat y.1) = [92, UInt8.ofNat y.1]) ∨ UInt8.ofNat y.1 = 8 ∧ escB (UInt8.ofNat y.1) = [92, 98] ∨ UInt8.ofNat y.1 = 12 ∧ escB (UInt8.ofNat y.1) = [92, 102] ∨ UInt8.ofNat y.1 = 10 ∧ escB (UInt8.ofNat y.1) = [92, 110] ∨ UInt8.ofNat y.1 = 13 ∧ escB (UInt8.ofNat y.1) = [92, 114] ∨ UInt8.ofNat y.1 = 9 ∧ escB (UInt8.ofNat y.1) = [92, 116] ∨
    ((UInt8.ofNat y.1).toNat < 32 ∧ (UInt8.ofNat y.1).toNat ≠ 8 ∧ (UInt8.ofNat y.1).toNat ≠ 12 ∧ (UInt8.ofNat y.1).toNat ≠ 10 ∧ (UInt8.ofNat y.1).toNat ≠ 13 ∧ (UInt8.ofNat y.1).toNat ≠ 9) ∧ escB (UInt8.ofNat y.1) = [92, 117, 48, 48, hexDig ((UInt8.ofNat y.1).toNat / 16), hexDig ((UInt8.ofNat y.1).toNat % 16)] ∨ (32 ≤ (UInt8.ofNat y.1).toNat ∧ (UInt8.ofNat y.1).toNat ≠ 34 ∧ (UInt8.ofNat y.1).toNat ≠ 92) ∧ escB (UInt8.ofNat y.1) = [UInt8.ofNat y.1] := by decide +kernel
  have h := hall ⟨x.toNat, x.toNat_lt⟩
  rw [show UInt8.ofNat (⟨x.toNat, x.toNat_lt⟩ : Fin 256).1 = x by simp] at h
  exact h

set_option maxHeartbeats 4000000 in
set_option maxRecDepth 100000 in
theorem refWrite (s : ByteArray) (hs : s.size ≤ 1000000) (w : World) :
    Calls Try.prog 34 #[.string s] w fun e w' => e = .returned (.string ⟨(writeOf s.data.toList).toArray⟩) ∧ Keeps [] w w' := by
  go_enter Try.func34, Try.ntmps34
  go_wp2_with fail
  go_loopw [3, 4] (fun out i wr => WriteRel s w out i wr) (fun _ i _ => s.size - (intOf i).toNat)
  case atStart => exact ⟨0, ⟨#[]⟩, Nat.zero_le _, rfl, rfl, rfl, Keeps.refl _ _⟩
  case round =>
    obtain ⟨k, O, hk, rfl, rfl, hO, hK⟩ := hrel
    by_cases hlt : k < s.size
    · obtain ⟨x, hx⟩ : ∃ x : UInt8, s[k]'hlt = x := ⟨_, rfl⟩
      have hl : s.data.toList[k]? = some x := by
        rw [List.getElem?_eq_getElem (by rw [Array.length_toList]; exact hlt), ← hx]; rfl
      have hx8 : x.toNat < 256 := x.toNat_lt
      have hcut : s.extract k (k + 1) = ⟨#[x]⟩ := by rw [← hx]; exact cut_one s k hlt
      have hnext := writeOf_take hl
      have hOs : O.size ≤ 6000000 := by
        rw [tx_size, hO]
        have := writeOf_len (s.data.toList.take k)
        simp only [List.length_take] at this
        omega
      have hki : (k : Int) < (s.size : Int) := by omega
      have HNEXT := Lib.hid hnext
      have HO := Lib.hid hO
      have HK := Lib.hid hK
      clear hl hnext hO hK
      have hone : ∀ a : UInt8, (⟨#[a]⟩ : ByteArray).size = 1 := fun _ => rfl
      rcases escB_kind x with ⟨hk1, he⟩ | ⟨hk1, he⟩ | ⟨hk1, he⟩ | ⟨hk1, he⟩ | ⟨hk1, he⟩ | ⟨hk1, he⟩ | ⟨hk1, he⟩ | ⟨hk1, he⟩
      · have HE := Lib.hid he
        have z1 : ¬ 281474976710656 < O.size + (⟨#[92]⟩ : ByteArray).size := by show ¬ _ < O.size + 1; omega
        have z2 : ¬ 281474976710656 < (O ++ (⟨#[92]⟩ : ByteArray)).size + (⟨#[x]⟩ : ByteArray).size := by
          rw [tx_size, tx_app, List.length_append, ← tx_size, ← tx_size]
          show ¬ _ < O.size + 1 + 1
          omega
        have hkx : (x.toNat : Int) = 34 ∨ (x.toNat : Int) = 92 := by rcases hk1 with rfl | rfl <;> simp
        obtain ⟨X, hX⟩ : ∃ X : ByteArray, ⟨#[x]⟩ = X := ⟨_, rfl⟩
        rw [hX] at hcut z2
        have hXd : X.data.toList = [x] := by rw [← hX]
        have HX := Lib.hid hXd
        clear he hk1 hX hXd
        rcases hkx with hkx | hkx
        all_goals
          go_wp2_with fail
          go_roundw
          case rel => exact ⟨k + 1, _, by omega, by go_num, rfl, by rw [HNEXT.out, tx_app, tx_app, HO.out, HX.out, HE.out]; simp, HK.out⟩
          case measure => simp [intOf]; omega
      · have HE := Lib.hid he
        have hz : ¬ 281474976710656 < O.size + (⟨#[92, 98]⟩ : ByteArray).size := by show ¬ _ < O.size + 2; omega
        rw [hk1] at hx
        clear he hcut
        subst hk1
        go_wp2_with fail
        go_roundw
        case rel => exact ⟨k + 1, _, by omega, by go_num, rfl, by rw [HNEXT.out, tx_app, HO.out, HE.out], HK.out⟩
        case measure => simp [intOf]; omega
      · have HE := Lib.hid he
        have hz : ¬ 281474976710656 < O.size + (⟨#[92, 102]⟩ : ByteArray).size := by show ¬ _ < O.size + 2; omega
        rw [hk1] at hx
        clear he hcut
        subst hk1
        go_wp2_with fail
        go_roundw
        case rel => exact ⟨k + 1, _, by omega, by go_num, rfl, by rw [HNEXT.out, tx_app, HO.out, HE.out], HK.out⟩
        case measure => simp [intOf]; omega
      · have HE := Lib.hid he
        have hz : ¬ 281474976710656 < O.size + (⟨#[92, 110]⟩ : ByteArray).size := by show ¬ _ < O.size + 2; omega
        rw [hk1] at hx
        clear he hcut
        subst hk1
        go_wp2_with fail
        go_roundw
        case rel => exact ⟨k + 1, _, by omega, by go_num, rfl, by rw [HNEXT.out, tx_app, HO.out, HE.out], HK.out⟩
        case measure => simp [intOf]; omega
      · have HE := Lib.hid he
        have hz : ¬ 281474976710656 < O.size + (⟨#[92, 114]⟩ : ByteArray).size := by show ¬ _ < O.size + 2; omega
        rw [hk1] at hx
        clear he hcut
        subst hk1
        go_wp2_with fail
        go_roundw
        case rel => exact ⟨k + 1, _, by omega, by go_num, rfl, by rw [HNEXT.out, tx_app, HO.out, HE.out], HK.out⟩
        case measure => simp [intOf]; omega
      · have HE := Lib.hid he
        have hz : ¬ 281474976710656 < O.size + (⟨#[92, 116]⟩ : ByteArray).size := by show ¬ _ < O.size + 2; omega
        rw [hk1] at hx
        clear he hcut
        subst hk1
        go_wp2_with fail
        go_roundw
        case rel => exact ⟨k + 1, _, by omega, by go_num, rfl, by rw [HNEXT.out, tx_app, HO.out, HE.out], HK.out⟩
        case measure => simp [intOf]; omega
      · have HE := Lib.hid he
        obtain ⟨q0, q1, q2, q3, q4, q5⟩ := hk1
        have z1 : ¬ 281474976710656 < O.size + (⟨#[92, 117, 48, 48]⟩ : ByteArray).size := by show ¬ _ < O.size + 4; omega
        obtain ⟨n, hn⟩ : ∃ n : Nat, x.toNat = n := ⟨_, rfl⟩
        rw [hn] at q0 q1 q2 q3 q4 q5
        have e1 : ((n : Int) == 8) = false := by rw [beq_eq_false_iff_ne]; omega
        have e2 : ((n : Int) == 12) = false := by rw [beq_eq_false_iff_ne]; omega
        have e3 : ((n : Int) == 10) = false := by rw [beq_eq_false_iff_ne]; omega
        have e4 : ((n : Int) == 13) = false := by rw [beq_eq_false_iff_ne]; omega
        have e5 : ((n : Int) == 9) = false := by rw [beq_eq_false_iff_ne]; omega
        have e6 : ((n : Int) == 34) = false := by rw [beq_eq_false_iff_ne]; omega
        have e7 : ((n : Int) == 92) = false := by rw [beq_eq_false_iff_ne]; omega
        have e8 : (n : Int) < 32 := by omega
        have b1 : 0 ≤ (n : Int) % 16 := by omega
        have b2 : (n : Int) % 16 < 16 := by omega
        have b3 : 0 ≤ (n : Int) / 16 := by omega
        have b4 : (n : Int) / 16 < 16 := by omega
        have hcv : ∀ a c : UInt8, (convert 42 9 (.slice (some ⟨wr.heap.size, 0, none⟩) 2 2)).run Try.prog (wr.alloc (.cells #[.int .u8 a.toNat, .int .u8 c.toNat] 5)).drew = .ok (.string (twoB a c)) (wr.alloc (.cells #[.int .u8 a.toNat, .int .u8 c.toNat] 5)).drew := fun a c => lit_bytes [(a.toNat : Int), (c.toNat : Int)] wr.drew
        obtain ⟨A, hA⟩ : ∃ A, O ++ (⟨#[92, 117, 48, 48]⟩ : ByteArray) = A := ⟨_, rfl⟩
        have hAs : A.size = O.size + 4 := by rw [← hA, tx_size, tx_app, List.length_append, ← tx_size]; rfl
        have z2 : ∀ a c : UInt8, ¬ 281474976710656 < A.size + (twoB a c).size := fun a c => by
          show ¬ _ < A.size + 2
          omega
        have z3 : ¬ 281474976710656 < A.size + 2 := by omega
        have z4 : ∀ a c : UInt8, (twoB a c).size = 2 := fun _ _ => rfl
        have HAS := Lib.hid hAs
        clear hAs z2
        have HN := Lib.hid hn
        clear he hcut
        go_wp2_with fail
        go_region
        all_goals
          go_wp2_with fail
          go_roundw
          case rel => exact ⟨k + 1, _, by omega, by go_num, rfl, by rw [HNEXT.out, tx_app, ← hA, tx_app, HO.out, HE.out, HN.out, twoB_data, two_at _ (by omega), two_at _ (by omega)]; simp, (HK.out.alloc _).drew⟩
          case measure => simp [intOf]; omega
      · have HE := Lib.hid he
        obtain ⟨q0, q1, q2⟩ := hk1
        have z1 : ¬ 281474976710656 < O.size + (⟨#[x]⟩ : ByteArray).size := by show ¬ _ < O.size + 1; omega
        have e1 : ((x.toNat : Int) == 8) = false := by rw [beq_eq_false_iff_ne]; omega
        have e2 : ((x.toNat : Int) == 12) = false := by rw [beq_eq_false_iff_ne]; omega
        have e3 : ((x.toNat : Int) == 10) = false := by rw [beq_eq_false_iff_ne]; omega
        have e4 : ((x.toNat : Int) == 13) = false := by rw [beq_eq_false_iff_ne]; omega
        have e5 : ((x.toNat : Int) == 9) = false := by rw [beq_eq_false_iff_ne]; omega
        have e6 : ((x.toNat : Int) == 34) = false := by rw [beq_eq_false_iff_ne]; omega
        have e7 : ((x.toNat : Int) == 92) = false := by rw [beq_eq_false_iff_ne]; omega
        have e8 : ¬ (x.toNat : Int) < 32 := by omega
        obtain ⟨X, hX⟩ : ∃ X : ByteArray, ⟨#[x]⟩ = X := ⟨_, rfl⟩
        rw [hX] at hcut z1
        have hXd : X.data.toList = [x] := by rw [← hX]
        have HX := Lib.hid hXd
        clear he hX hXd q0 q1 q2
        go_wp2_with fail
        go_roundw
        case rel => exact ⟨k + 1, _, by omega, by go_num, rfl, by rw [HNEXT.out, tx_app, HO.out, HX.out, HE.out], HK.out⟩
        case measure => simp [intOf]; omega
    · obtain rfl : k = s.size := by omega
      rw [List.take_of_length_le (by rw [Array.length_toList]; exact Nat.le_refl _)] at hO
      have HO := Lib.hid (tx_of O hO)
      have HK := Lib.hid hK
      clear hO hK
      go_wp2_with fail
      go_ret
      exact ⟨by rw [HO.out]; rfl, HK.out⟩

end Go.Proofs.Ytbeocehadnhmnaa

namespace Go.Tru
open Go.RowKit

theorem dec_top : Lib.decDigits 18446744073709551616 = [49, 56, 52, 52, 54, 55, 52, 52, 48, 55, 51, 55, 48, 57, 53, 53, 49, 54, 49, 54] := by
  have h := canon_dec 20 [49, 56, 52, 52, 54, 55, 52, 52, 48, 55, 51, 55, 48, 57, 53, 53, 49, 54, 49, 54] rfl ⟨by unfold allDig; decide, by simp, by decide⟩
  exact h

theorem dec_size (u : Nat) (hu : u < 18446744073709551616) : (Lib.decDigits u).length ≤ 20 := by
  by_cases h0 : u = 0
  · subst h0; rw [Lib.decDigits_one (by omega)]; simp
  · rw [Lib.decDigits_length]
    have := Lib.numDigits_eq u (by omega) hu
    split at this <;> omega

/-- the digits ahead of those that are there -/
def digsOf (v : Nat) : List UInt8 := if v = 0 then [] else Lib.decDigits v

theorem dec_step (v : Nat) : Lib.decDigits v = digsOf (v / 10) ++ [UInt8.ofNat (48 + v % 10)] := by
  unfold digsOf
  by_cases h : v < 10
  · rw [Lib.decDigits_one h, if_pos (by omega), Nat.mod_eq_of_lt h]; rfl
  · rw [Lib.decDigits, dif_neg h, if_neg (by omega)]

def strLen : Value → Nat
  | .string s => s.size
  | _ => 0

theorem strs_app (a b : ByteArray) : (a ++ b).data.toList = a.data.toList ++ b.data.toList := by simp [ByteArray.data_append]
theorem strs_size (a : ByteArray) : a.size = a.data.toList.length := by rw [Array.length_toList]; rfl
theorem str_of (a : ByteArray) {l : List UInt8} (h : a.data.toList = l) : a = ⟨l.toArray⟩ := by subst h; rfl
end Go.Tru
namespace Go.Proofs.Ytbeocehadnhmnaa
open Go.RowKit Go.Tru

def DigRel (v0 : Nat) (w : World) (v s : Value) (wr : World) : Prop :=
  ∃ (u : Nat) (S : ByteArray), v = .int .u64 u ∧ s = .string S ∧ u ≤ v0 ∧ Keeps [] w wr ∧ (S.data.toList = [] ∧ u = v0 ∨ S.data.toList ≠ [] ∧ Lib.decDigits v0 = digsOf u ++ S.data.toList)

set_option maxHeartbeats 1000000 in
theorem refDigits (v0 : Nat) (hv : v0 < 18446744073709551616) (w : World) :
    Calls Try.prog 30 #[.int .u64 v0] w fun e w' => e = .returned (.string ⟨(Lib.decDigits v0).toArray⟩) ∧ Keeps [] w w' := by
  have hdl := dec_size v0 hv
  have HDL := Lib.hid hdl
  clear hdl
  go_enter Try.func30, Try.ntmps30
  go_wp2_with fail
  go_loopw [0, 3] (fun v s wr => DigRel v0 w v s wr) (fun v s _ => (intOf v).toNat + (1 - strLen s))
  case atStart => exact ⟨v0, ⟨#[]⟩, rfl, rfl, Nat.le_refl _, Keeps.refl _ _, Or.inl ⟨rfl, rfl⟩⟩
  case round =>
    obtain ⟨u, S, rfl, rfl, hu, hk, hs⟩ := hrel
    have HK := Lib.hid hk
    have hemp : S.toList.isEmpty = decide (S.data.toList = []) := by rw [Lib.toList_data]; cases S.data.toList <;> rfl
    clear hk
    by_cases hgo : u = 0 ∧ S.data.toList ≠ []
    · obtain ⟨h0, h1⟩ := hgo
      subst h0
      have h2 : S.data.toList = Lib.decDigits v0 := by
        rcases hs with ⟨a, _⟩ | ⟨_, b⟩
        · exact absurd a h1
        · rw [b]; simp [digsOf]
      have hem : S.toList.isEmpty = false := by rw [hemp]; simp [h1]
      have HS := Lib.hid (str_of S h2)
      clear hs h1 h2 hemp
      go_wp2_with fail
      go_ret
      exact ⟨by rw [HS.out]; rfl, HK.out⟩
    · have hstep : S.data.toList = [] ∧ u = v0 ∨ 0 < u ∧ Lib.decDigits v0 = digsOf u ++ S.data.toList := by
        rcases hs with a | ⟨a, b⟩
        · exact Or.inl a
        · right
          refine ⟨?_, b⟩
          rcases Nat.eq_zero_or_pos u with h | h
          · exact absurd ⟨h, a⟩ hgo
          · exact h
      have hnew : Lib.decDigits v0 = digsOf (u / 10) ++ ([UInt8.ofNat (48 + u % 10)] ++ S.data.toList) := by
        rcases hstep with ⟨a, b⟩ | ⟨a, b⟩
        · rw [a, ← b, List.append_nil]; exact dec_step u
        · rw [b]
          have : digsOf u = Lib.decDigits u := by unfold digsOf; rw [if_neg (by omega)]
          rw [this, dec_step u, List.append_assoc]
      have hlen : S.size ≤ 20 := by
        have := congrArg List.length hnew
        simp only [List.length_append, List.length_singleton] at this
        rw [strs_size]
        have := HDL.out
        omega
      obtain ⟨d, hd⟩ : ∃ d, 48 + u % 10 = d := ⟨_, rfl⟩
      obtain ⟨q, hq⟩ : ∃ q, u / 10 = q := ⟨_, rfl⟩
      have hcv := run_bytes_lit (P := Try.prog) 42 9 5 Try.underlying42 Try.underlying5 Try.underlying9 [(d : Int)] wr wr.heap.size rfl
      obtain ⟨D, hD⟩ : ∃ D, strOfNums [(d : Int)] = D := ⟨_, rfl⟩
      have hDd : D.data.toList = [UInt8.ofNat d] := by rw [← hD]; rfl
      have hDs : D.size = 1 := by rw [← hD]; rfl
      rw [hD] at hcv
      simp only [List.length_singleton, List.map_cons, List.map_nil] at hcv
      have hsum : ¬ 281474976710656 < D.size + S.size := by omega
      have h48 : (48 : Int) + (u : Int) % 10 = (d : Int) := by omega
      have hdiv : (u : Int) / 10 = (q : Int) := by omega
      have hd9 : d ≤ 57 := by omega
      have hqu : q ≤ u := by omega
      rw [hd, hq] at hnew
      have HNEW := Lib.hid hnew
      have HDD := Lib.hid hDd
      have hgo' : 0 < u ∨ u = 0 ∧ S.toList.isEmpty = true := by
        rcases hstep with ⟨a, b⟩ | ⟨a, _⟩
        · rcases Nat.eq_zero_or_pos u with h | h
          · exact Or.inr ⟨h, by rw [hemp, a]; rfl⟩
          · exact Or.inl h
        · exact Or.inl a
      have HSZ := Lib.hid (strs_size S)
      have hmeas : q < u + (1 - S.size) := by
        rcases hstep with ⟨a, b⟩ | ⟨a, _⟩
        · have : S.size = 0 := by rw [strs_size, a]; rfl
          omega
        · omega
      have HME := Lib.hid hmeas
      clear hs hstep hnew hD hDd hgo hemp hmeas hd hq
      have hDS : (D ++ S).size ≠ 0 := by rw [strs_size, strs_app, HDD.out]; simp
      rcases hgo' with hg | ⟨hg, hg2⟩
      · have hg' : (0 : Int) < (u : Int) := by omega
        have HDS := Lib.hid hDS
        clear hDS
        go_wp2_with fail
        go_roundw
        case rel => exact ⟨q, D ++ S, rfl, rfl, by omega, HK.out.alloc _, Or.inr ⟨by rw [strs_app, HDD.out]; simp, by rw [strs_app, HDD.out]; exact HNEW.out⟩⟩
        case measure =>
          have h1 := HME.out
          have h2 := HDS.out
          simp only [strLen, intOf]
          omega
      · obtain rfl : u = 0 := hg
        obtain rfl : d = 48 := by omega
        obtain rfl : q = 0 := by omega
        have hcv : (convert 42 9 (.slice (some ⟨wr.heap.size, 0, none⟩) 1 1)).run Try.prog (wr.alloc (.cells #[.int .u8 48] 5)) = .ok (.string D) (wr.alloc (.cells #[.int .u8 48] 5)) := hcv
        have HDS := Lib.hid hDS
        clear hDS h48 hdiv hqu
        go_wp2_with fail
        go_roundw
        case rel => exact ⟨0, D ++ S, rfl, rfl, by omega, HK.out.alloc _, Or.inr ⟨by rw [strs_app, HDD.out]; simp, by rw [strs_app, HDD.out]; exact HNEW.out⟩⟩
        case measure =>
          have h1 := HME.out
          have h2 := HDS.out
          simp only [strLen, intOf]
          omega

set_option maxHeartbeats 1000000 in
set_option maxRecDepth 100000 in
theorem refPrint (neg : Bool) (m : Nat) (hm : m < 18446744073709551616) (w : World) :
    Calls Try.prog 17 #[.agg #[.bool neg, .int .u64 m]] w fun e w' => e = .returned (.string ⟨(printW neg m).toArray⟩) ∧ Keeps [] w w' := by
  cases neg with
  | false =>
    have hcall := fun W => refDigits m hm W
    go_enter Try.func17, Try.ntmps17
    go_wp2_with fail
    refine (hcall _).mono ?_
    rintro e w1 ⟨rfl, k1⟩
    have K1 := Lib.hid (((Keeps.refl [] w).alloc _).trans k1)
    clear k1
    go_wp2_with fail
    go_ret
    exact ⟨rfl, K1.out⟩
  | true =>
    by_cases ht : m = 18446744073709551615
    · subst ht
      go_enter Try.func17, Try.ntmps17
      go_wp2_with fail
      go_ret
      refine ⟨?_, (Keeps.refl _ _).alloc _⟩
      simp only [printW, if_true]
      rw [dec_top]
      rfl
    · have hne : ((m : Int) == 18446744073709551615) = false := by rw [beq_eq_false_iff_ne]; omega
      have hwr : IntKind.u64.wrap ((m : Int) + 1) = ((m + 1 : Nat) : Int) := by rw [IntKind.wrap_u64]; omega
      obtain ⟨m1, hm1⟩ : ∃ m1, m + 1 = m1 := ⟨_, rfl⟩
      rw [hm1] at hwr
      have hcall := fun W => refDigits m1 (by omega) W
      have hl := dec_size m1 (by omega)
      obtain ⟨S, hS⟩ : ∃ S : ByteArray, ⟨(Lib.decDigits m1).toArray⟩ = S := ⟨_, rfl⟩
      have hSd : S.data.toList = Lib.decDigits m1 := by rw [← hS]
      have hsz : S.size = (Lib.decDigits m1).length := by rw [← hS]; rfl
      have hsum : ¬ 281474976710656 < (⟨#[45]⟩ : ByteArray).size + S.size := by rw [hsz]; show ¬ 281474976710656 < 1 + _; omega
      have he : (⟨#[45]⟩ : ByteArray) ++ S = ⟨(printW true m).toArray⟩ := by
        apply str_of
        rw [strs_app, hSd]
        simp [printW, hm1]
      rw [hS] at hcall
      have HE := Lib.hid he
      clear hl ht hm hS hSd hsz he hm1
      go_enter Try.func17, Try.ntmps17
      go_wp2_with fail
      refine (hcall _).mono ?_
      rintro e w1 ⟨rfl, k1⟩
      have K1 := Lib.hid (((Keeps.refl [] w).alloc _).trans k1)
      clear k1
      go_wp2_with fail
      go_ret
      exact ⟨by rw [← HE.out]; rfl, K1.out⟩

end Go.Proofs.Ytbeocehadnhmnaa

namespace Go.Proofs.Ytbeocehadnhmnaa
open Go.RowKit Go.Tru

theorem plainJ_null (w : World) : Calls Try.prog 25 #[.int .i64 1, evNull.val] w fun r w' => r = .returned (.tuple #[.string ⟨#[110, 117, 108, 108]⟩, .int .i64 0]) ∧ Keeps [] w w' := by
  simp only [Ev.val, Ev.cells, evNull, noText]
  go_enter Try.func25, Try.ntmps25
  go_wp2_with fail
  go_ret2
  exact ⟨rfl, (Keeps.refl _ _).alloc _⟩

theorem plainJ_bool (b : Bool) (w : World) : Calls Try.prog 25 #[.int .i64 1, (evBool b).val] w fun r w' => r = .returned (.tuple #[.string (if b then ⟨#[116, 114, 117, 101]⟩ else ⟨#[102, 97, 108, 115, 101]⟩), .int .i64 0]) ∧ Keeps [] w w' := by
  simp only [Ev.val, Ev.cells, evBool, noText]
  cases b
  all_goals
    go_enter Try.func25, Try.ntmps25
    go_wp2_with fail
    go_ret2
    exact ⟨rfl, (Keeps.refl _ _).alloc _⟩

theorem plainJ_int (b : Bool) (m : Nat) (hm : m < 18446744073709551616) (w : World) : Calls Try.prog 25 #[.int .i64 1, (evInt b m).val] w fun r w' => r = .returned (.tuple #[.string ⟨(printW b m).toArray⟩, .int .i64 0]) ∧ Keeps [] w w' := by
  simp only [Ev.val, Ev.cells, evInt, noText]
  have H := Lib.hid (fun W => refPrint b m hm W)
  clear hm
  go_enter Try.func25, Try.ntmps25
  go_wp2_with fail
  refine (H.out _).mono ?_
  rintro e w1 ⟨rfl, k1⟩
  have K1 := Lib.hid (((Keeps.refl [] w).alloc (.cells #[.int .i64 2, .bool b, .int .u64 m, .string ⟨#[]⟩, .int .i64 0] 36)).trans k1)
  clear k1
  go_wp2_with fail
  go_ret2
  exact ⟨rfl, K1.out⟩

theorem plainJ_text (t : ByteArray) (ht : t.size ≤ 1000) (w : World) : Calls Try.prog 25 #[.int .i64 1, (evText t).val] w fun r w' => r = .returned (.tuple #[.string ((⟨#[34]⟩ : ByteArray) ++ ⟨(writeOf t.data.toList).toArray⟩ ++ ⟨#[34]⟩), .int .i64 0]) ∧ Keeps [] w w' := by
  simp only [Ev.val, Ev.cells, evText]
  obtain ⟨T, hT⟩ : ∃ T : ByteArray, ⟨(writeOf t.data.toList).toArray⟩ = T := ⟨_, rfl⟩
  have hTs : T.size ≤ 6000 := by
    have h1 := writeOf_len t.data.toList
    have h2 : t.data.toList.length = t.size := by rw [Array.length_toList]; rfl
    have h3 : T.size = (writeOf t.data.toList).length := by rw [← hT]; rfl
    omega
  have h0 := fun W => refWrite t (by omega) W
  rw [hT] at h0 ⊢
  have H := Lib.hid h0
  clear ht h0 hT
  go_enter Try.func25, Try.ntmps25
  go_wp2_with fail
  refine (H.out _).mono ?_
  rintro e w1 ⟨rfl, k1⟩
  have K1 := Lib.hid (((Keeps.refl [] w).alloc (.cells #[.int .i64 3, .bool false, .int .u64 0, .string t, .int .i64 0] 36)).trans k1)
  clear k1
  go_wp2_with fail
  go_ret2
  exact ⟨rfl, K1.out⟩
end Go.Proofs.Ytbeocehadnhmnaa

namespace Go.Proofs.Ytbeocehadnhmnaa
open Go.RowKit Go.Tru

/-- the list of what is open has been put back, in a row of its own -/
theorem _root_.Go.Tru.WrIn.pushed {w w2 : World} {base b : Nat} {to : Int} {ov v2 : Value} {stk s : List Cont} {c : Cont} {dn : Bool} (h : WrIn w base b to ov stk dn) (hown : OwnsStk w2 base 64 v2 (c :: s)) (k : Keeps [] w w2)
    (hb : ∀ m, v2.ownBlock = some m → w.heap.size ≤ m) :
    ∃ g cap, v2 = .slice (some ⟨g, 0, none⟩) (s.length + 1) cap ∧ w.heap.size ≤ g ∧ WrIn (w2.setCell ⟨b, 1, none⟩ v2) base b to v2 (c :: s) dn ∧ Keeps [b] w (w2.setCell ⟨b, 1, none⟩ v2) ∧
      w2.cell? ⟨b, 1, none⟩ = some ov ∧ w2.frozen? ⟨b, 1, none⟩ = false ∧ b < w2.heap.size := by
  obtain ⟨g, cap, rfl, -, gl, -, -, -, -, -, -⟩ := hown.some_
  have hg : w.heap.size ≤ g := hb g rfl
  have hbl := h.blk.lt
  have hblk := h.blk.keeps k (by simp)
  have hset : Keeps [b] w2 (w2.setCell ⟨b, 1, none⟩ (.slice (some ⟨g, 0, none⟩) (s.length + 1) cap)) := (Keeps.refl _ _).set1 _
  refine ⟨g, cap, rfl, hg, ⟨(hblk.set 1 _).conv rfl, ownsRow_keeps hown hset (fun i hi hmm => ?_), fun hmm => ?_⟩, (k.mono (by simp)).trans hset, hblk.cell 1, hblk.free 1, hblk.lt⟩
  · rw [List.mem_singleton] at hmm
    simp only [Value.ownBlock, Option.some.injEq] at hi
    omega
  · rw [mem_blks] at hmm
    simp only [Value.ownBlock, Option.some.injEq] at hmm
    omega

/-- a block's cells, one by one -/
theorem has_cells {w : World} {b : Nat} {cs : List Value} {t : TypeId} (h : Has w b cs t) : ∀ (j : Nat) (u : Value), cs[j]? = some u → w.cell? ((⟨b, 0, none⟩ : Addr).add j) = some u := by
  intro j u hu
  have hadd : (⟨b, 0, none⟩ : Addr).add j = ⟨b, j, none⟩ := by unfold Addr.add; split <;> simp_all
  rw [hadd, h.cell]
  exact hu
end Go.Proofs.Ytbeocehadnhmnaa
