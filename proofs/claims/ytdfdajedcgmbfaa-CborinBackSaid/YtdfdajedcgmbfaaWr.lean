/-
  truchmanref1.Writer in memory; Step at a part that stands alone.
-/
import Derived.Test.YtdfdajedcgmbfaaWrMay
import Derived.Test.YtdfdajedcgmbfaaStack
import Derived.Test.YtdfdajedcgmbfaaAnys
import Derived.Deep.RegionHeld
import Derived.Deep.QuietTactic
import Derived.BigQuiet
namespace Go.Proofs.Ytdfdajedcgmbfaa
open Go.RowKit Go.Tru

/-- a Writer: its format, its open containers, is it done -/
structure WrIn (w : World) (base b : Nat) (to : Int) (ov : Value) (stk : List Cont) (done : Bool) : Prop where
  blk : Has w b [.int .i64 to, ov, .bool done] 30
  opn : OwnsStk w base 49 ov stk
  bo : b ∉ blks ov

theorem WrIn.keeps {F : List Nat} {w w' : World} {base b : Nat} {to : Int} {ov : Value} {stk : List Cont} {done : Bool} (h : WrIn w base b to ov stk done) (k : Keeps F w w') (hb : b ∉ F) (ho : ∀ i ∈ blks ov, i ∉ F) : WrIn w' base b to ov stk done :=
  ⟨h.blk.keeps k hb, ownsRow_keeps h.opn k (fun i hi => ho i (mem_blks.2 hi)), h.bo⟩

theorem WrIn.cells {w : World} {base b : Nat} {to : Int} {ov : Value} {stk : List Cont} {done : Bool} (h : WrIn w base b to ov stk done) :
    w.cell? ⟨b, 0, none⟩ = some (.int .i64 to) ∧ w.cell? ⟨b, 1, none⟩ = some ov ∧ w.cell? ⟨b, 2, none⟩ = some (.bool done) := ⟨h.blk.cell 0, h.blk.cell 1, h.blk.cell 2⟩

/-- what Step leaves -/
def WrPost (w : World) (base b : Nat) (to : Int) (ov : Value) (out : ByteArray) (stk : List Cont) (done : Bool) (r : Ending) (w' : World) : Prop :=
  r = .returned (.tuple #[.string out, .int .i64 0]) ∧ ∃ ov', WrIn w' base b to ov' stk done ∧ Keeps (b :: blks ov) w w' ∧ ∀ i ∈ blks ov', i ∈ blks ov ∨ w.heap.size ≤ i

set_option maxHeartbeats 1600000 in
set_option maxRecDepth 100000 in
theorem wstep_leaf0 {to : Int} (hto : to = 2 ∨ to = 3) (e : Ev) (hk : 0 ≤ e.kind ∧ e.kind ≤ 4) {bs : ByteArray} (hbs : bs.size ≤ 1000000)
    (HP : ∀ W, Calls Try.prog 17 #[.int .i64 to, e.val] W fun r w' => r = .returned (.tuple #[.string bs, .int .i64 0]) ∧ Keeps [] W w')
    {w : World} {base b : Nat} {ov : Value} (h : WrIn w base b to ov [] false) :
    Calls Try.prog 8 #[.pointer (some ⟨b, 0, none⟩), e.val] w (WrPost w base b to ov bs [] true) := by
  have HM := Lib.hid (fun W => may_yes e (Or.inl (by omega)) W)
  obtain ⟨a, cap, rfl⟩ := h.opn.shape
  obtain ⟨k, y, m, t, c⟩ := e
  simp only [Ev.val, Ev.cells, List.length_nil] at *
  have h1 : (to == 1) = false := by rcases hto with rfl | rfl <;> decide
  have k5 : (k == 5) = false := by simp; omega
  have k6 : (k == 6) = false := by simp; omega
  have k7 : (k == 7) = false := by simp; omega
  have hcat : (⟨#[]⟩ : ByteArray) ++ bs = bs := ByteArray.empty_append
  have HP := Lib.hid HP
  have H := Lib.hid h
  have hbl := h.blk.lt
  clear h hto hk
  go_enter Try.func8, Try.ntmps8
  have hnew := Has.new' w #[.int .i64 k, .bool y, .int .u64 m, .string t, .int .i64 c] 36 rfl
  have k0 := (Keeps.refl [] w).alloc (.cells #[.int .i64 k, .bool y, .int .u64 m, .string t, .int .i64 c] 36)
  obtain ⟨w1, hw1⟩ : ∃ w1, w.alloc (.cells #[.int .i64 k, .bool y, .int .u64 m, .string t, .int .i64 c] 36) = w1 := ⟨_, rfl⟩
  have H1 := Lib.hid (H.out.keeps (k0) (by simp) (by simp))
  rw [hw1] at hnew k0 H1
  obtain ⟨g0, g1, g2⟩ := H1.out.cells
  have e0 : w1.cell? ⟨w.heap.size, 0, none⟩ = some (.int .i64 k) := hnew.cell 0
  have e1 : w1.cell? ⟨w.heap.size, 1, none⟩ = some (.bool y) := hnew.cell 1
  have e2 : w1.cell? ⟨w.heap.size, 2, none⟩ = some (.int .u64 m) := hnew.cell 2
  have e3 : w1.cell? ⟨w.heap.size, 3, none⟩ = some (.string t) := hnew.cell 3
  have e4 : w1.cell? ⟨w.heap.size, 4, none⟩ = some (.int .i64 c) := hnew.cell 4
  have K0 := Lib.hid k0
  have HN := Lib.hid hnew
  clear hnew k0
  go_wp2_with fail
  go_wp2_with fail
  refine (HM.out _).mono ?_
  rintro e w2 ⟨rfl, k2⟩
  have H2 := Lib.hid (H1.out.keeps k2 (by simp) (by simp))
  have hnew := HN.out.keeps k2 (by simp)
  have K2 := Lib.hid (K0.out.trans k2)
  clear g0 g1 g2 e0 e1 e2 e3 e4 hw1
  obtain ⟨g0, g1, g2⟩ := H2.out.cells
  have e0 : w2.cell? ⟨w.heap.size, 0, none⟩ = some (.int .i64 k) := hnew.cell 0
  have e1 : w2.cell? ⟨w.heap.size, 1, none⟩ = some (.bool y) := hnew.cell 1
  have e2 : w2.cell? ⟨w.heap.size, 2, none⟩ = some (.int .u64 m) := hnew.cell 2
  have e3 : w2.cell? ⟨w.heap.size, 3, none⟩ = some (.string t) := hnew.cell 3
  have e4 : w2.cell? ⟨w.heap.size, 4, none⟩ = some (.int .i64 c) := hnew.cell 4
  have HN2 := Lib.hid hnew
  clear hnew k2 K0 HN H1
  go_wp2_with fail
  go_region_held (fun W => W.cell? ⟨b, 0, none⟩ = some (.int .i64 to) ∧ W.cell? ⟨w.heap.size, 0, none⟩ = some (.int .i64 k) ∧ W.cell? ⟨w.heap.size, 1, none⟩ = some (.bool y) ∧ W.cell? ⟨w.heap.size, 2, none⟩ = some (.int .u64 m) ∧ W.cell? ⟨w.heap.size, 3, none⟩ = some (.string t) ∧ W.cell? ⟨w.heap.size, 4, none⟩ = some (.int .i64 c)) (go_keep) ((go_at_call 17; refine (HP.out _).mono ?_; rintro e w4 ⟨rfl, k4⟩; have d := k4.cell (p := ⟨b, 0, none⟩) g0 (by simp); have d0 := k4.cell (p := ⟨w.heap.size, 0, none⟩) e0 (by simp); have d1 := k4.cell (p := ⟨w.heap.size, 1, none⟩) e1 (by simp); have d2 := k4.cell (p := ⟨w.heap.size, 2, none⟩) e2 (by simp); have d3 := k4.cell (p := ⟨w.heap.size, 3, none⟩) e3 (by simp); have d4 := k4.cell (p := ⟨w.heap.size, 4, none⟩) e4 (by simp)))
  all_goals
    have k24 := (Keeps.refl [] w2).drew.trans k4
    have H4 := Lib.hid (H2.out.keeps k24 (by simp) (by simp))
    have K4 := Lib.hid (K2.out.trans k24)
    have g2 := H4.out.blk.cell 2
    have f2 := H4.out.blk.free 2
    have hb4 := H4.out.blk.lt
    simp only [List.getElem?_cons_succ, List.getElem?_cons_zero] at g2
    clear g0 g1 e0 e1 e2 e3 e4 k4 k24 d1 d2 d3 d4 HN2 K2 H2
    go_wp2_with fail
    go_ret2
    refine ⟨rfl, _, ⟨(H4.out.blk.set 2 (.bool true)).conv rfl, ownsRow_keeps H4.out.opn ((Keeps.refl [b] _).set1 _) (fun i hi hm => H4.out.bo (by rw [List.mem_singleton] at hm; exact hm ▸ mem_blks.2 hi)), H4.out.bo⟩, ?_, fun i hi => Or.inl hi⟩
    exact (K4.out.mono (G := b :: blks (.slice a 0 cap)) (fun i hi => by cases hi)).setCell (p := ⟨b, 2, none⟩) (Or.inl (List.mem_cons_self ..)) _
end Go.Proofs.Ytdfdajedcgmbfaa
