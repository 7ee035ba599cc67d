/-
  A document's parts, handed to a Writer one by one, plainly: each may come; what is open behind each.
  truchmanref1.Writer.Step at a container's end: one of a count.
  truchmanref1.Writer.Step at each part of a document, in CBOR: its contract.
  truchmanbook.SameEvs: two lists that are alike.
  A document that is written part by part: what the law's loop keeps.
  CborinCuts' walk.
-/
import Derived.Test.YtdfdajedcgmbfaaDocModel
import Derived.Test.YtdfdajedcgmbfaaCoreModel
import Derived.Test.YtdfdajedcgmbfaaWrBox
import Derived.Test.YtdfdajedcgmbfaaCborBackPlain
import Derived.Test.YtdfdajedcgmbfaaWrOpenCA
import Derived.Test.YtdfdajedcgmbfaaWrOpenCM
import Derived.Test.YtdfdajedcgmbfaaWrLeafC
import Derived.Test.YtdfdajedcgmbfaaEvMore
import Derived.Deep.QuietTactic
import Derived.BigQuiet
import Derived.Test.YtdfdajedcgmbfaaCborAlive
import Derived.Test.YtdfdajedcgmbfaaDocAll
import Derived.Test.YtdfdajedcgmbfaaCborAll

namespace Go.Tru

/-- one part more in the innermost container -/
def bump1 : List Cont → List Cont
  | [] => []
  | c :: s => { c with parts := c.parts + 1 } :: s

/-- what is open behind a part -/
def wNext (s : List Cont) (e : Ev) : List Cont :=
  if e.kind = 7 then s.tail
  else if e.kind = 5 ∨ e.kind = 6 then ⟨decide (e.kind = 6), e.count, 0⟩ :: bump1 s
  else bump1 s

/-- a leaf of a document -/
def DLeaf (e : Ev) : Prop := e = evNull ∨ (∃ b, e = evBool b) ∨ (∃ b, ∃ m : Nat, m < 2147483648 ∧ e = evInt b m) ∨ (∃ t : ByteArray, t.size ≤ 28 ∧ e = evText t)

def roomOf (c : Cont) : Int := if c.pairs = true then 2 * c.count else c.count

structure CFit (c : Cont) : Prop where
  count : 0 ≤ c.count ∧ c.count ≤ 1000
  parts : 0 ≤ c.parts ∧ c.parts ≤ 3000

/-- a value may come here -/
def ValOk (s : List Cont) : Prop := s = [] ∨ ∃ c r, s = c :: r ∧ CFit c ∧ c.parts < roomOf c ∧ (c.pairs = true → c.parts % 2 = 1)
/-- a key may come here -/
def KeyOk (s : List Cont) : Prop := ∃ c r, s = c :: r ∧ CFit c ∧ c.parts < roomOf c ∧ c.pairs = true ∧ c.parts % 2 = 0
/-- it is at its end -/
def EndOk (s : List Cont) : Prop := ∃ c r, s = c :: r ∧ CFit c ∧ c.parts = roomOf c

/-- a part may come here -/
def WOk (s : List Cont) (e : Ev) : Prop :=
  s.length ≤ 20 ∧ ((DLeaf e ∧ ValOk s) ∨ ((∃ t : ByteArray, t.size ≤ 28 ∧ e = evText t) ∧ KeyOk s) ∨ ((∃ (m : Bool) (n : Nat), n < 16 ∧ e = beginEv m n) ∧ ValOk s) ∨ (e = evEnd ∧ EndOk s))

/-- parts, one behind the other; between them at least so much is open -/
inductive Tr (n : Nat) : List Cont → List Ev → List Cont → Prop
  | nil {s : List Cont} : Tr n s [] s
  | cons {s t : List Cont} {e : Ev} {r : List Ev} (h : WOk s e) (hn : r ≠ [] → n ≤ (wNext s e).length) (hr : Tr n (wNext s e) r t) : Tr n s (e :: r) t

theorem Tr.one {n : Nat} {s : List Cont} {e : Ev} (h : WOk s e) : Tr n s [e] (wNext s e) := Tr.cons h (fun h => absurd rfl h) Tr.nil

theorem Tr.mono {n m : Nat} (hm : m ≤ n) {s t : List Cont} {l : List Ev} (h : Tr n s l t) : Tr m s l t := by
  induction h with
  | nil => exact Tr.nil
  | cons h hn _ ih => exact Tr.cons h (fun hr => Nat.le_trans hm (hn hr)) ih

theorem Tr.append {n : Nat} {s t u : List Cont} {a b : List Ev} (h : Tr n s a t) (k : Tr n t b u) (hn : n ≤ t.length) : Tr n s (a ++ b) u := by
  induction h with
  | nil => exact k
  | @cons s t e r h h2 hr ih =>
    refine Tr.cons h (fun _ => ?_) (ih k hn)
    cases r with
    | nil =>
      cases hr
      exact hn
    | cons x r => exact h2 (by simp)

theorem bump1_len (s : List Cont) : (bump1 s).length = s.length := by cases s <;> rfl

theorem next_leaf {s : List Cont} {e : Ev} (h : DLeaf e) : wNext s e = bump1 s := by
  rcases h with rfl | ⟨b, rfl⟩ | ⟨b, m, _, rfl⟩ | ⟨t, _, rfl⟩ <;> simp [wNext, evNull, evBool, evInt, evText]

theorem next_open (s : List Cont) (m : Bool) (n : Nat) : wNext s (beginEv m n) = ⟨m, n, 0⟩ :: bump1 s := by
  cases m <;> simp [wNext, beginEv, evArr, evMap]

theorem next_end (s : List Cont) : wNext s evEnd = s.tail := by simp [wNext, evEnd]

theorem leaf_doc {x : Nat} (hx : x < 65536) : ∃ e, docLeaf x = [e] ∧ DLeaf e := by
  unfold docLeaf
  by_cases h0 : x % 8 = 0
  · rw [if_pos h0]; exact ⟨_, rfl, Or.inl rfl⟩
  rw [if_neg h0]
  by_cases h1 : x % 8 = 1
  · rw [if_pos h1]; exact ⟨_, rfl, Or.inr (Or.inl ⟨_, rfl⟩)⟩
  rw [if_neg h1]
  by_cases h2 : x % 8 = 2 ∨ x % 8 = 3
  · rw [if_pos h2]
    have hm : (x * x) >>> (x % 8) < 2147483648 := by
      have hxx : x * x < 65536 * 65536 := Nat.mul_lt_mul_of_lt_of_lt hx hx
      rw [Nat.shiftRight_eq_div_pow]
      rcases h2 with h2 | h2 <;> rw [h2] <;> omega
    exact ⟨_, rfl, Or.inr (Or.inr (Or.inl ⟨_, _, hm, rfl⟩))⟩
  rw [if_neg h2]
  by_cases h3 : x % 8 = 4
  · rw [if_pos h3]; exact ⟨_, rfl, Or.inr (Or.inr (Or.inr ⟨_, docText_size x, rfl⟩))⟩
  rw [if_neg h3]
  by_cases h4 : x % 8 = 5
  · rw [if_pos h4]; exact ⟨_, rfl, Or.inr (Or.inr (Or.inr ⟨noText, by decide, rfl⟩))⟩
  rw [if_neg h4]; exact ⟨_, rfl, Or.inr (Or.inr (Or.inl ⟨_, x, by omega, rfl⟩))⟩

def ItemTr (k : Nat) : Prop := ∀ (l : List Int) (s : List Cont), ValOk s → s.length + k ≤ 20 → Tr (s.length + 1) s (docItem k l).1 (bump1 s)

theorem tr_leaf {x : Nat} (hx : x < 65536) {s : List Cont} (h : ValOk s) (hs : s.length ≤ 20) : Tr (s.length + 1) s (docLeaf x) (bump1 s) := by
  obtain ⟨e, he, hl⟩ := leaf_doc hx
  rw [he, ← next_leaf hl]
  exact Tr.one ⟨hs, Or.inl ⟨hl, h⟩⟩

theorem arr_tr {k : Nat} (ih : ItemTr k) (s : List Cont) (hs : s.length + (k + 1) ≤ 20) (n : Nat) (hn : n < 16) : ∀ (m j : Nat) (l : List Int), j + m = n → Tr (s.length + 1) (⟨false, n, j⟩ :: s) (rep (docItem k) m l).1 (⟨false, n, n⟩ :: s)
  | 0, j, l, hj => by
    have : j = n := by omega
    subst this
    exact Tr.nil
  | m + 1, j, l, hj => by
    have h1 := ih l (⟨false, n, j⟩ :: s) (Or.inr ⟨_, _, rfl, ⟨by simp only []; omega, by simp only []; omega⟩, by simp only [roomOf]; simp; omega, by simp⟩) (by simp only [List.length_cons]; omega)
    have h2 := arr_tr ih s hs n hn m (j + 1) (docItem k l).2 (by omega)
    have e : (rep (docItem k) (m + 1) l).1 = (docItem k l).1 ++ (rep (docItem k) m (docItem k l).2).1 := rfl
    rw [e]
    refine Tr.append (h1.mono (by simp)) ?_ (by simp [bump1])
    simpa [bump1] using h2

theorem map_tr {k : Nat} (ih : ItemTr k) (s : List Cont) (hs : s.length + (k + 1) ≤ 20) (n : Nat) (hn : n < 16) : ∀ (m j : Nat) (l : List Int), j + m = n → Tr (s.length + 1) (⟨true, n, 2 * j⟩ :: s) (rep (docPair (docItem k)) m l).1 (⟨true, n, 2 * n⟩ :: s)
  | 0, j, l, hj => by
    have : j = n := by omega
    subst this
    exact Tr.nil
  | m + 1, j, l, hj => by
    have e : (rep (docPair (docItem k)) (m + 1) l).1 = (evText (docText (nx l).1) :: (docItem k (nx l).2).1) ++ (rep (docPair (docItem k)) m (docPair (docItem k) l).2).1 := rfl
    have hf : CFit ⟨true, n, 2 * j⟩ := ⟨by simp only []; omega, by simp only []; omega⟩
    have hf1 : CFit ⟨true, n, 2 * j + 1⟩ := ⟨by simp only []; omega, by simp only []; omega⟩
    have hk : wNext (⟨true, n, 2 * j⟩ :: s) (evText (docText (nx l).1)) = ⟨true, n, 2 * j + 1⟩ :: s := by simp [wNext, evText, bump1]
    have h1 := ih (nx l).2 (⟨true, n, 2 * j + 1⟩ :: s) (Or.inr ⟨_, _, rfl, hf1, by simp only [roomOf, if_true]; omega, fun _ => by simp only []; omega⟩) (by simp only [List.length_cons]; omega)
    have h2 := map_tr ih s hs n hn m (j + 1) (docPair (docItem k) l).2 (by omega)
    rw [e]
    refine Tr.append (t := ⟨true, n, 2 * j + 1 + 1⟩ :: s) (Tr.cons ⟨by simp only [List.length_cons]; omega, Or.inr (Or.inl ⟨⟨_, docText_size _, rfl⟩, _, _, rfl, hf, by simp only [roomOf, if_true]; omega, rfl, by simp only []; omega⟩)⟩ (fun _ => by rw [hk]; simp) ?_) ?_ (by simp)
    · rw [hk]
      exact (h1.mono (by simp))
    · have e2 : (2 : Int) * ((j + 1 : Nat) : Int) = 2 * (j : Int) + 1 + 1 := by omega
      rw [e2] at h2
      exact h2

theorem item_tr : ∀ k, ItemTr k
  | 0 => fun l s h hs => tr_leaf (nx_small l) h (by omega)
  | k + 1 => fun l s h hs => by
    have ih := item_tr k
    unfold docItem
    by_cases h5 : (nx l).1 % 8 < 5
    · rw [if_pos h5]; exact tr_leaf (nx_small l) h (by omega)
    rw [if_neg h5]
    have hb : (bump1 s).length + (k + 1) ≤ 20 := by rw [bump1_len]; omega
    by_cases h6 : (nx l).1 % 8 = 5
    · rw [if_pos h6]
      obtain ⟨n, hn⟩ : ∃ n, (nx l).1 / 8 % 4 = n := ⟨_, rfl⟩
      have hn4 : n < 16 := by omega
      rw [hn]
      have h1 := arr_tr ih (bump1 s) hb n hn4 n 0 (nx l).2 (by omega)
      rw [bump1_len] at h1
      simp only [List.cons_append]
      refine Tr.cons ⟨by omega, Or.inr (Or.inr (Or.inl ⟨⟨false, n, hn4, rfl⟩, h⟩))⟩ (fun _ => by rw [show evArr (n : Int) = beginEv false n from rfl, next_open]; simp [bump1_len]) ?_
      rw [show evArr (n : Int) = beginEv false n from rfl, next_open]
      refine Tr.append h1 ?_ (by simp [bump1_len])
      have := Tr.one (n := s.length + 1) (s := ⟨false, n, n⟩ :: bump1 s) (e := evEnd) ⟨by simp only [List.length_cons]; omega, Or.inr (Or.inr (Or.inr ⟨rfl, _, _, rfl, ⟨by simp only []; omega, by simp only []; omega⟩, by simp [roomOf]⟩))⟩
      rw [next_end] at this
      exact this
    · rw [if_neg h6]
      obtain ⟨n, hn⟩ : ∃ n, (nx l).1 / 8 % 3 = n := ⟨_, rfl⟩
      have hn4 : n < 16 := by omega
      rw [hn]
      have h1 := map_tr ih (bump1 s) hb n hn4 n 0 (nx l).2 (by omega)
      rw [bump1_len] at h1
      simp only [List.cons_append]
      refine Tr.cons ⟨by omega, Or.inr (Or.inr (Or.inl ⟨⟨true, n, hn4, rfl⟩, h⟩))⟩ (fun _ => by rw [show evMap (n : Int) = beginEv true n from rfl, next_open]; simp [bump1_len]) ?_
      rw [show evMap (n : Int) = beginEv true n from rfl, next_open]
      refine Tr.append h1 ?_ (by simp [bump1_len])
      have := Tr.one (n := s.length + 1) (s := ⟨true, n, 2 * n⟩ :: bump1 s) (e := evEnd) ⟨by simp only [List.length_cons]; omega, Or.inr (Or.inr (Or.inr ⟨rfl, _, _, rfl, ⟨by simp only []; omega, by simp only []; omega⟩, by simp [roomOf]⟩))⟩
      rw [next_end] at this
      exact this

theorem doc_tr (l : List Int) (dep : Nat) (hd : dep ≤ 16) : Tr 1 [] (doc l dep) [] := item_tr dep l [] (Or.inl rfl) (by simp; omega)

/-- what is open behind so many parts -/
def wAfter (s : List Cont) (l : List Ev) : List Cont := l.foldl wNext s

theorem tr_at {n : Nat} {s t : List Cont} {l : List Ev} (h : Tr n s l t) : ∀ i e, l[i]? = some e → WOk (wAfter s (l.take i)) e ∧ (i + 1 < l.length → n ≤ (wAfter s (l.take (i + 1))).length) ∧ wAfter s (l.take (i + 1)) = wNext (wAfter s (l.take i)) e := by
  induction h with
  | nil => intro i e h; simp at h
  | @cons s t e r h hn _ ih =>
    intro i x hx
    cases i with
    | zero =>
      simp only [List.getElem?_cons_zero, Option.some.injEq] at hx
      subst hx
      refine ⟨by simpa [wAfter] using h, fun hl => ?_, by simp [wAfter]⟩
      have : r ≠ [] := by intro hr; rw [hr] at hl; simp at hl
      simpa [wAfter] using hn this
    | succ i =>
      obtain ⟨h1, h2, h3⟩ := ih i x (by simpa using hx)
      refine ⟨by simpa [wAfter] using h1, fun hl => ?_, by simpa [wAfter] using h3⟩
      simpa [wAfter] using h2 (by simpa using hl)

theorem tr_end {n : Nat} {s t : List Cont} {l : List Ev} (h : Tr n s l t) : wAfter s l = t := by
  induction h with
  | nil => rfl
  | cons _ _ _ ih => simpa [wAfter] using ih
end Go.Tru

namespace Go.Proofs.Ytdfdajedcgmbfaa
open Go.RowKit Go.Tru

/-- the list of what is open has been put back, in a row of its own -/
theorem _root_.Go.Tru.WrIn.put {w w2 : World} {base b : Nat} {to : Int} {ov v2 : Value} {stk l : List Cont} {dn : Bool} (h : WrIn w base b to ov stk dn) (hown : OwnsStk w2 base 49 v2 l) (k : Keeps [] w w2)
    (hb : ∀ m, v2.ownBlock = some m → w.heap.size ≤ m) :
    WrIn (w2.setCell ⟨b, 1, none⟩ v2) base b to v2 l dn ∧ Keeps [b] w (w2.setCell ⟨b, 1, none⟩ v2) ∧ (∀ i ∈ blks v2, w.heap.size ≤ i) ∧ w2.cell? ⟨b, 1, none⟩ = some ov ∧ w2.frozen? ⟨b, 1, none⟩ = false ∧ b < w2.heap.size := by
  have hbl := h.blk.lt
  have hblk := h.blk.keeps k (by simp)
  have hset : Keeps [b] w2 (w2.setCell ⟨b, 1, none⟩ v2) := (Keeps.refl _ _).set1 _
  have hge : ∀ i ∈ blks v2, w.heap.size ≤ i := fun i hi => hb i (mem_blks.1 hi)
  refine ⟨⟨(hblk.set 1 _).conv rfl, ownsRow_keeps hown hset (fun i hi hmm => ?_), fun hmm => ?_⟩, (k.mono (by simp)).trans hset, hge, hblk.cell 1, hblk.free 1, hblk.lt⟩
  · rw [List.mem_singleton] at hmm
    have := hge i (mem_blks.2 hi)
    omega
  · have := hge b hmm
    omega

/-- is the document at its end? -/
theorem _root_.Go.Tru.WrIn.fin {w : World} {base b : Nat} {to : Int} {ov : Value} {stk : List Cont} {dn : Bool} (h : WrIn w base b to ov stk dn) (d : Bool) : WrIn (w.setCell ⟨b, 2, none⟩ (.bool d)) base b to ov stk d :=
  ⟨(h.blk.set 2 (.bool d)).conv rfl, ownsRow_keeps h.opn ((Keeps.refl [b] _).set1 _) (fun i hi hm => h.bo (by rw [List.mem_singleton] at hm; exact hm ▸ mem_blks.2 hi)), h.bo⟩

set_option maxHeartbeats 3200000 in
set_option maxRecDepth 100000 in
theorem wend_arr {to : Int} (hto : to = 2 ∨ to = 3) {w : World} {base b : Nat} {ov : Value} {cc : Int} {s : List Cont} (h : WrIn w base b to ov (⟨false, cc, cc⟩ :: s) false) (hs : s.length ≤ 100) (hr : 0 ≤ cc ∧ cc ≤ 1000000) (hbase : base ≤ w.heap.size) :
    Calls Try.prog 8 #[.pointer (some ⟨b, 0, none⟩), evEnd.val] w (WrPost w base b to ov ⟨#[]⟩ s s.isEmpty) := by
  have HM := Lib.hid (fun W => may_yes evEnd (Or.inl (by decide)) W)
  obtain ⟨g, cap, rfl, gb, gl, gr, gm, -, -, -, -⟩ := h.opn.some_
  simp only [Ev.val, Ev.cells, evEnd, noText] at *
  obtain ⟨hr1, hr2⟩ := hr
  have h1 : (to == 1) = false := by rcases hto with rfl | rfl <;> decide
  have h1' : (to != 1) = true := by rcases hto with rfl | rfl <;> decide
  have hsn : ((s.length : Int) + 1 == 0) = false := by simp; omega
  have hs1 : ((s.length : Int) + 1 == 1) = s.isEmpty := by
    cases s with
    | nil => rfl
    | cons x r => simp; omega
  have hcc : ¬ cc < 0 := by omega
  have H := Lib.hid h
  have HB := Lib.hid hbase
  have hbl := h.blk.lt
  unfold maxLen at gm
  clear h hto hbase
  go_enter Try.func8, Try.ntmps8
  have hnew := Has.new' w #[.int .i64 7, .bool false, .int .u64 0, .string ⟨#[]⟩, .int .i64 0] 36 rfl
  have k0 := (Keeps.refl [] w).alloc (.cells #[.int .i64 7, .bool false, .int .u64 0, .string ⟨#[]⟩, .int .i64 0] 36)
  obtain ⟨w1, hw1'⟩ : ∃ w1, w.alloc (.cells #[.int .i64 7, .bool false, .int .u64 0, .string ⟨#[]⟩, .int .i64 0] 36) = w1 := ⟨_, rfl⟩
  have H1 := Lib.hid (H.out.keeps (k0) (by simp) (by simp))
  rw [hw1'] at hnew k0 H1
  obtain ⟨g0, g1, g2⟩ := H1.out.cells
  have e0 : w1.cell? ⟨w.heap.size, 0, none⟩ = some (.int .i64 7) := hnew.cell 0
  have e1 : w1.cell? ⟨w.heap.size, 1, none⟩ = some (.bool false) := hnew.cell 1
  have e2 : w1.cell? ⟨w.heap.size, 2, none⟩ = some (.int .u64 0) := hnew.cell 2
  have e3 : w1.cell? ⟨w.heap.size, 3, none⟩ = some (.string ⟨#[]⟩) := hnew.cell 3
  have e4 : w1.cell? ⟨w.heap.size, 4, none⟩ = some (.int .i64 0) := hnew.cell 4
  have K0 := Lib.hid k0
  have HN := Lib.hid hnew
  clear hnew k0
  go_wp2_with fail
  refine (HM.out _).mono ?_
  rintro e w2 ⟨rfl, k2⟩
  have H2 := Lib.hid (H1.out.keeps k2 (by simp) (by simp))
  have hnew := HN.out.keeps k2 (by simp)
  have K2 := Lib.hid (K0.out.trans k2)
  clear g0 g1 g2 e0 e1 e2 e3 e4 hw1'
  obtain ⟨g0, g1, g2⟩ := H2.out.cells
  obtain ⟨g', cap', he, -, gl2, -, -, q0, q1, q2, -⟩ := OwnsStk.some_ H2.out.opn
  simp only [Value.slice.injEq, Option.some.injEq, Addr.mk.injEq, and_true, true_and] at he
  obtain ⟨rfl, rfl⟩ := he
  have e0 : w2.cell? ⟨w.heap.size, 0, none⟩ = some (.int .i64 7) := hnew.cell 0
  have e1 : w2.cell? ⟨w.heap.size, 1, none⟩ = some (.bool false) := hnew.cell 1
  have e2 : w2.cell? ⟨w.heap.size, 2, none⟩ = some (.int .u64 0) := hnew.cell 2
  have e3 : w2.cell? ⟨w.heap.size, 3, none⟩ = some (.string ⟨#[]⟩) := hnew.cell 3
  have e4 : w2.cell? ⟨w.heap.size, 4, none⟩ = some (.int .i64 0) := hnew.cell 4
  have hb2 := H2.out.blk.lt
  have he2 : w.heap.size < w2.heap.size := hnew.lt
  have k3 := (Keeps.refl [] w2).alloc (.cells #[.bool false, .int .i64 cc, .int .i64 (cc)] 49)
  obtain ⟨w3, hw3⟩ : ∃ w3, w2.alloc (.cells #[.bool false, .int .i64 cc, .int .i64 (cc)] 49) = w3 := ⟨_, rfl⟩
  rw [hw3] at k3
  have H3 := Lib.hid (H2.out.keeps k3 (by simp) (by simp))
  have K3 := Lib.hid (K2.out.trans k3)
  have HW3 := Lib.hid hw3
  have hwb : base ≤ w3.heap.size := Nat.le_trans HB.out K3.out.size
  have hb7 : w2.heap.size < w3.heap.size := by rw [← hw3]; simp
  have b7 : w3.cell? ⟨w2.heap.size, 1, none⟩ = some (.int .i64 cc) := by rw [← hw3]; exact (Has.new' w2 #[.bool false, .int .i64 cc, .int .i64 (cc)] 49 rfl).cell 1
  have b70 : w3.cell? ⟨w2.heap.size, 0, none⟩ = some (.bool false) := by rw [← hw3]; exact (Has.new' w2 #[.bool false, .int .i64 cc, .int .i64 (cc)] 49 rfl).cell 0
  have hbne : w2.heap.size ≠ b := by omega
  have hbne2 : b ≠ w2.heap.size := by omega
  clear hnew k2 K0 HN H1 k3 hw3
  go_wp2_with (at_builtin; rw [HW3.out]; go_must (refine app_box rfl _ _ rfl base (.slice none 0 0) [] rfl (OwnsStk.nil _ _ _) ⟨g, 0, none⟩ s.length cap s rfl rfl ?_ (by simp; omega) hwb ?_))
  · exact World.ownsRow.cells (OwnsStk.pop H3.out.opn) (g := g) rfl
  intro v6 w6 hown6 hk6 hb6
  rw [blks_nil] at hk6
  try rw [List.append_nil] at hown6
  have d7 := hk6.cell b7 (by simp)
  have d70 := hk6.cell b70 (by simp)
  have hz6 := hk6.size
  obtain ⟨o6, c6, rfl⟩ := hown6.shape
  obtain ⟨hW7, K7, hB7, r1, rf1, rb1⟩ := WrIn.put H3.out hown6 hk6 (fun m hm => by
    rcases hb6 with h | h
    · rw [h] at hm
      simp [Value.ownBlock] at hm
    · rw [h] at hm
      simp at hm
      omega)
  have r2 := (H3.out.blk.keeps hk6 (by simp)).cell 2
  have rf2 := (H3.out.blk.keeps hk6 (by simp)).free 2
  have r0 := (H3.out.blk.keeps hk6 (by simp)).cell 0
  simp only [List.getElem?_cons_succ, List.getElem?_cons_zero] at r0 r2
  have hW8 := Lib.hid (WrIn.fin hW7 s.isEmpty)
  have K8 := Lib.hid ((K3.out.mono (G := [b]) (by simp)).trans (K7.trans ((Keeps.refl [b] _).set1 (b := b) (i := 2) (.bool s.isEmpty))))
  have HB7 := Lib.hid (fun i hi => Nat.le_trans K3.out.size (hB7 i hi))
  clear hown6 hk6 hb6 hW7 K7 hB7 g0 g1 g2 q0 q1 q2 e0 e1 e2 e3 e4 b7 b70 H3 K3 H2 K2 HW3
  go_wp2_with fail
  all_goals
    go_ret2
    refine ⟨rfl, _, hW8.out, K8.out.mono (fun i hi => by rw [List.mem_singleton] at hi; rw [hi]; exact List.mem_cons_self ..), fun i hi => Or.inr (HB7.out i hi)⟩

set_option maxHeartbeats 3200000 in
set_option maxRecDepth 100000 in
theorem wend_map {to : Int} (hto : to = 2 ∨ to = 3) {w : World} {base b : Nat} {ov : Value} {cc : Int} {s : List Cont} (h : WrIn w base b to ov (⟨true, cc, 2 * cc⟩ :: s) false) (hs : s.length ≤ 100) (hr : 0 ≤ cc ∧ cc ≤ 1000000) (hbase : base ≤ w.heap.size) :
    Calls Try.prog 8 #[.pointer (some ⟨b, 0, none⟩), evEnd.val] w (WrPost w base b to ov ⟨#[]⟩ s s.isEmpty) := by
  have HM := Lib.hid (fun W => may_yes evEnd (Or.inl (by decide)) W)
  obtain ⟨g, cap, rfl, gb, gl, gr, gm, -, -, -, -⟩ := h.opn.some_
  simp only [Ev.val, Ev.cells, evEnd, noText] at *
  obtain ⟨hr1, hr2⟩ := hr
  have h1 : (to == 1) = false := by rcases hto with rfl | rfl <;> decide
  have h1' : (to != 1) = true := by rcases hto with rfl | rfl <;> decide
  have hmod : (2 * cc).tmod 2 = 0 := by rw [Int.tmod_eq_emod_of_nonneg (by omega)]; omega
  have hsn : ((s.length : Int) + 1 == 0) = false := by simp; omega
  have hs1 : ((s.length : Int) + 1 == 1) = s.isEmpty := by
    cases s with
    | nil => rfl
    | cons x r => simp; omega
  have hcc : ¬ cc < 0 := by omega
  have H := Lib.hid h
  have HB := Lib.hid hbase
  have hbl := h.blk.lt
  unfold maxLen at gm
  clear h hto hbase
  go_enter Try.func8, Try.ntmps8
  have hnew := Has.new' w #[.int .i64 7, .bool false, .int .u64 0, .string ⟨#[]⟩, .int .i64 0] 36 rfl
  have k0 := (Keeps.refl [] w).alloc (.cells #[.int .i64 7, .bool false, .int .u64 0, .string ⟨#[]⟩, .int .i64 0] 36)
  obtain ⟨w1, hw1'⟩ : ∃ w1, w.alloc (.cells #[.int .i64 7, .bool false, .int .u64 0, .string ⟨#[]⟩, .int .i64 0] 36) = w1 := ⟨_, rfl⟩
  have H1 := Lib.hid (H.out.keeps (k0) (by simp) (by simp))
  rw [hw1'] at hnew k0 H1
  obtain ⟨g0, g1, g2⟩ := H1.out.cells
  have e0 : w1.cell? ⟨w.heap.size, 0, none⟩ = some (.int .i64 7) := hnew.cell 0
  have e1 : w1.cell? ⟨w.heap.size, 1, none⟩ = some (.bool false) := hnew.cell 1
  have e2 : w1.cell? ⟨w.heap.size, 2, none⟩ = some (.int .u64 0) := hnew.cell 2
  have e3 : w1.cell? ⟨w.heap.size, 3, none⟩ = some (.string ⟨#[]⟩) := hnew.cell 3
  have e4 : w1.cell? ⟨w.heap.size, 4, none⟩ = some (.int .i64 0) := hnew.cell 4
  have K0 := Lib.hid k0
  have HN := Lib.hid hnew
  clear hnew k0
  go_wp2_with fail
  refine (HM.out _).mono ?_
  rintro e w2 ⟨rfl, k2⟩
  have H2 := Lib.hid (H1.out.keeps k2 (by simp) (by simp))
  have hnew := HN.out.keeps k2 (by simp)
  have K2 := Lib.hid (K0.out.trans k2)
  clear g0 g1 g2 e0 e1 e2 e3 e4 hw1'
  obtain ⟨g0, g1, g2⟩ := H2.out.cells
  obtain ⟨g', cap', he, -, gl2, -, -, q0, q1, q2, -⟩ := OwnsStk.some_ H2.out.opn
  simp only [Value.slice.injEq, Option.some.injEq, Addr.mk.injEq, and_true, true_and] at he
  obtain ⟨rfl, rfl⟩ := he
  have e0 : w2.cell? ⟨w.heap.size, 0, none⟩ = some (.int .i64 7) := hnew.cell 0
  have e1 : w2.cell? ⟨w.heap.size, 1, none⟩ = some (.bool false) := hnew.cell 1
  have e2 : w2.cell? ⟨w.heap.size, 2, none⟩ = some (.int .u64 0) := hnew.cell 2
  have e3 : w2.cell? ⟨w.heap.size, 3, none⟩ = some (.string ⟨#[]⟩) := hnew.cell 3
  have e4 : w2.cell? ⟨w.heap.size, 4, none⟩ = some (.int .i64 0) := hnew.cell 4
  have hb2 := H2.out.blk.lt
  have he2 : w.heap.size < w2.heap.size := hnew.lt
  have k3 := (Keeps.refl [] w2).alloc (.cells #[.bool true, .int .i64 cc, .int .i64 (2 * cc)] 49)
  obtain ⟨w3, hw3⟩ : ∃ w3, w2.alloc (.cells #[.bool true, .int .i64 cc, .int .i64 (2 * cc)] 49) = w3 := ⟨_, rfl⟩
  rw [hw3] at k3
  have H3 := Lib.hid (H2.out.keeps k3 (by simp) (by simp))
  have K3 := Lib.hid (K2.out.trans k3)
  have HW3 := Lib.hid hw3
  have hwb : base ≤ w3.heap.size := Nat.le_trans HB.out K3.out.size
  have hb7 : w2.heap.size < w3.heap.size := by rw [← hw3]; simp
  have b7 : w3.cell? ⟨w2.heap.size, 1, none⟩ = some (.int .i64 cc) := by rw [← hw3]; exact (Has.new' w2 #[.bool true, .int .i64 cc, .int .i64 (2 * cc)] 49 rfl).cell 1
  have b70 : w3.cell? ⟨w2.heap.size, 0, none⟩ = some (.bool true) := by rw [← hw3]; exact (Has.new' w2 #[.bool true, .int .i64 cc, .int .i64 (2 * cc)] 49 rfl).cell 0
  have hbne : w2.heap.size ≠ b := by omega
  have hbne2 : b ≠ w2.heap.size := by omega
  clear hnew k2 K0 HN H1 k3 hw3
  go_wp2_with (at_builtin; rw [HW3.out]; go_must (refine app_box rfl _ _ rfl base (.slice none 0 0) [] rfl (OwnsStk.nil _ _ _) ⟨g, 0, none⟩ s.length cap s rfl rfl ?_ (by simp; omega) hwb ?_))
  · exact World.ownsRow.cells (OwnsStk.pop H3.out.opn) (g := g) rfl
  intro v6 w6 hown6 hk6 hb6
  rw [blks_nil] at hk6
  try rw [List.append_nil] at hown6
  have d7 := hk6.cell b7 (by simp)
  have d70 := hk6.cell b70 (by simp)
  have hz6 := hk6.size
  obtain ⟨o6, c6, rfl⟩ := hown6.shape
  obtain ⟨hW7, K7, hB7, r1, rf1, rb1⟩ := WrIn.put H3.out hown6 hk6 (fun m hm => by
    rcases hb6 with h | h
    · rw [h] at hm
      simp [Value.ownBlock] at hm
    · rw [h] at hm
      simp at hm
      omega)
  have r2 := (H3.out.blk.keeps hk6 (by simp)).cell 2
  have rf2 := (H3.out.blk.keeps hk6 (by simp)).free 2
  have r0 := (H3.out.blk.keeps hk6 (by simp)).cell 0
  simp only [List.getElem?_cons_succ, List.getElem?_cons_zero] at r0 r2
  have hW8 := Lib.hid (WrIn.fin hW7 s.isEmpty)
  have K8 := Lib.hid ((K3.out.mono (G := [b]) (by simp)).trans (K7.trans ((Keeps.refl [b] _).set1 (b := b) (i := 2) (.bool s.isEmpty))))
  have HB7 := Lib.hid (fun i hi => Nat.le_trans K3.out.size (hB7 i hi))
  clear hown6 hk6 hb6 hW7 K7 hB7 g0 g1 g2 q0 q1 q2 e0 e1 e2 e3 e4 b7 b70 H3 K3 H2 K2 HW3
  go_wp2_with fail
  all_goals
    go_ret2
    refine ⟨rfl, _, hW8.out, K8.out.mono (fun i hi => by rw [List.mem_singleton] at hi; rw [hi]; exact List.mem_cons_self ..), fun i hi => Or.inr (HB7.out i hi)⟩
end Go.Proofs.Ytdfdajedcgmbfaa

namespace Go.Tru
theorem partC_leaf {e : Ev} (h : DLeaf e) : isLeaf e ∧ leafC e = partC e := by
  rcases h with rfl | ⟨b, rfl⟩ | ⟨b, m, hm, rfl⟩ | ⟨t, ht, rfl⟩
  · exact ⟨Or.inl rfl, rfl⟩
  · exact ⟨Or.inr (Or.inl ⟨_, rfl⟩), rfl⟩
  · exact ⟨Or.inr (Or.inr (Or.inl ⟨_, _, by omega, rfl⟩)), rfl⟩
  · exact ⟨Or.inr (Or.inr (Or.inr (Or.inl ⟨_, by omega, rfl⟩))), rfl⟩

theorem partC_open (m : Bool) (n : Nat) : partC (beginEv m n) = headB (if m then 5 else 4) n := by
  cases m <;> rfl

theorem partC_len {s : List Cont} {e : Ev} (h : WOk s e) : (partC e).length ≤ 40 := by
  have hh : ∀ M v, (headB M v).length ≤ 9 := fun M v => (headB_len M v).2
  have ht : ∀ t : ByteArray, t.size ≤ 28 → (partC (evText t)).length ≤ 40 := fun t h => by
    have hl : t.data.toList.length = t.size := by rw [Array.length_toList]; rfl
    have e : partC (evText t) = headB 3 t.size ++ t.data.toList := rfl
    rw [e, List.length_append, hl]
    have := hh 3 t.size
    omega
  rcases h.2 with ⟨h1, _⟩ | ⟨⟨t, h1, rfl⟩, _⟩ | ⟨⟨m, n, _, rfl⟩, _⟩ | ⟨rfl, _⟩
  · rcases h1 with rfl | ⟨b, rfl⟩ | ⟨b, m, hm, rfl⟩ | ⟨t, h1, rfl⟩
    · simp [partC, leafC, evNull]
    · simp [partC, leafC, evBool]
    · have e : partC (evInt b m) = headB (if b then 1 else 0) m := rfl
      rw [e]
      have := hh (if b then 1 else 0) m
      omega
    · exact ht t h1
  · exact ht t h1
  · rw [partC_open]
    have := hh (if m then 5 else 4) n
    omega
  · simp [partC, evEnd]

theorem bump1_empty (s : List Cont) : (bump1 s).isEmpty = s.isEmpty := by cases s <;> rfl
end Go.Tru
namespace Go.Proofs.Ytdfdajedcgmbfaa
open Go.RowKit Go.Tru

theorem plainC_leaf {e : Ev} (h : DLeaf e) (w : World) : Calls Try.prog 17 #[.int .i64 2, e.val] w fun r w' => r = .returned (.tuple #[.string (bytesOf (partC e)), .int .i64 0]) ∧ Keeps [] w w' := by
  obtain ⟨h1, h2⟩ := partC_leaf h
  rw [← h2]
  exact plainC_any e h1 w

theorem leaf_kind {e : Ev} (h : DLeaf e) : 0 ≤ e.kind ∧ e.kind ≤ 4 := by
  rcases h with rfl | ⟨b, rfl⟩ | ⟨b, m, hm, rfl⟩ | ⟨t, ht, rfl⟩
  · exact ⟨by decide, by decide⟩
  · show (0 : Int) ≤ 1 ∧ (1 : Int) ≤ 4
    decide
  · show (0 : Int) ≤ 2 ∧ (2 : Int) ≤ 4
    decide
  · show (0 : Int) ≤ 3 ∧ (3 : Int) ≤ 4
    decide

theorem wstepC {w : World} {base b : Nat} {ov : Value} {s : List Cont} {e : Ev} (hok : WOk s e) (h : WrIn w base b 2 ov s false) (h0 : s = [] → ov = .slice none 0 0) (hbase : base ≤ w.heap.size) :
    Calls Try.prog 8 #[.pointer (some ⟨b, 0, none⟩), e.val] w (WrPost w base b 2 ov (bytesOf (partC e)) (wNext s e) (wNext s e).isEmpty) := by
  have hlen := partC_len hok
  have hbs : (bytesOf (partC e)).size ≤ 1000000 := by rw [bytesOf_sz]; omega
  obtain ⟨hs, hcase⟩ := hok
  rcases hcase with ⟨hl, hv⟩ | ⟨⟨t, ht, rfl⟩, c, r, rfl, hf, hroom, hp, hpar⟩ | ⟨⟨m, n, hn, rfl⟩, hv⟩ | ⟨rfl, c, r, rfl, hf, hroom⟩
  · rw [next_leaf hl]
    rcases hv with rfl | ⟨c, r, rfl, hf, hroom, hpar⟩
    · exact wstep_leaf0 (Or.inl rfl) e (leaf_kind hl) hbs (plainC_leaf hl) h
    · obtain ⟨pairs, cc, cpt⟩ := c
      have hc1 := hf.count
      have hc2 := hf.parts
      simp only [] at hc1 hc2 hroom hpar
      have hr1 : r.length ≤ 100 := by simp only [List.length_cons] at hs; omega
      cases pairs with
      | false =>
        simp only [roomOf, Bool.false_eq_true, if_false] at hroom
        exact wleaf_arr_count (cc := cc) (cpt := cpt) (Or.inl rfl) e (leaf_kind hl) hbs (plainC_leaf hl) h hr1 (by omega) (by omega) ⟨by omega, by omega⟩ hroom hbase
      | true =>
        simp only [roomOf, if_true] at hroom
        exact wleaf_map_count_odd (cc := cc) (cpt := cpt) (Or.inl rfl) e (leaf_kind hl) hbs (plainC_leaf hl) h hr1 (by omega) (by omega) ⟨by omega, by omega⟩ hroom (hpar rfl) hbase
  · obtain ⟨pairs, cc, cpt⟩ := c
    have hc1 := hf.count
    have hc2 := hf.parts
    simp only [] at hc1 hc2 hroom hp hpar
    subst hp
    simp only [roomOf, if_true] at hroom
    have hr1 : r.length ≤ 100 := by simp only [List.length_cons] at hs; omega
    have hl : DLeaf (evText t) := Or.inr (Or.inr (Or.inr ⟨t, ht, rfl⟩))
    rw [next_leaf hl]
    exact wleaf_map_count_even (cc := cc) (cpt := cpt) (Or.inl rfl) (evText t) (leaf_kind hl) hbs (plainC_leaf hl) h hr1 (by omega) (by omega) ⟨by omega, by omega⟩ hroom hpar rfl hbase
  · rw [next_open, partC_open]
    rcases hv with rfl | ⟨c, r, rfl, hf, hroom, hpar⟩
    · obtain rfl := h0 rfl
      cases m with
      | false => exact wopen0_arr n hn h hbase
      | true => exact wopen0_map n hn h hbase
    · obtain ⟨pairs, cc, cpt⟩ := c
      have hc1 := hf.count
      have hc2 := hf.parts
      simp only [] at hc1 hc2 hroom hpar
      have hr1 : r.length ≤ 100 := by simp only [List.length_cons] at hs; omega
      cases pairs with
      | false =>
        simp only [roomOf, Bool.false_eq_true, if_false] at hroom
        cases m with
        | false => exact wopen_arr_arr (cc := cc) (cpt := cpt) n hn h hr1 (by omega) (by omega) ⟨by omega, by omega⟩ hroom hbase
        | true => exact wopen_arr_map (cc := cc) (cpt := cpt) n hn h hr1 (by omega) (by omega) ⟨by omega, by omega⟩ hroom hbase
      | true =>
        simp only [roomOf, if_true] at hroom
        cases m with
        | false => exact wopen_map_arr (cc := cc) (cpt := cpt) n hn h hr1 (by omega) (by omega) ⟨by omega, by omega⟩ hroom (hpar rfl) hbase
        | true => exact wopen_map_map (cc := cc) (cpt := cpt) n hn h hr1 (by omega) (by omega) ⟨by omega, by omega⟩ hroom (hpar rfl) hbase
  · rw [next_end]
    obtain ⟨pairs, cc, cpt⟩ := c
    have hc1 := hf.count
    simp only [] at hc1 hroom
    have hr1 : r.length ≤ 100 := by simp only [List.length_cons] at hs; omega
    have e0 : bytesOf (partC evEnd) = ⟨#[]⟩ := by simp [partC, evEnd, bytesOf]
    rw [e0]
    cases pairs with
    | false =>
      simp only [roomOf, Bool.false_eq_true, if_false] at hroom
      subst hroom
      exact wend_arr (cc := cpt) (Or.inl rfl) h hr1 ⟨by omega, by omega⟩ hbase
    | true =>
      simp only [roomOf, if_true] at hroom
      subst hroom
      exact wend_map (cc := cc) (Or.inl rfl) h hr1 ⟨by omega, by omega⟩ hbase
end Go.Proofs.Ytdfdajedcgmbfaa

namespace Go.Proofs.Ytdfdajedcgmbfaa
open Go.RowKit Go.Tru

set_option maxHeartbeats 800000 in
theorem sameEvs_yes (o1 o2 : Option Addr) (n c1 c2 : Nat) (xs : List Ev) (w : World) (h1 : EvsIn w o1 n c1 xs) (h2 : EvsIn w o2 n c2 xs) :
    Calls Try.prog 10 #[.slice o1 n c1, .slice o2 n c2] w fun e w' => e = .returned (.bool true) ∧ Keeps [] w w' := by
  have hl1 := h1.len
  have m1 : n ≤ 9223372036854775807 := by have := h1.room; have := h1.most; unfold maxLen at *; omega
  have H1 := Lib.hid h1
  have H2 := Lib.hid h2
  have L1 := Lib.hid hl1
  clear h1 h2 hl1
  go_enter Try.func10, Try.ntmps10
  go_wp2_with fail
  go_loopw [5] (fun i wr => ∃ k : Nat, k ≤ n ∧ i = .int .i64 k ∧ Keeps [] w wr) (fun i _ => n - (intOf i).toNat)
  case atStart => exact ⟨0, Nat.zero_le _, rfl, Keeps.refl _ _⟩
  case round =>
    obtain ⟨k, hk, rfl, hK⟩ := hrel
    by_cases hlt : k < n
    · have hx : k < xs.length := by rw [L1.out]; exact hlt
      obtain ⟨b1, f1, rfl, g0, g1, g2, g3, g4⟩ := (H1.out.keeps hK).get hlt hx
      obtain ⟨b2, f2, rfl, q0, q1, q2, q3, q4⟩ := (H2.out.keeps hK).get hlt hx
      have hi : (k : Int) < (n : Int) := by omega
      have HK := Lib.hid hK
      have heq : ∀ W, (binOp .eql 36 (.agg #[.int .i64 xs[k].kind, .bool xs[k].yes, .int .u64 xs[k].mag, .string xs[k].text, .int .i64 xs[k].count]) (.agg #[.int .i64 xs[k].kind, .bool xs[k].yes, .int .u64 xs[k].mag, .string xs[k].text, .int .i64 xs[k].count])).run Try.prog W = .ok (.bool true) W := fun W => by
        have := eql_ev xs[k] xs[k] W
        rw [show xs[k].same xs[k] = true from same_iff.2 rfl] at this
        exact this
      clear hK
      go_wp2_with fail
      go_quiet (fail)
      go_wp2_with fail
      go_roundw
      case rel => exact ⟨k + 1, by omega, by go_num, HK.out.drewN _⟩
      case measure => simp [intOf]; omega
    · obtain rfl : k = n := by omega
      have HK := Lib.hid hK
      clear hK
      go_wp2_with fail
      go_ret
      exact ⟨rfl, HK.out⟩

end Go.Proofs.Ytdfdajedcgmbfaa

namespace Go.Tru
theorem EvsIn.keepsF {F : List Nat} {w w' : World} {o : Option Addr} {n c : Nat} {es : List Ev} (h : EvsIn w o n c es) (k : Keeps F w w') (hF : ∀ b off, o = some ⟨b, off, none⟩ → b ∉ F) : EvsIn w' o n c es :=
  ⟨h.len, h.room, h.most, h.at_.imp id fun ⟨b, off, h1, h2, h3⟩ => ⟨b, off, h1, Nat.lt_of_lt_of_le h2 k.size, fun i e he j v hv => k.cell (h3 i e he j v hv) (hF b off h1)⟩⟩

theorem bytesOf_list (l : List UInt8) : (bytesOf l).data.toList = l := by simp [bytesOf]

theorem bytes_snoc (l : List Ev) (e : Ev) : bytesOf (bytesC l) ++ bytesOf (partC e) = bytesOf (bytesC (l ++ [e])) := by
  rw [cat_bytes, bytesC_append]
  simp [bytesOf, bytesC]

theorem bytesC_len {s t : List Cont} {n : Nat} {l : List Ev} (h : Tr n s l t) : (bytesC l).length ≤ 40 * l.length := by
  induction h with
  | nil => simp [bytesC]
  | cons h _ _ ih =>
    rw [bytesC_cons, List.length_append, List.length_cons]
    have := partC_len h
    omega

theorem bytesC_take {s t : List Cont} {n : Nat} {l : List Ev} (h : Tr n s l t) (k : Nat) : (bytesC (l.take k)).length ≤ 40 * l.length := by
  have e : bytesC l = bytesC (l.take k) ++ bytesC (l.drop k) := by rw [← bytesC_append, List.take_append_drop]
  have h1 := bytesC_len h
  rw [e, List.length_append] at h1
  omega
end Go.Tru
namespace Go.Proofs.Ytdfdajedcgmbfaa
open Go.RowKit Go.Tru

theorem conv_one (c : UInt8) (W : World) (n : Nat) (hn : n = W.heap.size) :
    (convert 41 9 (.slice (some ⟨n, 0, none⟩) 1 1)).run Try.prog (W.alloc (.cells #[.int .u8 c.toNat] 5)) = .ok (.string (bytesOf [c])) (W.alloc (.cells #[.int .u8 c.toNat] 5)) := by
  have h := run_bytes_lit (P := Try.prog) 41 9 5 Try.underlying41 Try.underlying5 Try.underlying9 [(c.toNat : Int)] W n hn
  have e : strOfNums [(c.toNat : Int)] = bytesOf [c] := by
    unfold bytesOf
    apply ByteArray.ext
    apply Array.toList_inj.1
    rw [str_data]
    simp
  rw [e] at h
  exact h

/-- so many parts have been written -/
def BkRel (ds : List Ev) (B b : Nat) (o3 : Option Addr) (c3 : Nat) (w : World) (x i : Value) (wr : World) : Prop :=
  ∃ (k : Nat) (ov : Value), k ≤ ds.length ∧ i = .int .i64 k ∧ x = .string (bytesOf (bytesC (ds.take k))) ∧ WrIn wr B b 2 ov (wAfter [] (ds.take k)) (decide (k = ds.length)) ∧ (k = 0 → ov = .slice none 0 0) ∧ EvsIn wr o3 ds.length c3 ds ∧ B ≤ wr.heap.size ∧ Keeps [] w wr
end Go.Proofs.Ytdfdajedcgmbfaa

namespace Go.Tru

/-- (a % z + z) % z as Go reckons it: a number from 0 to z less 1 -/
theorem mod_facts (a : Int) {z : Nat} (h : 0 < z) : -(z : Int) < a.tmod z ∧ a.tmod z < z ∧ ∃ j : Nat, a.tmod z % z = j ∧ j < z := by
  refine ⟨by have := Int.lt_tmod_of_pos a (b := (z : Int)) (by omega); omega, Int.tmod_lt_of_pos a (by omega), (a.tmod z % z).toNat, ?_, ?_⟩
  · have := Int.emod_nonneg (a.tmod z) (b := (z : Int)) (by omega); omega
  · have := Int.emod_nonneg (a.tmod z) (b := (z : Int)) (by omega); have := Int.emod_lt_of_pos (a.tmod z) (b := (z : Int)) (by omega); omega
end Go.Tru
namespace Go.Proofs.Ytdfdajedcgmbfaa
open Go.RowKit Go.Tru

set_option maxHeartbeats 3200000 in
set_option maxRecDepth 100000 in
theorem cuts_yes (o : Option Addr) (n c : Nat) (xs : List Int) (kk : Int) (y : UInt8) (w : World) (h : IntsIn w o n c xs) (hn : n ≤ 40) (hkk : -9223372036854775808 ≤ kk ∧ kk ≤ 9223372036854775807) :
    Calls Try.prog 4 #[.slice o n c, .int .i64 kk, .int .u8 (y.toNat : Int)] w fun r w' => r = .returned (.bool true) ∧ Keeps [] w w' := by
  obtain ⟨dep, hdep⟩ : ∃ dep : Nat, dep = 8 := ⟨8, rfl⟩
  have hd1 : 1 ≤ dep := by omega
  have hd2 : dep ≤ 16 := by omega
  have hback := back_all xs dep ⟨hd1, hd2⟩
  have hmore := more_all xs dep ⟨hd1, hd2⟩ y
  have hcut := cut_all xs dep ⟨hd1, hd2⟩
  have htr := doc_tr xs dep hd2
  have hdl : (doc xs dep).length ≤ 500 := by
    have h1 := docItem_len dep xs
    have h2 := h.len
    unfold doc
    omega
  have hds1 : 1 ≤ (doc xs dep).length := by
    have h1 := tr_end htr
    rcases hcase : doc xs dep with _ | ⟨e, r⟩
    · rw [hcase] at hback
      unfold cborAll at hback
      rw [if_neg (by omega)] at hback
      have h3 := congrArg Prod.snd hback
      exact absurd h3 (by show ¬ (3 : Int) = 0; decide)
    · simp
  have i1 : ¬ 40 < (n : Int) := by omega
  have hbp : 1 ≤ (bytesC (doc xs dep)).length := by
    rcases Nat.eq_zero_or_pos (bytesC (doc xs dep)).length with h0 | h0
    · rw [List.length_eq_zero_iff.1 h0] at hback
      unfold cborAll at hback
      rw [if_neg (by omega)] at hback
      have h3 := congrArg Prod.snd hback
      exact absurd h3 (by show ¬ (3 : Int) = 0; decide)
    · exact h0
  have HDOC := Lib.hid (fun W hW => doc_any o n c xs dep (by omega) (by omega) W hW)
  rw [hdep] at HDOC
  have H := Lib.hid h
  rw [hdep] at hback hmore hcut htr hdl hds1 hbp
  clear hdep hd1 hd2 dep
  generalize doc xs 8 = ds at hback hmore hcut htr hdl hds1 hbp HDOC
  have HMORE := Lib.hid hmore
  have HCUT := Lib.hid hcut
  have HBP := Lib.hid hbp
  have HBACK := Lib.hid hback
  have HTR := Lib.hid htr
  have HDL := Lib.hid hdl
  have HD1 := Lib.hid hds1
  have HKK := Lib.hid hkk
  clear h hback htr hdl hds1 hn hmore hcut hbp hkk
  go_enter Try.func4, Try.ntmps4
  go_wp2_with fail
  refine (calive_any w).mono ?_
  rintro e w1 ⟨rfl, k1⟩
  have K1 := Lib.hid k1
  clear k1
  go_wp2_with fail
  refine (HDOC.out _ (H.out.keeps K1.out)).mono ?_
  rintro e w2 ⟨v2, rfl, hown2, k2⟩
  obtain ⟨o3, c3, rfl, hin2⟩ := evsIn_of_owns hown2
  have K2 := Lib.hid (K1.out.trans k2)
  have HI2 := Lib.hid hin2
  have z2 := K2.out.size
  have hm2 := hin2.most
  have hr2 := hin2.room
  unfold maxLen at hm2
  clear hown2 hin2 k2
  go_wp2_with fail
  go_loopw [9, 31] (fun x i wr => BkRel ds w2.heap.size w2.heap.size o3 c3 w x i wr) (fun _ i _ => ds.length - (intOf i).toNat)
  case atStart =>
    refine ⟨0, .slice none 0 0, Nat.zero_le _, rfl, rfl, ⟨?_, OwnsStk.nil _ _ _, by simp [blks_nil]⟩, fun _ => rfl, HI2.out.keeps ((Keeps.refl [] w2).alloc _), by simp, K2.out.alloc _⟩
    have hdec : decide (0 = ds.length) = false := by have := HD1.out; simp; omega
    rw [hdec]
    exact Has.new' w2 _ _ rfl
  case round =>
    obtain ⟨k, ov, hk, rfl, rfl, hwr, hov, hin, hB, hK⟩ := hrel
    have hbl := hwr.blk.lt
    by_cases hlt : k < ds.length
    · obtain ⟨b1, f1, rfl, g0, g1, g2, g3, g4⟩ := hin.get hlt hlt
      have hget : ds[k]? = some ds[k] := List.getElem?_eq_getElem hlt
      obtain ⟨t1, t2, t3⟩ := tr_at HTR.out k _ hget
      have hdec : decide (k = ds.length) = false := by simp; omega
      rw [hdec] at hwr
      have hstep := wstepC t1 hwr (fun h0 => by
        rcases Nat.eq_zero_or_pos k with hk0 | hk0
        · exact hov hk0
        · have h1 := (tr_at HTR.out (k - 1) ds[k - 1] (List.getElem?_eq_getElem (by omega))).2.1 (by omega)
          rw [show k - 1 + 1 = k by omega, h0] at h1
          simp at h1) hB
      have hx1 : (bytesOf (bytesC (ds.take k))).size ≤ 30000 := by
        rw [bytesOf_sz]
        have := bytesC_take HTR.out k
        have := HDL.out
        omega
      have hx2 : (bytesOf (partC ds[k])).size ≤ 40 := by rw [bytesOf_sz]; exact partC_len t1
      have hcat := bytes_snoc (ds.take k) ds[k]
      have htk : ds.take k ++ [ds[k]] = ds.take (k + 1) := by rw [List.take_succ_eq_append_getElem hlt]
      rw [htk] at hcat
      rw [← t3] at hstep
      have hfin : (wAfter [] (ds.take (k + 1))).isEmpty = decide (k + 1 = ds.length) := by
        by_cases hl : k + 1 = ds.length
        · rw [hl, List.take_length, tr_end HTR.out]; simp
        · have := t2 (by omega)
          rcases hc : wAfter [] (ds.take (k + 1)) with _ | ⟨a, l⟩
          · rw [hc] at this; simp at this
          · simp [hl]
      rw [hfin] at hstep
      have HIN := Lib.hid hin
      have HK := Lib.hid hK
      have HST := Lib.hid hstep
      have HFB := Lib.hid hB
      have hblks : ∀ i ∈ blks ov, w2.heap.size ≤ i := fun i hi => (World.ownsRow.lt hwr.opn i (mem_blks.1 hi)).1
      have HBL := Lib.hid hblks
      have hb1 : b1 < w2.heap.size := by
        rcases HI2.out.at_ with h0 | ⟨b', off', e', hb', _⟩
        · have := HD1.out; omega
        · simp only [Option.some.injEq, Addr.mk.injEq] at e'
          omega
      have hi : (k : Int) < (ds.length : Int) := by omega
      have hsum : ¬ 281474976710656 < (bytesOf (bytesC (ds.take k))).size + (bytesOf (partC ds[k])).size := by omega
      obtain ⟨X, hX⟩ : ∃ X, bytesOf (bytesC (ds.take k)) = X := ⟨_, rfl⟩
      obtain ⟨Y, hY⟩ : ∃ Y, bytesOf (partC ds[k]) = Y := ⟨_, rfl⟩
      rw [hX, hY] at hcat hsum
      rw [hY] at HST
      have HX := Lib.hid hX
      rw [hX]
      generalize hae : ds[k] = p at g0 g1 g2 g3 g4 HST
      clear hae hin hK hstep hB hblks hwr hov hX hY hx1 hx2 t1 t2 t3 htk hfin hdec hget
      go_wp2_with fail
      refine HST.out.mono ?_
      rintro r w4 ⟨rfl, ov4, hwr4, k4, hb4⟩
      have HW4 := Lib.hid hwr4
      have HIN4 := Lib.hid (HIN.out.keepsF k4 (fun b' off' e1 hm => by
        simp only [Option.some.injEq, Addr.mk.injEq] at e1
        rcases List.mem_cons.1 hm with h | h
        · omega
        · have := HBL.out _ h; omega))
      have K4 := Lib.hid (HK.out.trans' k4 (fun i hi => Or.inr (by
        rcases List.mem_cons.1 hi with h | h
        · omega
        · have := HBL.out _ h; omega)))
      have hB4 := Lib.hid (Nat.le_trans HFB.out k4.size)
      clear hwr4 k4 hb4
      go_wp2_with fail
      go_roundw
      case rel => exact ⟨k + 1, ov4, by omega, by go_num, rfl, HW4.out, fun h => by omega, HIN4.out, hB4.out, K4.out⟩
      case measure => simp [intOf]; omega
    · have hke : k = ds.length := by omega
      subst hke
      have hge : ¬ (ds.length : Int) < (ds.length : Int) := by omega
      rw [List.take_length] at *
      have hsz : (bytesOf (bytesC ds)).size ≤ 1000000 := by
        rw [bytesOf_sz]
        have := bytesC_len HTR.out
        have := HDL.out
        omega
      obtain ⟨X, hX⟩ : ∃ X, bytesOf (bytesC ds) = X := ⟨_, rfl⟩
      have hXd : X.data.toList = bytesC ds := by rw [← hX]; exact bytesOf_list _
      have hXs : X.size = (bytesC ds).length := by rw [← hX]; exact bytesOf_sz _
      have hX1 : 1 ≤ X.size := by rw [hXs]; exact HBP.out
      rw [hX] at hsz ⊢
      have hkk := HKK.out
      obtain ⟨q1, q2, j, hj, hjX⟩ := mod_facts kk (z := X.size) (by omega)
      have hd0 : ((X.size : Int) == 0) = false := beq_eq_false_iff_ne.2 (by omega)
      have hpre := fun W => cborAll_any (X.extract 0 j) 8 W (by simp [ByteArray.size_extract]; omega)
      have hcut2 := HCUT.out j (by rw [← hXs]; exact hjX)
      have hed : (X.extract 0 j).data.toList = (bytesC ds).take j := by rw [Lib.extract_data, hXd]; simp
      obtain ⟨es', hes⟩ : ∃ es', cborAll ((bytesC ds).take j) 8 = (es', 3) := ⟨(cborAll ((bytesC ds).take j) 8).1, by rw [← hcut2]; rfl⟩
      rw [hed, hes] at hpre
      have hconv := conv_one y
      obtain ⟨Y, hY⟩ : ∃ Y, bytesOf [y] = Y := ⟨_, rfl⟩
      have hYs : Y.size = 1 := by rw [← hY]; rfl
      obtain ⟨Z, hZ⟩ : ∃ Z, X ++ Y = Z := ⟨_, rfl⟩
      have hZd : Z.data.toList = bytesC ds ++ [y] := by
        rw [← hZ, ByteArray.data_append, Array.toList_append, hXd, ← hY, bytesOf_list]
      have hZs : Z.size ≤ 1000000 := by rw [← hZ, ByteArray.size_append, hYs]; have := bytesC_len HTR.out; have := HDL.out; omega
      have hall := fun W => cborAll_any Z 8 W hZs
      have hm2 := HMORE.out
      rw [hZd] at hall
      rw [show ((8 : Nat) : Int) = 8 from rfl] at hm2
      rw [hm2] at hall
      have hsum : ¬ 281474976710656 < X.size + Y.size := by rw [hYs]; omega
      obtain ⟨yi, hyi⟩ : ∃ yi : Int, (y.toNat : Int) = yi := ⟨_, rfl⟩
      rw [hY] at hconv
      rw [hyi] at hconv ⊢
      have HALL := Lib.hid hall
      have HPRE := Lib.hid hpre
      have HIN := Lib.hid hin
      have HK := Lib.hid hK
      clear hall hin hK hwr hov hB hX hbl hXd hXs hpre hcut2 hed hes hY hYs hZd hZs hm2 hyi hsz hkk hX1
      obtain ⟨wo, rfl⟩ : ∃ wo : World, wo = wr := ⟨_, rfl⟩
      go_wp2_with fail
      refine (HPRE.out _).mono ?_
      rintro r w4 ⟨v4, rfl, hown4, k4⟩
      have K4 := Lib.hid (HK.out.trans k4)
      have HIN4 := Lib.hid (HIN.out.keeps k4)
      obtain ⟨o4', c4', rfl⟩ := hown4.shape
      clear hown4 k4
      go_wp2_with fail
      refine (HALL.out _).mono ?_
      rintro r w5 ⟨v5, rfl, hown5, k5⟩
      obtain ⟨o5, c5, rfl, hin5⟩ := evsIn_of_owns hown5
      have k45 := ((Keeps.refl [] w4).alloc (.cells #[.int .u8 yi] 5)).trans k5
      have K5 := Lib.hid (K4.out.trans k45)
      have HIN5 := Lib.hid hin5
      have HIN6 := Lib.hid (HIN4.out.keeps k45)
      clear hown5 hin5 k5 k45
      go_wp2_with fail
      refine (sameEvs_yes _ _ _ _ _ ds _ HIN5.out HIN6.out).mono ?_
      rintro r w6 ⟨rfl, k6⟩
      have K6 := Lib.hid (K5.out.trans k6)
      clear k6
      go_wp2_with fail
      go_ret
      exact ⟨rfl, K6.out⟩

theorem cborinCuts_walk (o : Option Addr) (n c : Nat) (xs : List Int) (kk x : Int) (w : World) (h : IntsIn w o n c xs) (hk : -9223372036854775808 ≤ kk ∧ kk ≤ 9223372036854775807) (hx : 0 ≤ x ∧ x ≤ 255) :
    Calls Try.prog 4 #[.slice o n c, .int .i64 kk, .int .u8 x] w fun r w' => r = .returned (.bool true) ∧ Below w.heap.size w w' := by
  refine Calls.mono (R := fun r w' => r = .returned (.bool true) ∧ Keeps [] w w') ?_ (fun r w' h => ⟨h.1, h.2.all⟩)
  have m1 : n ≤ 9223372036854775807 := by have := h.room; have := h.most; unfold maxLen at *; omega
  by_cases h1 : 40 < (n : Int)
  · clear h
    go_enter Try.func4, Try.ntmps4
    go_wp2_with fail
    refine (calive_any w).mono ?_
    rintro e w1 ⟨rfl, k1⟩
    have K1 := Lib.hid k1
    clear k1
    go_wp2_with fail
    go_ret
    exact ⟨rfl, K1.out⟩
  · have hy : (((UInt8.ofNat x.toNat).toNat : Nat) : Int) = x := by rw [UInt8.toNat_ofNat']; omega
    have := cuts_yes o n c xs kk (UInt8.ofNat x.toNat) w h (by omega) hk
    rw [hy] at this
    exact this
end Go.Proofs.Ytdfdajedcgmbfaa
