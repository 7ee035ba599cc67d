/-
  What a call leaves of memory, said block by block: 'Keeps F w w'': of the blocks that were there only those of the list F may have changed; a piece of a block's cells read and written.
-/
import Derived.WalkKit
import Derived.WalkSpells
import Derived.WalkLawsBesides
import Derived.Lib.Hide
namespace Go.Tru
open Go.RowKit

/-- Of the blocks that were there only those of F may have changed. -/
structure Keeps (F : List Nat) (w w' : World) : Prop where
  os : w'.os = w.os
  tape : w'.tape = w.tape
  output : w'.output = w.output
  size : w.heap.size ≤ w'.heap.size
  block : ∀ k, k < w.heap.size → k ∉ F → w'.heap[k]? = w.heap[k]?

theorem Keeps.refl (F : List Nat) (w : World) : Keeps F w w := ⟨rfl, rfl, rfl, Nat.le_refl _, fun _ _ _ => rfl⟩

theorem Keeps.trans {F : List Nat} {a b c : World} (h : Keeps F a b) (k : Keeps F b c) : Keeps F a c :=
  ⟨k.os.trans h.os, k.tape.trans h.tape, k.output.trans h.output, Nat.le_trans h.size k.size,
    fun i hi hF => (k.block i (Nat.lt_of_lt_of_le hi h.size) hF).trans (h.block i hi hF)⟩

/-- The second step's list may also hold blocks that the first has made. -/
theorem Keeps.trans' {F G : List Nat} {a b c : World} (h : Keeps F a b) (k : Keeps G b c) (hG : ∀ i ∈ G, i ∈ F ∨ a.heap.size ≤ i) : Keeps F a c :=
  ⟨k.os.trans h.os, k.tape.trans h.tape, k.output.trans h.output, Nat.le_trans h.size k.size,
    fun i hi hF => (k.block i (Nat.lt_of_lt_of_le hi h.size) (fun hm => by
      rcases hG i hm with h1 | h1
      · exact hF h1
      · omega)).trans (h.block i hi hF)⟩

theorem Keeps.mono {F G : List Nat} {a b : World} (h : Keeps F a b) (hs : ∀ i ∈ F, i ∈ G) : Keeps G a b :=
  ⟨h.os, h.tape, h.output, h.size, fun i hi hG => h.block i hi (fun hm => hG (hs i hm))⟩

theorem Keeps.alloc {F : List Nat} {a w : World} (h : Keeps F a w) (o : Obj) : Keeps F a (w.alloc o) :=
  h.trans ⟨rfl, rfl, rfl, by simp, fun k hk _ => Below.heap_alloc _ _ _ hk⟩

theorem Keeps.drew {F : List Nat} {a w : World} (h : Keeps F a w) : Keeps F a w.drew := ⟨h.os, h.tape, h.output, h.size, h.block⟩
theorem Keeps.drewN {F : List Nat} {a w : World} (h : Keeps F a w) (n : Nat) : Keeps F a (w.drewN n) := ⟨h.os, h.tape, h.output, h.size, h.block⟩

theorem Keeps.setCell {F : List Nat} {a w : World} (h : Keeps F a w) {p : Addr} (hp : p.block ∈ F ∨ a.heap.size ≤ p.block) (u : Value) : Keeps F a (w.setCell p u) :=
  ⟨h.os, h.tape, h.output, by simpa [World.setCell] using h.size, fun k hk hF => by
    rw [Below.heap_setCell _ _ _ _ (fun e => by rcases hp with hp | hp; exact hF (e ▸ hp); omega)]
    exact h.block k hk hF⟩

theorem Keeps.set1 {b i : Nat} {a w : World} (h : Keeps [b] a w) (u : Value) : Keeps [b] a (w.setCell ⟨b, i, none⟩ u) := h.setCell (Or.inl (List.mem_singleton.2 rfl)) u

theorem Keeps.grown {F : List Nat} {a w w' : World} {row : Option Nat} (h : Keeps F a w) (hg : w.grownBy w' row) (hr : ∀ k, row = some k → k ∈ F ∨ a.heap.size ≤ k) : Keeps F a w' :=
  ⟨hg.os.trans h.os, hg.tape.trans h.tape, hg.output.trans h.output, Nat.le_trans h.size hg.size, fun k hk hF => by
    rw [hg.block k (Nat.lt_of_lt_of_le hk h.size) (fun e => by rcases hr k e.symm with h1 | h1; exact hF h1; omega)]
    exact h.block k hk hF⟩

/-- Only blocks from B on: below B all is as it was. -/
theorem Keeps.below {F : List Nat} {B : Nat} {w w' : World} (h : Keeps F w w') (hB : B ≤ w.heap.size) (hF : ∀ i ∈ F, B ≤ i) : Below B w w' :=
  ⟨h.os, h.tape, h.output, h.size, fun k hk => h.block k (by omega) (fun hm => by have := hF k hm; omega)⟩

theorem Keeps.all {w w' : World} (h : Keeps [] w w') : Below w.heap.size w w' := h.below (Nat.le_refl _) (fun i hi => by cases hi)

/-- A step that may have changed one block, which the earlier steps have made. -/
theorem Keeps.one {b : Nat} {a c d : World} (h : Keeps [] a c) (k : Keeps [b] c d) (hb : a.heap.size ≤ b) : Keeps [] a d :=
  h.trans' k (fun i hi => by rw [List.mem_singleton] at hi; exact Or.inr (hi ▸ hb))

theorem Keeps.heap {F : List Nat} {w w' : World} (h : Keeps F w w') {k : Nat} {o : Obj} (hk : w.heap[k]? = some o) (hF : k ∉ F) : w'.heap[k]? = some o := by
  rw [h.block k (lt_of_block hk) hF]; exact hk

theorem Keeps.cell {F : List Nat} {w w' : World} (h : Keeps F w w') {p : Addr} {v : Value} (hv : w.cell? p = some v) (hF : p.block ∉ F) : w'.cell? p = some v :=
  (World.cell?_of_block (h.block p.block (World.block_lt_of_cell? w p hv) hF)).trans hv

/-! ### one block's cells -/

/-- Block b holds the cells cs, none of them frozen. -/
def Has (w : World) (b : Nat) (cs : List Value) (t : TypeId) : Prop := w.heap[b]? = some (.cells cs.toArray t (0, 0))

theorem Has.lt {w : World} {b : Nat} {cs : List Value} {t : TypeId} (h : Has w b cs t) : b < w.heap.size := lt_of_block h

theorem Has.cell {w : World} {b : Nat} {cs : List Value} {t : TypeId} (h : Has w b cs t) (i : Nat) : w.cell? ⟨b, i, none⟩ = cs[i]? := by
  simp [World.cell?, show w.heap[b]? = _ from h]

theorem Has.free {w : World} {b : Nat} {cs : List Value} {t : TypeId} (h : Has w b cs t) (i : Nat) : w.frozen? ⟨b, i, none⟩ = false := by
  simp [World.frozen?, show w.heap[b]? = _ from h]

theorem Has.keeps {F : List Nat} {w w' : World} {b : Nat} {cs : List Value} {t : TypeId} (h : Has w b cs t) (k : Keeps F w w') (hb : b ∉ F) : Has w' b cs t := k.heap h hb

theorem Has.below {B : Nat} {w w' : World} {b : Nat} {cs : List Value} {t : TypeId} (h : Has w b cs t) (k : Below B w w') (hb : b < B) : Has w' b cs t := by
  show w'.heap[b]? = _
  rw [k.block b hb]; exact h

theorem Has.alloc {w : World} {b : Nat} {cs : List Value} {t : TypeId} (h : Has w b cs t) (o : Obj) : Has (w.alloc o) b cs t := by
  show (w.alloc o).heap[b]? = _
  rw [Below.heap_alloc _ _ _ h.lt]; exact h

theorem Has.drew {w : World} {b : Nat} {cs : List Value} {t : TypeId} (h : Has w b cs t) : Has w.drew b cs t := h
theorem Has.drewN {w : World} {b : Nat} {cs : List Value} {t : TypeId} (h : Has w b cs t) (n : Nat) : Has (w.drewN n) b cs t := h

theorem Has.new (w : World) (cs : List Value) (t : TypeId) : Has (w.alloc (.cells cs.toArray t)) w.heap.size cs t := heap_alloc_new w _
theorem Has.new' (w : World) (cs : Array Value) (t : TypeId) {n : Nat} (hn : n = w.heap.size) : Has (w.alloc (.cells cs t)) n cs.toList t := by
  subst hn
  show (w.alloc (.cells cs t)).heap[w.heap.size]? = _
  rw [heap_alloc_new]

theorem Has.set {w : World} {b : Nat} {cs : List Value} {t : TypeId} (h : Has w b cs t) (i : Nat) (u : Value) : Has (w.setCell ⟨b, i, none⟩ u) b (cs.set i u) t := by
  have := heap_setCell_same w b i cs.toArray t u h
  show (w.setCell ⟨b, i, none⟩ u).heap[b]? = _
  rw [this]; simp

theorem Has.other {w : World} {b : Nat} {cs : List Value} {t : TypeId} (h : Has w b cs t) {p : Addr} (hp : b ≠ p.block) (u : Value) : Has (w.setCell p u) b cs t := by
  show (w.setCell p u).heap[b]? = _
  rw [Below.heap_setCell _ _ _ _ hp]; exact h

theorem Has.conv {w : World} {b : Nat} {cs cs' : List Value} {t : TypeId} (h : Has w b cs t) (e : cs = cs') : Has w b cs' t := e ▸ h

/-! ### a piece in the middle of a block -/

theorem mid_cell {w : World} {b : Nat} {pre mid post : List Value} {t : TypeId} {off : Nat} (h : Has w b (pre ++ mid ++ post) t) (ho : off = pre.length) (i : Nat) (hi : i < mid.length) : w.cell? ⟨b, off + i, none⟩ = mid[i]? := by
  subst ho
  rw [h.cell, List.append_assoc, List.getElem?_append_right (by omega), List.getElem?_append_left (by omega)]
  congr 1; omega

theorem mid_set {w : World} {b : Nat} {pre mid post : List Value} {t : TypeId} {off : Nat} (h : Has w b (pre ++ mid ++ post) t) (ho : off = pre.length) (i : Nat) (u : Value) (hi : i < mid.length) :
    Has (w.setCell ⟨b, off + i, none⟩ u) b (pre ++ mid.set i u ++ post) t := by
  subst ho
  refine (h.set (pre.length + i) u).conv ?_
  rw [List.append_assoc, List.append_assoc, List.set_append_right _ _ (by omega), List.set_append_left _ _ (by omega)]
  congr 3; omega

theorem mid_set0 {w : World} {b : Nat} {pre mid post : List Value} {t : TypeId} {off : Nat} (h : Has w b (pre ++ mid ++ post) t) (ho : off = pre.length) (u : Value) (hi : 0 < mid.length) :
    Has (w.setCell ⟨b, off, none⟩ u) b (pre ++ mid.set 0 u ++ post) t := mid_set h ho 0 u hi

theorem ret_bool {a b : Bool} (h : a = b) : Ending.returned (.bool a) = .returned (.bool b) := by rw [h]
theorem ret_int {k : IntKind} {a b : Int} (h : a = b) : Ending.returned (.int k a) = .returned (.int k b) := by rw [h]

/-! ### string([]byte{..}) -/

theorem run_bytes_lit {P : Program} (src dst e : TypeId) (hs : P.underlying src = some (.slice e)) (he : P.underlying e = some (.int .u8)) (hd : P.underlying dst = some .string) (xs : List Int) (W : World) (n : Nat) (hn : n = W.heap.size) :
    (convert src dst (.slice (some ⟨n, 0, none⟩) xs.length xs.length)).run P (W.alloc (.cells (xs.map (Value.int .u8)).toArray e)) = .ok (.string (strOfNums xs)) (W.alloc (.cells (xs.map (Value.int .u8)).toArray e)) := by
  subst hn
  refine run_convert_bytes_arg _ src e hs he _ 0 _ _ xs rfl (fun i hi => ?_) dst hd
  rw [World.cell?_alloc_at _ _ _ _ rfl]
  simp [List.getD, hi]

/-- these numbers as bytes -/
theorem str_data (xs : List Int) : (strOfNums xs).data.toList = xs.map fun n => UInt8.ofNat n.toNat := rfl

theorem str_size (xs : List Int) : (strOfNums xs).size = xs.length := strOfNums_size xs

/-! ### a slice of ints that came in -/

/-- The slice value (address o, length n, capacity c) holds these numbers. -/
structure IntsIn (w : World) (o : Option Addr) (n c : Nat) (xs : List Int) : Prop where
  len : xs.length = n
  room : n ≤ c
  most : c ≤ maxLen
  at_ : n = 0 ∨ ∃ b off, o = some ⟨b, off, none⟩ ∧ b < w.heap.size ∧ ∀ (i : Nat) (x : Int), xs[i]? = some x → w.cell? ⟨b, off + i, none⟩ = some (.int .i64 x)
  fit : ∀ x ∈ xs, -9223372036854775808 ≤ x ∧ x ≤ 9223372036854775807

theorem IntsIn.keeps {w w' : World} {o : Option Addr} {n c : Nat} {xs : List Int} (h : IntsIn w o n c xs) (k : Keeps [] w w') : IntsIn w' o n c xs :=
  ⟨h.len, h.room, h.most, h.at_.imp id fun ⟨b, off, h1, h2, h3⟩ => ⟨b, off, h1, Nat.lt_of_lt_of_le h2 k.size, fun i x hx => k.cell (h3 i x hx) (by simp)⟩, h.fit⟩

theorem IntsIn.get {w : World} {o : Option Addr} {n c : Nat} {xs : List Int} (h : IntsIn w o n c xs) {k : Nat} (hk : k < n) (hk' : k < xs.length) :
    ∃ b off, o = some ⟨b, off, none⟩ ∧ w.cell? ⟨b, off + k, none⟩ = some (.int .i64 xs[k]) := by
  rcases h.at_ with h0 | ⟨b, off, h1, _, h3⟩
  · omega
  · exact ⟨b, off, h1, h3 k _ (List.getElem?_eq_getElem hk')⟩

end Go.Tru
