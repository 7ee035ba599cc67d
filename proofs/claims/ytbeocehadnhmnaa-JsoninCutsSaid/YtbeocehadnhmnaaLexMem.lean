/-
  lexer.Lexer in memory; lists of tokens.
-/
import Derived.Test.YtbeocehadnhmnaaLexModel
import Derived.Test.YtbeocehadnhmnaaBld
import Derived.Test.YtbeocehadnhmnaaNumEnd
import Derived.Test.YtbeocehadnhmnaaEscTop
namespace Go.Tru

/-- a Lexer's cells; p, v: the Builder's -/
def Lex.cells (L : Lex) (p v : Value) : List Value :=
  [.int .i64 L.state] ++ L.r.cells ++ [p, v] ++ L.n.cells ++ [.string ⟨L.rest.toArray⟩, .int .u8 L.kind, .int .i64 L.e]

theorem Lex.cells_len (L : Lex) (p v : Value) : (L.cells p v).length = 23 := by simp [Lex.cells, Rdr.cells, Chk.cells, Num.cells]

/-- the Reader's place in it -/
theorem Lex.cells_r (L : Lex) (p v : Value) (post : List Value) :
    L.cells p v ++ post = [.int .i64 L.state] ++ L.r.cells ++ ([p, v] ++ L.n.cells ++ [.string ⟨L.rest.toArray⟩, .int .u8 L.kind, .int .i64 L.e] ++ post) := by simp [Lex.cells]
/-- the Builder's -/
theorem Lex.cells_b (L : Lex) (p v : Value) (post : List Value) :
    L.cells p v ++ post = ([.int .i64 L.state] ++ L.r.cells) ++ [p, v] ++ (L.n.cells ++ [.string ⟨L.rest.toArray⟩, .int .u8 L.kind, .int .i64 L.e] ++ post) := by simp [Lex.cells]
/-- the Number's -/
theorem Lex.cells_n (L : Lex) (p v : Value) (post : List Value) :
    L.cells p v ++ post = ([.int .i64 L.state] ++ L.r.cells ++ [p, v]) ++ L.n.cells ++ ([.string ⟨L.rest.toArray⟩, .int .u8 L.kind, .int .i64 L.e] ++ post) := by simp [Lex.cells]

theorem lex_cell {w : World} {b : Nat} {post : List Value} {T : TypeId} {L : Lex} {p v : Value} (h : Has w b (L.cells p v ++ post) T) :
    w.cell? ⟨b, 0, none⟩ = some (.int .i64 L.state) ∧ w.cell? ⟨b, 20, none⟩ = some (.string ⟨L.rest.toArray⟩) ∧ w.cell? ⟨b, 21, none⟩ = some (.int .u8 L.kind) ∧ w.cell? ⟨b, 22, none⟩ = some (.int .i64 L.e) ∧ b < w.heap.size :=
  ⟨h.cell 0, h.cell 20, h.cell 21, h.cell 22, h.lt⟩

theorem lex_free {w : World} {b : Nat} {cs : List Value} {T : TypeId} (h : Has w b cs T) :
    w.frozen? ⟨b, 0, none⟩ = false ∧ w.frozen? ⟨b, 20, none⟩ = false ∧ w.frozen? ⟨b, 21, none⟩ = false ∧ w.frozen? ⟨b, 22, none⟩ = false :=
  ⟨h.free 0, h.free 20, h.free 21, h.free 22⟩

theorem tok_one (l : List Tok) : ∀ u ∈ l.flatMap Tok.cells, u.oneCell' = true := by
  intro u hu
  obtain ⟨e, _, h⟩ := List.mem_flatMap.1 hu
  simp only [Tok.cells, List.mem_cons, List.not_mem_nil, or_false] at h
  rcases h with rfl | rfl | rfl | rfl <;> rfl

theorem tokCells_len (l : List Tok) : (l.flatMap Tok.cells).length = l.length * 4 := by
  induction l with
  | nil => rfl
  | cons t l ih => simp only [List.flatMap_cons, List.length_append, ih, List.length_cons]; simp [Tok.cells]; omega

/-- The slice value v holds these tokens, in a row of the call's own; no token: nil. -/
def ToksOut (w : World) (B : Nat) (v : Value) (l : List Tok) : Prop := w.ownsRow B 113 4 v l.length (l.flatMap Tok.cells) ∧ (l = [] → v = .slice none 0 0)

theorem ToksOut.nil (w : World) (B : Nat) : ToksOut w B (.slice none 0 0) [] := ⟨World.ownsRow_nil _ _ _ _, fun _ => rfl⟩

/-- a list of tokens of the law's own -/
def OwnsToks (w : World) (base : Nat) (v : Value) (l : List Tok) : Prop := w.ownsRow base 113 4 v l.length (l.flatMap Tok.cells)

/-- one token that has just been laid -/
theorem ToksOut.one (w : World) (B : Nat) (hB : B ≤ w.heap.size) (t : Tok) {n : Nat} (hn : n = w.heap.size) : ToksOut (w.alloc (.cells t.cells.toArray 113)) B (.slice (some ⟨n, 0, none⟩) 1 1) [t] := by
  subst hn
  refine ⟨⟨by simp [Tok.cells], Or.inr ⟨w.heap.size, 1, t.cells.toArray, rfl, hB, heap_alloc_new w _, Nat.le_refl _, by unfold maxLen; omega, by simp [Tok.cells], by simp [Tok.cells]⟩⟩, fun h => by cases h⟩

theorem ToksOut.keeps {F : List Nat} {w w' : World} {B : Nat} {v : Value} {l : List Tok} (h : ToksOut w B v l) (k : Keeps F w w') (hF : ∀ i ∈ blks v, i ∉ F) : ToksOut w' B v l :=
  ⟨ownsRow_keeps h.1 k (fun i hi => hF i (mem_blks.2 hi)), h.2⟩

end Go.Tru
namespace Go.Proofs.Ytbeocehadnhmnaa
open Go.RowKit Go.Tru

/-- Block b begins with a Lexer; F: the blocks that it may write. -/
def LexIn (w : World) (base b : Nat) (post : List Value) (T : TypeId) (L : Lex) (F : List Nat) : Prop :=
  (b ∈ F ∧ ∀ i ∈ F, i < w.heap.size) ∧ ∃ p v, Has w b (L.cells p v ++ post) T ∧ (L.state = 1 → L.e = 0 → (p = .pointer none ∨ p = .pointer (some ⟨b, 10, none⟩)) ∧ BufIs w base v L.s ∧ ∀ i ∈ blks v, i ∈ F)

/-- what a method of the Lexer leaves -/
def LexPost (w : World) (base b : Nat) (post : List Value) (T : TypeId) (F : List Nat) (L' : Lex) (w' : World) : Prop :=
  ∃ F', LexIn w' base b post T L' F' ∧ Keeps F w w' ∧ ∀ i ∈ F', i ∈ F ∨ w.heap.size ≤ i

/-- a Lexer may lie at the head of a block of this type -/
def LexT (T : TypeId) (k : Nat) : Prop := BldT T (23 + k) 10

theorem LexT.at_ {T : TypeId} {post : List Value} (h : LexT T post.length) (L : Lex) : BldT T (([Value.int .i64 L.state] ++ L.r.cells).length + 2 + (L.n.cells ++ [Value.string ⟨L.rest.toArray⟩, .int .u8 L.kind, .int .i64 L.e] ++ post).length) 10 := by
  have e : ([Value.int .i64 L.state] ++ L.r.cells).length + 2 + (L.n.cells ++ [Value.string ⟨L.rest.toArray⟩, .int .u8 L.kind, .int .i64 L.e] ++ post).length = 23 + post.length := by
    simp [Rdr.cells, Chk.cells, Num.cells]; omega
  rw [e]
  exact h

theorem pre_b (L : Lex) : 10 = ([Value.int .i64 L.state] ++ L.r.cells).length := by simp [Rdr.cells, Chk.cells]
theorem pre_n (L : Lex) (p v : Value) : 12 = ([Value.int .i64 L.state] ++ L.r.cells ++ [p, v]).length := by simp [Rdr.cells, Chk.cells]

theorem BufIs.keeps {F : List Nat} {w w' : World} {base : Nat} {v : Value} {l : List UInt8} (h : BufIs w base v l) (k : Keeps F w w') (hF : ∀ i ∈ blks v, i ∉ F) : BufIs w' base v l :=
  ownsRow_keeps h k (fun i hi => hF i (mem_blks.2 hi))

theorem LexIn.keeps {G : List Nat} {w w' : World} {base b : Nat} {post : List Value} {T : TypeId} {L : Lex} {F : List Nat} (h : LexIn w base b post T L F) (k : Keeps G w w') (hF : ∀ i ∈ F, i ∉ G) : LexIn w' base b post T L F := by
  obtain ⟨⟨hb, hlt⟩, p, v, h1, h2⟩ := h
  refine ⟨⟨hb, fun i hi => Nat.lt_of_lt_of_le (hlt i hi) k.size⟩, p, v, h1.keeps k (hF b hb), fun hs he => ?_⟩
  obtain ⟨a, c, d⟩ := h2 hs he
  exact ⟨a, ownsRow_keeps c k (fun i hi => hF i (d i (mem_blks.2 hi))), d⟩

theorem LexPost.trans {w w1 w2 : World} {base b : Nat} {post : List Value} {T : TypeId} {F F1 : List Nat} {L : Lex} (k : Keeps F w w1) (hs : ∀ i ∈ F1, i ∈ F ∨ w.heap.size ≤ i) (h : LexPost w1 base b post T F1 L w2) : LexPost w base b post T F L w2 := by
  obtain ⟨F2, h1, h2, h3⟩ := h
  refine ⟨F2, h1, k.trans' h2 hs, fun i hi => ?_⟩
  rcases h3 i hi with h | h
  · exact hs i h
  · exact Or.inr (Nat.le_trans k.size h)

/-- .. where the blocks stay the same -/
def LexSame (w : World) (base b : Nat) (post : List Value) (T : TypeId) (F : List Nat) (L' : Lex) (w' : World) : Prop :=
  LexIn w' base b post T L' F ∧ Keeps F w w' ∧ ∀ i ∈ F, i < w.heap.size

theorem LexSame.post {w w' : World} {base b : Nat} {post : List Value} {T : TypeId} {F : List Nat} {L' : Lex} (h : LexSame w base b post T F L' w') : LexPost w base b post T F L' w' :=
  ⟨F, h.1, h.2.1, fun _ hi => Or.inl hi⟩

/-- a Lexer whose Builder is none's business -/
theorem lexPost_of {w w' : World} {base b : Nat} {post : List Value} {T : TypeId} {F : List Nat} {L' : Lex} {p v : Value} (hb : b ∈ F ∧ ∀ i ∈ F, i < w.heap.size) (h : Has w' b (L'.cells p v ++ post) T) (hs : L'.state ≠ 1 ∨ L'.e ≠ 0) (k : Keeps F w w') : LexSame w base b post T F L' w' :=
  ⟨⟨⟨hb.1, fun i hi => Nat.lt_of_lt_of_le (hb.2 i hi) k.size⟩, p, v, h, fun a c => by rcases hs with d | d; exact absurd a d; exact absurd c d⟩, k, hb.2⟩

theorem LexIn.b_lt {w : World} {base b : Nat} {post : List Value} {T : TypeId} {L : Lex} {F : List Nat} (h : LexIn w base b post T L F) : b < w.heap.size := h.1.2 b h.1.1

theorem lexIn_cell {w : World} {base b : Nat} {post : List Value} {T : TypeId} {L : Lex} {F : List Nat} (h : LexIn w base b post T L F) :
    w.cell? ⟨b, 0, none⟩ = some (.int .i64 L.state) ∧ w.cell? ⟨b, 22, none⟩ = some (.int .i64 L.e) := by
  obtain ⟨_, p, v, h1, _⟩ := h
  obtain ⟨g0, _, _, g22, _⟩ := lex_cell h1
  exact ⟨g0, g22⟩

theorem blank_idx (x : Int) (h0 : 0 ≤ x) (h1 : x ≤ 255) : (isBlank x = false ∧ Lib.indexByte [32, 9, 10, 13] x.toNat.toUInt8 = -1) ∨ (isBlank x = true ∧ 0 ≤ Lib.indexByte [32, 9, 10, 13] x.toNat.toUInt8) := by
  obtain ⟨n, rfl⟩ : ∃ n : Nat, x = n := ⟨x.toNat, by omega⟩
  have hall : ∀ y : Fin 256, (isBlank (y.1 : Int) = false ∧ Lib.indexByte [32, 9, 10, 13] y.1.toUInt8 = -1) ∨ (isBlank (y.1 : Int) = true ∧ 0 ≤ Lib.indexByte [32, 9, 10, 13] y.1.toUInt8) := by decide +kernel
  exact hall ⟨n, by omega⟩

theorem mark_idx (x : Int) (h0 : 0 ≤ x) (h1 : x ≤ 255) : (isMark x = false ∧ Lib.indexByte [123, 125, 91, 93, 58, 44] x.toNat.toUInt8 = -1) ∨ (isMark x = true ∧ 0 ≤ Lib.indexByte [123, 125, 91, 93, 58, 44] x.toNat.toUInt8) := by
  obtain ⟨n, rfl⟩ : ∃ n : Nat, x = n := ⟨x.toNat, by omega⟩
  have hall : ∀ y : Fin 256, (isMark (y.1 : Int) = false ∧ Lib.indexByte [123, 125, 91, 93, 58, 44] y.1.toUInt8 = -1) ∨ (isMark (y.1 : Int) = true ∧ 0 ≤ Lib.indexByte [123, 125, 91, 93, 58, 44] y.1.toUInt8) := by decide +kernel
  exact hall ⟨n, by omega⟩

end Go.Proofs.Ytbeocehadnhmnaa
