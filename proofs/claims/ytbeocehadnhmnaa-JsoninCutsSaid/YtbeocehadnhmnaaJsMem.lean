/-
  jsonin.Parser in memory.
-/
import Derived.Test.YtbeocehadnhmnaaJsModel
import Derived.Test.YtbeocehadnhmnaaLexTop
import Derived.Test.YtbeocehadnhmnaaAnys
namespace Go.Tru

/-- The slice value v holds the containers that are open, in a row of the call's own. -/
def OwnsMaps (w : World) (base : Nat) (v : Value) (l : List Bool) : Prop := w.ownsRow base 4 1 v l.length (l.reverse.map Value.bool)

theorem OwnsMaps.nil (w : World) (base : Nat) : OwnsMaps w base (.slice none 0 0) [] := World.ownsRow_nil _ _ _ _

theorem OwnsMaps.shape {w : World} {base : Nat} {v : Value} {l : List Bool} (h : OwnsMaps w base v l) : ∃ a cap, v = .slice a l.length cap := by
  rcases h.2 with ⟨h1, h2⟩ | ⟨g, cap, cur, h1, _⟩
  · exact ⟨none, 0, by rw [h1, h2]⟩
  · exact ⟨_, _, h1⟩

theorem mapsCells_cons (m : Bool) (l : List Bool) : ((m :: l).reverse.map Value.bool) = (l.reverse.map Value.bool) ++ [.bool m] := by simp

theorem OwnsMaps.some_ {w : World} {base : Nat} {v : Value} {m : Bool} {l : List Bool} (h : OwnsMaps w base v (m :: l)) :
    ∃ g cap, v = .slice (some ⟨g, 0, none⟩) (l.length + 1) cap ∧ base ≤ g ∧ g < w.heap.size ∧ l.length + 1 ≤ cap ∧ cap ≤ maxLen ∧ w.cell? ⟨g, l.length, none⟩ = some (.bool m) := by
  have hlt := World.ownsRow.lt h
  rcases h.2 with ⟨_, h2⟩ | ⟨g, cap, cur, rfl, hb, hg, hn, hm, _⟩
  · simp at h2
  · refine ⟨g, cap, rfl, hb, (hlt g rfl).2, hn, hm, ?_⟩
    rw [World.ownsRow.cellAt h _ (by simp), mapsCells_cons, List.getElem?_append_right (by simp)]
    simp

theorem OwnsMaps.pop {w : World} {base g cap : Nat} {m : Bool} {l : List Bool} (h : OwnsMaps w base (.slice (some ⟨g, 0, none⟩) (l.length + 1) cap) (m :: l)) : OwnsMaps w base (.slice (some ⟨g, 0, none⟩) l.length cap) l := by
  unfold OwnsMaps at h ⊢
  refine ⟨by simp, ?_⟩
  rcases h.2 with ⟨h1, _⟩ | ⟨g', cap', cur, h1, hb, hg, hn, hm, hs, ht⟩
  · cases h1
  · injection h1 with e1 e2 e3
    injection e1 with e1
    injection e1 with e1
    subst e1 e3
    refine Or.inr ⟨g, cap, cur, rfl, hb, hg, by simp only [List.length_cons] at hn; omega, hm, hs, ?_⟩
    rw [mapsCells_cons, List.length_cons] at ht
    have := congrArg (List.take l.length) ht
    rw [List.take_take, List.take_append_of_le_length (by simp)] at this
    simp only [Nat.mul_one] at this ⊢
    rw [Nat.min_eq_left (by omega)] at this
    rw [this, List.take_of_length_le (by simp)]

end Go.Tru
namespace Go.Proofs.Ytbeocehadnhmnaa
open Go.RowKit Go.Tru

/-- the Parser's cells behind the Lexer's -/
def jsPost (p : Js) (mv : Value) : List Value := [.int .i64 p.depth, mv, .int .i64 p.next, .int .i64 p.e]

/-- Block b is a Parser; its stack mv lies in a row of its own; F: the blocks of the Lexer. -/
structure JsIn (w : World) (base b : Nat) (mv : Value) (p : Js) (F : List Nat) : Prop where
  lex : LexIn w base b (jsPost p mv) 84 p.l F
  maps : OwnsMaps w base mv p.maps
  apart : ∀ i ∈ F, i ∉ blks mv

set_option maxRecDepth 100000 in
theorem jsT : LexT 84 4 := ⟨by kernel_rfl, by decide, by decide⟩

/-- a cell behind the Lexer's written -/
theorem LexIn.setPost {w : World} {base b : Nat} {post post' : List Value} {T : TypeId} {L : Lex} {F : List Nat} (h : LexIn w base b post T L F) (hT : T ≠ 5) {i : Nat} {u : Value} (hp : ∀ p v, (L.cells p v ++ post).set i u = L.cells p v ++ post') : LexIn (w.setCell ⟨b, i, none⟩ u) base b post' T L F := by
  obtain ⟨⟨hb, hlt⟩, p, v, h1, h2⟩ := h
  refine ⟨⟨hb, fun i hi => by simpa using hlt i hi⟩, p, v, (h1.set i u).conv (hp p v), fun hs he => ?_⟩
  obtain ⟨a, c, d⟩ := h2 hs he
  refine ⟨a, c.keeps ((Keeps.refl [b] _).set1 u) (fun j hj hm => ?_), d⟩
  rw [List.mem_singleton] at hm
  exact c.ne h1 hT (hm ▸ hj)

theorem set_post (L : Lex) (p v : Value) (post : List Value) (k : Nat) (u : Value) : (L.cells p v ++ post).set (23 + k) u = L.cells p v ++ post.set k u := by
  rw [List.set_append_right _ _ (by rw [Lex.cells_len]; omega), Lex.cells_len]
  congr 2
  omega

theorem js_cells {w : World} {base b : Nat} {mv : Value} {p : Js} {F : List Nat} (h : LexIn w base b (jsPost p mv) 84 p.l F) :
    w.cell? ⟨b, 23, none⟩ = some (.int .i64 p.depth) ∧ w.cell? ⟨b, 24, none⟩ = some mv ∧ w.cell? ⟨b, 25, none⟩ = some (.int .i64 p.next) ∧ w.cell? ⟨b, 26, none⟩ = some (.int .i64 p.e) ∧ b < w.heap.size ∧
      w.frozen? ⟨b, 24, none⟩ = false ∧ w.frozen? ⟨b, 25, none⟩ = false ∧ w.frozen? ⟨b, 26, none⟩ = false := by
  obtain ⟨_, p', v, h1, _⟩ := h
  exact ⟨h1.cell 23, h1.cell 24, h1.cell 25, h1.cell 26, h1.lt, h1.free 24, h1.free 25, h1.free 26⟩

theorem js_facts {w : World} {base b : Nat} {mv : Value} {p : Js} {F : List Nat} (h : JsIn w base b mv p F) :
    w.cell? ⟨b, 23, none⟩ = some (.int .i64 p.depth) ∧ w.cell? ⟨b, 24, none⟩ = some mv ∧ w.cell? ⟨b, 25, none⟩ = some (.int .i64 p.next) ∧ w.cell? ⟨b, 26, none⟩ = some (.int .i64 p.e) ∧ b < w.heap.size ∧ b ∉ blks mv := by
  obtain ⟨⟨hb, hlt⟩, p', v, h1, _⟩ := h.lex
  exact ⟨h1.cell 23, h1.cell 24, h1.cell 25, h1.cell 26, h1.lt, h.apart b hb⟩

theorem js_free {w : World} {base b : Nat} {mv : Value} {p : Js} {F : List Nat} (h : JsIn w base b mv p F) :
    w.frozen? ⟨b, 24, none⟩ = false ∧ w.frozen? ⟨b, 25, none⟩ = false ∧ w.frozen? ⟨b, 26, none⟩ = false := by
  obtain ⟨_, p', v, h1, _⟩ := h.lex
  exact ⟨h1.free 24, h1.free 25, h1.free 26⟩

theorem JsIn.keeps {G : List Nat} {w w' : World} {base b : Nat} {mv : Value} {p : Js} {F : List Nat} (h : JsIn w base b mv p F) (k : Keeps G w w') (h1 : ∀ i ∈ F, i ∉ G) (h2 : ∀ i ∈ blks mv, i ∉ G) : JsIn w' base b mv p F :=
  ⟨h.lex.keeps k h1, ownsRow_keeps h.maps k (fun i hi => h2 i (mem_blks.2 hi)), h.apart⟩

theorem JsIn.keep0 {w w' : World} {base b : Nat} {mv : Value} {p : Js} {F : List Nat} (h : JsIn w base b mv p F) (k : Keeps [] w w') : JsIn w' base b mv p F := h.keeps k (by simp) (by simp)

/-- next written -/
theorem JsIn.setNext {w : World} {base b : Nat} {mv : Value} {p : Js} {F : List Nat} (h : JsIn w base b mv p F) (n : Int) : JsIn (w.setCell ⟨b, 25, none⟩ (.int .i64 n)) base b mv { p with next := n } F :=
  ⟨h.lex.setPost (by decide) (fun q v => set_post p.l q v _ 2 _), ownsRow_keeps h.maps ((Keeps.refl [b] _).set1 _) (fun i hi hm => by rw [List.mem_singleton] at hm; exact h.apart b h.lex.1.1 (hm ▸ mem_blks.2 hi)), h.apart⟩

/-- the error written -/
theorem JsIn.setE {w : World} {base b : Nat} {mv : Value} {p : Js} {F : List Nat} (h : JsIn w base b mv p F) (n : Int) : JsIn (w.setCell ⟨b, 26, none⟩ (.int .i64 n)) base b mv { p with e := n } F :=
  ⟨h.lex.setPost (by decide) (fun q v => set_post p.l q v _ 3 _), ownsRow_keeps h.maps ((Keeps.refl [b] _).set1 _) (fun i hi hm => by rw [List.mem_singleton] at hm; exact h.apart b h.lex.1.1 (hm ▸ mem_blks.2 hi)), h.apart⟩

/-- the stack put back, shorter or longer -/
theorem JsIn.setMaps {w w2 : World} {base b : Nat} {mv mv2 : Value} {p : Js} {F : List Nat} {l : List Bool} (h : JsIn w base b mv p F) (k : Keeps (blks mv) w w2) (hown : OwnsMaps w2 base mv2 l) (hb : ∀ i ∈ blks mv2, i ∈ blks mv ∨ w.heap.size ≤ i) : JsIn (w2.setCell ⟨b, 24, none⟩ mv2) base b mv2 { p with maps := l } F := by
  have hlt := h.lex.1.2
  have hap : ∀ i ∈ F, i ∉ blks mv2 := fun i hi hm => by
    rcases hb i hm with h1 | h1
    · exact h.apart i hi h1
    · have := hlt i hi; omega
  refine ⟨(h.lex.keeps k h.apart).setPost (by decide) (fun q v => set_post p.l q v _ 1 _), ownsRow_keeps hown ((Keeps.refl [b] _).set1 _) (fun i hi hm => by rw [List.mem_singleton] at hm; exact hap b h.lex.1.1 (hm ▸ mem_blks.2 hi)), hap⟩

/-- what a method of the Parser leaves -/
def JsLeft (w : World) (base b : Nat) (mv : Value) (F : List Nat) (p' : Js) (w' : World) : Prop :=
  ∃ mv' F', JsIn w' base b mv' p' F' ∧ Keeps (F ++ blks mv) w w' ∧ ∀ i ∈ F' ++ blks mv', i ∈ F ++ blks mv ∨ w.heap.size ≤ i

theorem JsLeft.trans {w w1 w2 : World} {base b : Nat} {mv mv1 : Value} {F F1 : List Nat} {p : Js} (k : Keeps (F ++ blks mv) w w1) (hs : ∀ i ∈ F1 ++ blks mv1, i ∈ F ++ blks mv ∨ w.heap.size ≤ i) (h : JsLeft w1 base b mv1 F1 p w2) : JsLeft w base b mv F p w2 := by
  obtain ⟨mv2, F2, h1, h2, h3⟩ := h
  refine ⟨mv2, F2, h1, k.trans' h2 hs, fun i hi => ?_⟩
  rcases h3 i hi with h | h
  · exact hs i h
  · exact Or.inr (Nat.le_trans k.size h)

/-- .. in the same blocks -/
theorem jsLeft_same {w w' : World} {base b : Nat} {mv : Value} {F : List Nat} {p' : Js} (h : JsIn w' base b mv p' F) (k : Keeps (F ++ blks mv) w w') : JsLeft w base b mv F p' w' := ⟨mv, F, h, k, fun _ hi => Or.inl hi⟩

theorem js_self {w : World} {base b : Nat} {mv : Value} {p : Js} {F : List Nat} (h : JsIn w base b mv p F) : b ∈ F ++ blks mv := List.mem_append_left _ h.lex.1.1

/-- a token as a value; a part, if there is one -/
def tokVal (t : Tok) : Value := .agg t.cells.toArray
def optVal : Option Ev → Value
  | some q => .tuple #[q.part, .bool true]
  | none => .tuple #[.nilIface, .bool false]

end Go.Proofs.Ytbeocehadnhmnaa
