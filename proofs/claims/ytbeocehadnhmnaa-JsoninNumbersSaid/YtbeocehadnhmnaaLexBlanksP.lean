/-
  Words with blanks between them, plainly: the tokens are the same.
-/
import Derived.Test.YtbeocehadnhmnaaLexPlain
import Derived.Test.YtbeocehadnhmnaaMask
namespace Go.Tru

def wordT : Nat → List UInt8
  | 0 => [123] | 1 => [125] | 2 => [91] | 3 => [93] | 4 => [58] | 5 => [44]
  | 6 => [34, 97, 32, 98, 34]
  | 7 => [116, 114, 117, 101]
  | 8 => [102, 97, 108, 115, 101]
  | 9 => [110, 117, 108, 108]
  | _ => [34, 34]

def tokT : Nat → Tok
  | 0 => Tok.of 123 | 1 => Tok.of 125 | 2 => Tok.of 91 | 3 => Tok.of 93 | 4 => Tok.of 58 | 5 => Tok.of 44
  | 6 => ⟨115, ⟨#[97, 32, 98]⟩, false, 0⟩
  | 7 => Tok.of 116
  | 8 => Tok.of 102
  | 9 => Tok.of 48
  | _ => ⟨115, ⟨#[]⟩, false, 0⟩

def sepT : Nat → List UInt8
  | 0 => [32] | 1 => [10] | 2 => [9, 13] | _ => []

/-- between two tokens -/
def Lex.Rest (L : Lex) : Prop := L.e = 0 ∧ L.state = 0

theorem run_cons (L : Lex) (b : UInt8) (l : List UInt8) : L.run (b :: l) = (((L.step b.toNat).1.run l).1, (L.step b.toNat).2 ++ ((L.step b.toNat).1.run l).2) := rfl

theorem step_mark {L : Lex} (h : L.Rest) {b : Int} (hk : isMark b = true) (hb : isBlank b = false) : L.step b = (L, [Tok.of b]) := by
  unfold Lex.step Lex.turn Lex.between
  rw [if_neg (by simp [h.1]), if_neg (by rw [h.2]; decide), if_neg (by rw [h.2]; decide), if_neg (by rw [h.2]; decide), if_neg (by simp [hb]), if_pos hk]
  simp [h.1]

theorem step_blank {L : Lex} (h : L.Rest) {b : Int} (hb : isBlank b = true) : L.step b = (L, []) := by
  unfold Lex.step Lex.turn Lex.between
  rw [if_neg (by simp [h.1]), if_neg (by rw [h.2]; decide), if_neg (by rw [h.2]; decide), if_neg (by rw [h.2]; decide), if_pos hb]
  simp [h.1]

/-- a string of ASCII without escapes -/
theorem run_str {L : Lex} (h : L.Rest) {l : List UInt8} (hu : utf8 l = true) (hl : l.length ≤ 200) (hw : writeOf l = l) :
    ∃ L', L.run (34 :: (l ++ [34])) = (L', [⟨115, ⟨l.toArray⟩, false, 0⟩]) ∧ L'.Rest := by
  obtain ⟨h1, h2⟩ := Lex.string_run h.1 h.2 hu
  rw [hw] at h1 h2
  rcases h2 with ⟨_, a⟩ | ⟨_, r, b, c⟩
  · omega
  · have e : (34 : UInt8) :: (l ++ [34]) = (34 :: l) ++ [34] := rfl
    rw [e, Lex.run_append, Lex.run_one, h1, b]
    have := Lex.step_unquote (L := { L with state := 1, r := r, s := l }) h.1 rfl c
    rw [show ((34 : UInt8).toNat : Int) = 34 from rfl, this]
    exact ⟨_, rfl, h.1, rfl⟩

theorem run_word {L : Lex} (h : L.Rest) {c : Int} {w : List UInt8} {x : UInt8} (hx : L.step x.toNat = ({ L with state := 3, rest := w, kind := c }, [])) :
    ∀ (p q : List UInt8), w = p ++ q → q ≠ [] → ∃ L', L.run (x :: w) = (L', [Tok.of c]) ∧ L'.Rest := by
  have key : ∀ (l : List UInt8) (M : Lex), M.e = 0 → M.state = 3 → M.kind = c → M.rest = l → l ≠ [] → ∃ L', M.run l = (L', [Tok.of c]) ∧ L'.Rest := by
    intro l
    induction l with
    | nil => intro _ _ _ _ _ h; exact absurd rfl h
    | cons y l ih =>
      intro M h0 h1 h2 h3 _
      by_cases hl : l = []
      · subst hl
        have e1 : M.step y.toNat = ({ M with rest := [], state := 0 }, [Tok.of M.kind]) := by
          unfold Lex.step Lex.turn Lex.word
          rw [if_neg (by simp [h0]), if_neg (by rw [h1]; decide), if_pos h1, h3]
          simp [h0]
        rw [Lex.run_one, e1, h2]
        exact ⟨_, rfl, h0, rfl⟩
      · have e1 : M.step y.toNat = ({ M with rest := l }, []) := by
          unfold Lex.step Lex.turn Lex.word
          rw [if_neg (by simp [h0]), if_neg (by rw [h1]; decide), if_pos h1, h3]
          simp [h0, hl]
        obtain ⟨L', i1, i2⟩ := ih { M with rest := l } h0 h1 h2 rfl hl
        refine ⟨L', ?_, i2⟩
        rw [run_cons, e1, i1]
        rfl
  intro p q hw hq
  obtain ⟨L', i1, i2⟩ := key w { L with state := 3, rest := w, kind := c } h.1 rfl rfl rfl (by rw [hw]; simp [hq])
  refine ⟨L', ?_, i2⟩
  rw [run_cons, hx, i1]
  rfl

theorem step_w {L : Lex} (h : L.Rest) {b : Int} (w : List UInt8) (c : Int) (hb : L.between b = ({ L with state := 3, rest := w, kind := c }, [])) : L.step b = ({ L with state := 3, rest := w, kind := c }, []) := by
  unfold Lex.step Lex.turn
  rw [if_neg (by simp [h.1]), if_neg (by rw [h.2]; decide), if_neg (by rw [h.2]; decide), if_neg (by rw [h.2]; decide), hb]
  simp [h.1]

theorem run_wordT {L : Lex} (h : L.Rest) : ∀ j, j < 11 → ∃ L', L.run (wordT j) = (L', [tokT j]) ∧ L'.Rest := by
  intro j hj
  match j, hj with
  | 0, _ => exact ⟨L, by show L.run [123] = _; rw [Lex.run_one]; exact step_mark h (by decide) (by decide), h⟩
  | 1, _ => exact ⟨L, by show L.run [125] = _; rw [Lex.run_one]; exact step_mark h (by decide) (by decide), h⟩
  | 2, _ => exact ⟨L, by show L.run [91] = _; rw [Lex.run_one]; exact step_mark h (by decide) (by decide), h⟩
  | 3, _ => exact ⟨L, by show L.run [93] = _; rw [Lex.run_one]; exact step_mark h (by decide) (by decide), h⟩
  | 4, _ => exact ⟨L, by show L.run [58] = _; rw [Lex.run_one]; exact step_mark h (by decide) (by decide), h⟩
  | 5, _ => exact ⟨L, by show L.run [44] = _; rw [Lex.run_one]; exact step_mark h (by decide) (by decide), h⟩
  | 6, _ => exact run_str h (l := [97, 32, 98]) (by decide +kernel) (by decide) (by decide)
  | 7, _ => exact run_word h (x := 116) (w := [114, 117, 101]) (c := 116) (step_w h _ _ (by simp [Lex.between, isBlank, isMark, isDig])) [] [114, 117, 101] rfl (by simp)
  | 8, _ => exact run_word h (x := 102) (w := [97, 108, 115, 101]) (c := 102) (step_w h _ _ (by simp [Lex.between, isBlank, isMark, isDig])) [] [97, 108, 115, 101] rfl (by simp)
  | 9, _ => exact run_word h (x := 110) (w := [117, 108, 108]) (c := 48) (step_w h _ _ (by simp [Lex.between, isBlank, isMark, isDig])) [] [117, 108, 108] rfl (by simp)
  | 10, _ => exact run_str h (l := []) (by decide +kernel) (by decide) (by decide)

theorem run_sepT {L : Lex} (h : L.Rest) : ∀ j, L.run (sepT j) = (L, []) := by
  intro j
  match j with
  | 0 => show L.run [32] = _; rw [Lex.run_one]; exact step_blank h (by decide)
  | 1 => show L.run [10] = _; rw [Lex.run_one]; exact step_blank h (by decide)
  | 2 =>
    show L.run [9, 13] = _
    rw [run_cons, step_blank h (b := ((9 : UInt8).toNat : Int)) (by decide), Lex.run_one, step_blank h (by decide)]
    rfl
  | n + 3 => rfl

def idxT (x : Int) : Nat := (x.tmod 11 % 11).toNat
theorem idxT_lt (x : Int) : idxT x < 11 := by unfold idxT; omega
def b3 (x : Int) : Nat := (x % 4).toNat

/-- the words without blanks -/
def aT (xs : List Int) : List UInt8 := xs.flatMap fun x => wordT (idxT x)
/-- .. with them -/
def bT : List Int → List Int → List UInt8
  | [], _ => []
  | x :: xs, [] => wordT (idxT x) ++ bT xs []
  | x :: xs, b :: bs => wordT (idxT x) ++ (sepT (b3 b) ++ bT xs bs)

theorem aT_take {xs : List Int} {k : Nat} {x : Int} (h : xs[k]? = some x) : aT (xs.take (k + 1)) = aT (xs.take k) ++ wordT (idxT x) := by
  obtain ⟨hk, rfl⟩ := List.getElem?_eq_some_iff.1 h
  have e : xs.take (k + 1) = xs.take k ++ [xs[k]] := List.take_succ_eq_append_getElem hk
  unfold aT
  rw [e, List.flatMap_append]
  simp

theorem bT_take : ∀ (k : Nat) {xs bs : List Int} {x : Int}, xs[k]? = some x → bT (xs.take (k + 1)) (bs.take (k + 1)) = bT (xs.take k) (bs.take k) ++ (wordT (idxT x) ++ match bs[k]? with | some b => sepT (b3 b) | none => [])
  | 0, x :: xs, [], _, h => by
    simp only [List.getElem?_cons_zero, Option.some.injEq] at h
    subst h
    simp [bT]
  | 0, x :: xs, b :: bs, _, h => by
    simp only [List.getElem?_cons_zero, Option.some.injEq] at h
    subst h
    simp [bT]
  | k + 1, x :: xs, [], _, h => by
    have := bT_take k (xs := xs) (bs := []) h
    simp only [List.take_nil, List.getElem?_nil] at this
    simp only [List.take_succ_cons, List.take_nil, bT, List.getElem?_nil]
    rw [this]
    simp
  | k + 1, x :: xs, b :: bs, _, h => by
    have := bT_take k (xs := xs) (bs := bs) h
    simp only [List.take_succ_cons, bT, List.getElem?_cons_succ]
    rw [this]
    simp
  | 0, [], _, _, h => by simp at h
  | k + 1, [], _, _, h => by simp at h

theorem wordT_len : ∀ j, (wordT j).length ≤ 5
  | 0 | 1 | 2 | 3 | 4 | 5 | 6 | 7 | 8 | 9 => by decide
  | _ + 10 => by show 2 ≤ 5; omega
theorem sepT_len : ∀ j, (sepT j).length ≤ 2
  | 0 | 1 | 2 => by decide
  | _ + 3 => by show 0 ≤ 2; omega

theorem aT_len (xs : List Int) : (aT xs).length ≤ xs.length * 5 := by
  unfold aT
  induction xs with
  | nil => simp
  | cons x xs ih =>
    have := wordT_len (idxT x)
    rw [List.flatMap_cons, List.length_append, List.length_cons]
    omega

theorem bT_len : ∀ (xs bs : List Int), (bT xs bs).length ≤ xs.length * 7
  | [], _ => by simp [bT]
  | x :: xs, [] => by
    have := wordT_len (idxT x)
    have := bT_len xs []
    simp only [bT, List.length_append, List.length_cons]
    omega
  | x :: xs, b :: bs => by
    have := wordT_len (idxT x)
    have := sepT_len (b3 b)
    have := bT_len xs bs
    simp only [bT, List.length_append, List.length_cons]
    omega

/-- the tokens -/
def toksT (xs : List Int) : List Tok := xs.map fun x => tokT (idxT x)

theorem run_aT : ∀ (xs : List Int) {L : Lex}, L.Rest → ∃ L', L.run (aT xs) = (L', toksT xs) ∧ L'.Rest
  | [], L, h => ⟨L, rfl, h⟩
  | x :: xs, L, h => by
    obtain ⟨L1, i1, i2⟩ := run_wordT h (idxT x) (idxT_lt x)
    obtain ⟨L2, j1, j2⟩ := run_aT xs i2
    refine ⟨L2, ?_, j2⟩
    have e : aT (x :: xs) = wordT (idxT x) ++ aT xs := rfl
    rw [e, Lex.run_append, i1, j1]
    rfl

theorem run_bT : ∀ (xs bs : List Int) {L : Lex}, L.Rest → ∃ L', L.run (bT xs bs) = (L', toksT xs) ∧ L'.Rest
  | [], _, L, h => ⟨L, rfl, h⟩
  | x :: xs, [], L, h => by
    obtain ⟨L1, i1, i2⟩ := run_wordT h (idxT x) (idxT_lt x)
    obtain ⟨L2, j1, j2⟩ := run_bT xs [] i2
    refine ⟨L2, ?_, j2⟩
    rw [bT, Lex.run_append, i1, j1]
    rfl
  | x :: xs, b :: bs, L, h => by
    obtain ⟨L1, i1, i2⟩ := run_wordT h (idxT x) (idxT_lt x)
    obtain ⟨L2, j1, j2⟩ := run_bT xs bs i2
    refine ⟨L2, ?_, j2⟩
    rw [bT, Lex.run_append, i1, Lex.run_append, run_sepT i2, j1]
    rfl

/-- each byte of such a text -/
theorem rest_prefix {T : List UInt8} {ts : List Tok} {L' : Lex} (h : Lex.new.run T = (L', ts)) (hr : L'.Rest) (k : Nat) : (Lex.new.run (T.take k)).1.e = 0 ∧ (Lex.new.run (T.take k)).2.length ≤ ts.length := by
  have he : T.take k ++ T.drop k = T := List.take_append_drop _ _
  constructor
  · refine Lex.run_e (m := T.drop k) ?_
    rw [he, h]
    exact hr.1
  · have := Lex.run_append Lex.new (T.take k) (T.drop k)
    rw [he, h] at this
    have h2 := congrArg (fun r => r.2.length) this
    simp only [List.length_append] at h2
    omega
end Go.Tru
