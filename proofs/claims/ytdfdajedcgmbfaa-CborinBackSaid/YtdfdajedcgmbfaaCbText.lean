/-
  A document, written as CBOR, is read as it was; cut anywhere it is not at its end; with a byte more it is none: plainly.
  A document's parts, handed to a Writer one by one, plainly: each may come; what is open behind each.
  A document, written as CBOR with counts that are not known, is read as it was: plainly.
-/
import Derived.Test.YtdfdajedcgmbfaaCborRuns
import Derived.Test.YtdfdajedcgmbfaaCbDoc
import Derived.Test.YtdfdajedcgmbfaaUtfPlain
import Derived.Test.YtdfdajedcgmbfaaWrPlainC
import Derived.Test.YtdfdajedcgmbfaaCoreModel

namespace Go.Tru

/-- a part's bytes -/
def partC (e : Ev) : List UInt8 :=
  if e.kind = 5 then headB 4 e.count.toNat
  else if e.kind = 6 then headB 5 e.count.toNat
  else if e.kind = 7 then []
  else leafC e

def bytesC (l : List Ev) : List UInt8 := l.flatMap partC
theorem bytesC_append (a b : List Ev) : bytesC (a ++ b) = bytesC a ++ bytesC b := by simp [bytesC]
theorem bytesC_cons (e : Ev) (b : List Ev) : bytesC (e :: b) = partC e ++ bytesC b := by simp [bytesC]

/-- these bytes give these parts, whatever comes behind -/
def Cb.Gives (p : Cb) (l : List UInt8) (es : List Ev) (q : Cb) : Prop := ∀ rest, p.run (l ++ rest) = (es ++ (q.run rest).1, (q.run rest).2)

theorem Cb.Gives.trans {p q r : Cb} {l m : List UInt8} {es fs : List Ev} (h : p.Gives l es q) (k : q.Gives m fs r) : p.Gives (l ++ m) (es ++ fs) r := fun rest => by
  rw [List.append_assoc, h, k]
  simp [List.append_assoc]

theorem Cb.Gives.conv {p q : Cb} {l m : List UInt8} {es fs : List Ev} (h : p.Gives l es q) (hl : l = m) (he : es = fs) : p.Gives m fs q := hl ▸ he ▸ h

/-- it waits for an item -/
structure Idle (d : Int) (st : List Cont) (dn : Bool) (p : Cb) : Prop where
  depth : p.c.depth = d
  opn : p.c.open_ = st
  done : p.c.done = dn
  e : p.c.e = 0
  lack : p.c.lack = 0
  s : p.c.s = []
  chunks : p.c.chunks = false
  begun : p.begun = false

def keyAt (st : List Cont) : Bool := match st with | [] => false | c :: _ => c.pairs && decide (c.parts % 2 = 0)

theorem Idle.new {d : Int} : Idle d [] false (Cb.new d) := ⟨rfl, rfl, rfl, rfl, rfl, rfl, rfl, rfl⟩
theorem Idle.key {d : Int} {st : List Cont} {dn : Bool} {p : Cb} (h : Idle d st dn p) : p.c.atKey = keyAt st := by unfold Core.atKey keyAt; rw [h.opn]; cases st <;> rfl

theorem Idle.step {d : Int} {st : List Cont} {dn : Bool} {p : Cb} (h : Idle d st dn p) (b : Int) : p.step b = p.item b := by
  unfold Cb.step
  rw [if_neg (by simp [h.e]), if_neg (by simp [h.lack]), if_neg (by simp [h.begun]), if_neg (by simp [h.chunks])]

/-- what a told value leaves -/
theorem Idle.told {d : Int} {st : List Cont} {p q : Cb} (h : Idle d st false p) (hc : q.c = p.c) (hb : q.begun = false) (ev : Ev) : Idle d (closeUp st).2.1 (closeUp st).2.2 (q.put (q.c.value ev)).2 := by
  refine ⟨?_, ?_, ?_, ?_, ?_, ?_, ?_, hb⟩
  · simp only [Cb.put, Core.value, hc, h.depth]
  · simp only [Cb.put, Core.value, hc, h.opn]
  · simp only [Cb.put, Core.value, hc, h.opn, h.done, Bool.false_or]
  · simp only [Cb.put, Core.value, hc, h.e]
  · simp only [Cb.put, Core.value, hc, h.lack]
  · simp only [Cb.put, Core.value, hc, h.s]
  · simp only [Cb.put, Core.value, hc, h.chunks]

/-- a step that tells a value -/
theorem Idle.gives {d : Int} {st : List Cont} {p : Cb} (h : Idle d st false p) {ev : Ev} {b : UInt8} (hs : p.item b.toNat = p.put (p.c.value ev)) :
    ∃ q, p.Gives [b] (ev :: (closeUp st).1) q ∧ Idle d (closeUp st).2.1 (closeUp st).2.2 q := by
  refine ⟨(p.put (p.c.value ev)).2, fun rest => ?_, h.told rfl h.begun ev⟩
  rw [List.cons_append, List.nil_append, cb_run_cons, h.step, hs, cb_cont_ok (by exact h.e)]
  simp only [Cb.put, Core.value, h.opn]

theorem Idle.done_step {d : Int} {st : List Cont} {p : Cb} (h : Idle d st true p) (b : UInt8) : p.run [b] = ([], 2) := by
  rw [cb_run_cons, h.step]
  unfold Cb.item
  rw [if_pos h.done, cb_cont_err (by simp [Cb.put, Core.fail])]
  simp [Cb.put, Core.fail]

/-! ### a leaf -/

theorem gives_null {d : Int} {st : List Cont} {p : Cb} (h : Idle d st false p) (hk : keyAt st = false) : ∃ q, p.Gives [246] (evNull :: (closeUp st).1) q ∧ Idle d (closeUp st).2.1 (closeUp st).2.2 q := by
  refine h.gives ?_
  show p.item 246 = _
  unfold Cb.item Cb.simple
  simp [h.done, h.key, hk]

theorem gives_bool {d : Int} {st : List Cont} {p : Cb} (h : Idle d st false p) (hk : keyAt st = false) (y : Bool) : ∃ q, p.Gives [if y then 245 else 244] (evBool y :: (closeUp st).1) q ∧ Idle d (closeUp st).2.1 (closeUp st).2.2 q := by
  refine h.gives ?_
  cases y
  · show p.item 244 = _
    unfold Cb.item Cb.simple
    simp [h.done, h.key, hk]
  · show p.item 245 = _
    unfold Cb.item Cb.simple
    simp [h.done, h.key, hk]

/-- a head where an item may be -/
theorem Idle.head {d : Int} {st : List Cont} {p : Cb} (h : Idle d st false p) {M v : Nat} (hM : M ≤ 5) (hv : v < 18446744073709551616) (hk : keyAt st = true → M = 3) (hf : M = 4 ∨ M = 5 → (st.length : Int) < d) (rest : List UInt8) :
    p.run (headB M v ++ rest) = Cb.cont (Cb.told { p with h := Hd.zero, begun := false } M v false) rest :=
  head_run hM hv h.e (by simp [h.lack]) rest (fun low hlow => item_first hM hlow h.e (by simp [h.lack]) h.begun h.chunks h.done (fun hh => hk (by rw [← h.key]; exact hh)) (fun hh => by
    have := hf hh
    unfold Core.full
    rw [h.depth, h.opn]
    simp; omega))

theorem gives_int {d : Int} {st : List Cont} {p : Cb} (h : Idle d st false p) (hk : keyAt st = false) (neg : Bool) (m : Nat) (hm : m < 2147483648) :
    ∃ q, p.Gives (headB (if neg then 1 else 0) m) (evInt neg m :: (closeUp st).1) q ∧ Idle d (closeUp st).2.1 (closeUp st).2.2 q := by
  refine ⟨(Cb.put { p with h := Hd.zero, begun := false } (p.c.value (evInt neg m))).2, fun rest => ?_, h.told (q := { p with h := Hd.zero, begun := false }) rfl rfl _⟩
  rw [h.head (by split <;> omega) (by omega) (by rw [hk]; intro hh; cases hh) (by intro hh; split at hh <;> omega)]
  have ht : Cb.told { p with h := Hd.zero, begun := false } ((if neg = true then 1 else 0 : Nat) : Int) m false = Cb.put { p with h := Hd.zero, begun := false } (p.c.value (evInt neg m)) := by
    unfold Cb.told
    cases neg <;> simp
  rw [ht, cb_cont_ok (by exact h.e)]
  simp only [Cb.put, Core.value, h.opn]

/-- a text's bytes, behind its length -/
theorem text_run (all rest : List UInt8) (hu : (Chk.zero.run all).whole = true) : ∀ (l pre : List UInt8) (p : Cb), all = pre ++ l → l ≠ [] → p.c.e = 0 → p.c.word = true → p.c.chunks = false → p.c.lack = l.length → p.c.s = pre → p.c.c = Chk.zero.run pre →
    p.run (l ++ rest) = Cb.cont (p.put (Core.text { p.c with s := all, lack := 0, c := Chk.zero.run all })) rest
  | [], _, _, _, h, _, _, _, _, _, _ => absurd rfl h
  | b :: l, pre, p, hall, _, he, hw, hc, hl, hs, hcc => by
    have hb : UInt8.ofNat ((b.toNat : Int)).toNat = b := by simp
    have hstep : p.step (b.toNat : Int) = p.put (p.c.byte b.toNat) := by
      unfold Cb.step
      rw [if_neg (by simp [he]), if_pos (by rw [hl]; simp only [List.length_cons]; omega)]
    rw [List.cons_append, cb_run_cons, hstep]
    have hall2 : all = (pre ++ [b]) ++ l := by rw [hall]; simp
    have hcz : p.c.c.step b.toNat = Chk.zero.run (pre ++ [b]) := by
      rw [hcc, Chk.run_append]; rfl
    have hnb : (Chk.zero.run (pre ++ [b])).bad = false := by
      cases hbad : (Chk.zero.run (pre ++ [b])).bad with
      | false => rfl
      | true =>
        rw [hall2, Chk.run_append, Chk.run_bad hbad] at hu
        simp [Chk.whole, hbad] at hu
    have hlen : p.c.lack - 1 = (l.length : Int) := by rw [hl]; simp only [List.length_cons]; omega
    have hbyte : p.c.byte b.toNat = if 0 < (l.length : Int) then ([], { p.c with s := pre ++ [b], lack := l.length, c := Chk.zero.run (pre ++ [b]) }) else Core.text { p.c with s := pre ++ [b], lack := l.length, c := Chk.zero.run (pre ++ [b]) } := by
      unfold Core.byte
      simp only [hw, if_true, hcz, hs, hb, hlen]
      rw [if_neg (by
        rintro ⟨_, h1 | ⟨h1, h2⟩⟩
        · rw [hnb] at h1; cases h1
        · have h3 : l = [] := List.length_eq_zero_iff.1 (by omega)
          rw [hall2, h3, List.append_nil] at hu
          rw [hu] at h2; cases h2)]
      simp [hc]
    rw [hbyte]
    cases l with
    | nil =>
      rw [if_neg (by simp), List.nil_append, hall2, List.append_nil]
      rfl
    | cons b2 l =>
      rw [if_pos (by simp only [List.length_cons]; omega)]
      show Cb.cont ([], { p with c := { p.c with s := pre ++ [b], lack := ((b2 :: l).length : Nat), c := Chk.zero.run (pre ++ [b]) } }) _ = _
      rw [cb_cont_none (by exact he)]
      exact text_run all rest hu (b2 :: l) (pre ++ [b]) { p with c := { p.c with s := pre ++ [b], lack := ((b2 :: l).length : Nat), c := Chk.zero.run (pre ++ [b]) } } hall2 (by simp) he hw hc rfl rfl rfl

/-- a text -/
theorem gives_text {d : Int} {st : List Cont} {p : Cb} (h : Idle d st false p) (t : ByteArray) (ht : t.size < 32) (hu : (Chk.zero.run t.data.toList).whole = true) :
    ∃ q, p.Gives (headB 3 t.size ++ t.data.toList) (evText t :: (closeUp st).1) q ∧ Idle d (closeUp st).2.1 (closeUp st).2.2 q := by
  have hlen : t.data.toList.length = t.size := by rw [Array.length_toList]; rfl
  have hbt : bytesOf t.data.toList = t := by unfold bytesOf; apply ByteArray.ext; simp
  have hev : wordEv true t.data.toList = evText t := by unfold wordEv; rw [if_pos rfl, hbt]
  have hhead := fun rest => h.head (M := 3) (v := t.size) (by omega) (by omega) (fun _ => rfl) (by intro hh; omega) rest
  have htold : Cb.told { p with h := Hd.zero, begun := false } ((3 : Nat) : Int) (t.size : Int) false = Cb.put { p with h := Hd.zero, begun := false } (p.c.length true (t.size : Int)) := by
    unfold Cb.told
    simp
  rw [htold] at hhead
  by_cases h0 : t.size = 0
  · have hnil : t.data.toList = [] := List.length_eq_zero_iff.1 (by omega)
    have hl : p.c.length true (t.size : Int) = Core.text { p.c with word := true, lack := 0, c := Chk.zero } := by
      unfold Core.length
      rw [if_neg (by rw [h.s]; simp; omega)]
      simp only [h0, h.chunks]
      simp
    rw [hl] at hhead
    refine ⟨(Cb.put { p with h := Hd.zero, begun := false } (Core.text { p.c with word := true, lack := 0, c := Chk.zero })).2, fun rest => ?_, ?_⟩
    · rw [hnil, List.append_nil, hhead, cb_cont_ok (by exact h.e)]
      have : wordEv true p.c.s = evText t := by
        rw [h.s, ← hnil]; exact hev
      simp only [Cb.put, Core.text, Core.value, h.opn, this]
    · refine ⟨h.depth, ?_, ?_, h.e, rfl, rfl, rfl, rfl⟩
      · simp only [Cb.put, Core.text, Core.value, h.opn]
      · simp only [Cb.put, Core.text, Core.value, h.opn, h.done, Bool.false_or]
  · have hl : p.c.length true (t.size : Int) = ([], { p.c with word := true, lack := (t.size : Int), c := Chk.zero }) := by
      unfold Core.length
      rw [if_neg (by rw [h.s]; simp; omega)]
      simp only []
      rw [if_pos (Or.inl (by omega))]
    rw [hl] at hhead
    have hne : t.data.toList ≠ [] := fun hh => h0 (by rw [← hlen, hh]; rfl)
    refine ⟨(Cb.put { p with h := Hd.zero, begun := false } (Core.text { p.c with word := true, s := t.data.toList, lack := 0, c := Chk.zero.run t.data.toList })).2, fun rest => ?_, ?_⟩
    · rw [List.append_assoc, hhead]
      show Cb.cont ([], { p with h := Hd.zero, begun := false, c := { p.c with word := true, lack := (t.size : Int), c := Chk.zero } }) _ = _
      rw [cb_cont_none (by exact h.e)]
      rw [text_run t.data.toList rest hu t.data.toList [] { p with h := Hd.zero, begun := false, c := { p.c with word := true, lack := (t.size : Int), c := Chk.zero } } rfl hne h.e rfl h.chunks (by simp only []; rw [hlen]) h.s rfl]
      rw [cb_cont_ok (by exact h.e)]
      simp only [Cb.put, Core.text, Core.value, h.opn, hev]
    · refine ⟨h.depth, ?_, ?_, h.e, rfl, rfl, rfl, rfl⟩
      · simp only [Cb.put, Core.text, Core.value, h.opn]
      · simp only [Cb.put, Core.text, Core.value, h.opn, h.done, Bool.false_or]

/-! ### containers, documents -/

theorem gives_open {d : Int} {st : List Cont} {p : Cb} (h : Idle d st false p) (hk : keyAt st = false) (hd : (st.length : Int) < d) (m : Bool) (n : Nat) (hn : 0 < n) (hn2 : n < 16) :
    ∃ q, p.Gives (headB (if m then 5 else 4) n) [beginEv m n] q ∧ Idle d (⟨m, n, 0⟩ :: st) false q := by
  refine ⟨(Cb.put { p with h := Hd.zero, begun := false } ([beginEv m n], { p.c with open_ := ⟨m, n, 0⟩ :: st })).2, fun rest => ?_, ⟨h.depth, rfl, h.done, h.e, h.lack, h.s, h.chunks, rfl⟩⟩
  rw [h.head (by split <;> omega) (by omega) (by rw [hk]; intro hh; cases hh) (fun _ => hd)]
  have ht : Cb.told { p with h := Hd.zero, begun := false } ((if m = true then 5 else 4 : Nat) : Int) n false = Cb.put { p with h := Hd.zero, begun := false } ([beginEv m n], { p.c with open_ := ⟨m, n, 0⟩ :: st }) := by
    have h1 : ¬ (1000000 : Int) < n := by omega
    have h2 : ¬ (n : Int) = 0 := by omega
    have h3 : ¬ n = 0 := by omega
    unfold Cb.told Core.begin
    cases m <;> simp [h1, h.opn, h3]
  rw [ht, cb_cont_ok (by exact h.e)]
  rfl

theorem gives_empty {d : Int} {st : List Cont} {p : Cb} (h : Idle d st false p) (hk : keyAt st = false) (hd : (st.length : Int) < d) (m : Bool) :
    ∃ q, p.Gives (headB (if m then 5 else 4) 0) (beginEv m (0 : Nat) :: evEnd :: (closeUp st).1) q ∧ Idle d (closeUp st).2.1 (closeUp st).2.2 q := by
  refine ⟨(Cb.put { p with h := Hd.zero, begun := false } (p.c.value evEnd)).2, fun rest => ?_, h.told (q := { p with h := Hd.zero, begun := false }) rfl rfl _⟩
  rw [h.head (by split <;> omega) (by omega) (by rw [hk]; intro hh; cases hh) (fun _ => hd)]
  have ht : Cb.told { p with h := Hd.zero, begun := false } ((if m = true then 5 else 4 : Nat) : Int) ((0 : Nat) : Int) false = Cb.put { p with h := Hd.zero, begun := false } (beginEv m 0 :: (p.c.value evEnd).1, (p.c.value evEnd).2) := by
    unfold Cb.told Core.begin
    cases m <;> simp
  rw [ht, cb_cont_ok (by exact h.e)]
  simp only [Cb.put, Core.value, h.opn]
  rfl

theorem docTab_whole (n : Nat) {c : Chk} (h : c.whole = true) : (c.run (docTab n)).whole = true := by
  obtain ⟨la, lo, hi, bd⟩ := c
  simp only [Chk.whole, Bool.and_eq_true, Bool.not_eq_true', decide_eq_true_eq] at h
  obtain ⟨rfl, rfl⟩ := h
  unfold docTab
  split <;> rfl

theorem textGo_whole (x : Nat) : ∀ (k : Nat) {c : Chk}, c.whole = true → (c.run (textGo x k)).whole = true
  | 0, _, h => h
  | k + 1, _, h => by
    rw [textGo, Chk.run_append]
    exact textGo_whole x k (docTab_whole _ h)

theorem gives_leaf {d : Int} {st : List Cont} {p : Cb} (h : Idle d st false p) (hk : keyAt st = false) {x : Nat} (hx : x < 65536) :
    ∃ q, p.Gives (bytesC (docLeaf x)) (docLeaf x ++ (closeUp st).1) q ∧ Idle d (closeUp st).2.1 (closeUp st).2.2 q := by
  unfold docLeaf
  by_cases h0 : x % 8 = 0
  · rw [if_pos h0]
    obtain ⟨q, h1, h2⟩ := gives_null h hk
    exact ⟨q, h1.conv (by simp [bytesC, partC, leafC, evNull]) rfl, h2⟩
  rw [if_neg h0]
  by_cases h1 : x % 8 = 1
  · rw [if_pos h1]
    obtain ⟨q, h1, h2⟩ := gives_bool h hk (decide (x / 8 % 2 = 1))
    exact ⟨q, h1.conv (by simp [bytesC, partC, leafC, evBool]) rfl, h2⟩
  rw [if_neg h1]
  by_cases h2 : x % 8 = 2 ∨ x % 8 = 3
  · rw [if_pos h2]
    have hm : (x * x) >>> (x % 8) < 2147483648 := by
      have hxx : x * x < 65536 * 65536 := Nat.mul_lt_mul_of_lt_of_lt hx hx
      rw [Nat.shiftRight_eq_div_pow]
      rcases h2 with h2 | h2 <;> rw [h2] <;> omega
    obtain ⟨q, h1, h2⟩ := gives_int h hk (decide (x / 8 % 2 = 1)) ((x * x) >>> (x % 8)) hm
    exact ⟨q, h1.conv (by simp only [bytesC, List.flatMap_cons, List.flatMap_nil, List.append_nil]; rfl) rfl, h2⟩
  rw [if_neg h2]
  by_cases h3 : x % 8 = 4
  · rw [if_pos h3]
    obtain ⟨q, h1, h2⟩ := gives_text h (docText x) (by have := docText_size x; omega) (by exact textGo_whole x _ rfl)
    exact ⟨q, h1.conv (by simp [bytesC, partC, leafC, evText]) rfl, h2⟩
  rw [if_neg h3]
  by_cases h4 : x % 8 = 5
  · rw [if_pos h4]
    obtain ⟨q, h1, h2⟩ := gives_text h noText (by decide) (by rfl)
    exact ⟨q, h1.conv (by simp [bytesC, partC, leafC, evText]) rfl, h2⟩
  rw [if_neg h4]
  obtain ⟨q, h1, h2⟩ := gives_int h hk false x (by omega)
  exact ⟨q, h1.conv (by simp only [bytesC, List.flatMap_cons, List.flatMap_nil, List.append_nil]; rfl) rfl, h2⟩

theorem closeUp_no {c : Cont} {r : List Cont} (h : ({ c with parts := c.parts + 1 } : Cont).met = false) : closeUp (c :: r) = ([], { c with parts := c.parts + 1 } :: r, false) := by
  unfold closeUp; rw [if_neg (by simp [h])]
theorem closeUp_yes {c : Cont} {r : List Cont} (h : ({ c with parts := c.parts + 1 } : Cont).met = true) : closeUp (c :: r) = (evEnd :: (closeUp r).1, (closeUp r).2.1, (closeUp r).2.2) := by
  rw [closeUp, if_pos h]

/-- what an item gives -/
def ItemGives (d : Int) (k : Nat) : Prop := ∀ (l : List Int) (st : List Cont) (p : Cb), Idle d st false p → (st.length : Int) + k ≤ d → keyAt st = false →
  ∃ q, p.Gives (bytesC (docItem k l).1) ((docItem k l).1 ++ (closeUp st).1) q ∧ Idle d (closeUp st).2.1 (closeUp st).2.2 q

theorem arr_gives {d : Int} {k : Nat} (ih : ItemGives d k) (st : List Cont) (hd : (st.length : Int) + (k + 1) ≤ d) (n : Nat) : ∀ (m j : Nat) (l : List Int) (p : Cb), j + (m + 1) = n → Idle d (⟨false, n, j⟩ :: st) false p →
    ∃ q, p.Gives (bytesC (rep (docItem k) (m + 1) l).1) ((rep (docItem k) (m + 1) l).1 ++ evEnd :: (closeUp st).1) q ∧ Idle d (closeUp st).2.1 (closeUp st).2.2 q
  | 0, j, l, p, hj, h => by
    obtain ⟨q, h1, h2⟩ := ih l (⟨false, n, j⟩ :: st) p h (by simp only [List.length_cons]; omega) rfl
    rw [closeUp_yes (by simp [Cont.met]; omega)] at h1 h2
    exact ⟨q, h1.conv (by simp [rep]) (by simp [rep]), h2⟩
  | m + 1, j, l, p, hj, h => by
    obtain ⟨q, h1, h2⟩ := ih l (⟨false, n, j⟩ :: st) p h (by simp only [List.length_cons]; omega) rfl
    rw [closeUp_no (by simp [Cont.met]; omega)] at h1 h2
    obtain ⟨r, h3, h4⟩ := arr_gives ih st hd n m (j + 1) (docItem k l).2 q (by omega) (by simpa using h2)
    have er : (rep (docItem k) (m + 1 + 1) l).1 = (docItem k l).1 ++ (rep (docItem k) (m + 1) (docItem k l).2).1 := rfl
    refine ⟨r, (h1.trans h3).conv ?_ ?_, h4⟩
    · rw [er, bytesC_append]
    · rw [er]; simp

theorem map_gives {d : Int} {k : Nat} (ih : ItemGives d k) (st : List Cont) (hd : (st.length : Int) + (k + 1) ≤ d) (n : Nat) : ∀ (m j : Nat) (l : List Int) (p : Cb), j + (m + 1) = n → Idle d (⟨true, n, 2 * j⟩ :: st) false p →
    ∃ q, p.Gives (bytesC (rep (docPair (docItem k)) (m + 1) l).1) ((rep (docPair (docItem k)) (m + 1) l).1 ++ evEnd :: (closeUp st).1) q ∧ Idle d (closeUp st).2.1 (closeUp st).2.2 q
  | m, j, l, p, hj, h => by
    obtain ⟨q0, g1, g2⟩ := gives_text h (docText (nx l).1) (by have := docText_size (nx l).1; omega) (by exact textGo_whole _ _ rfl)
    rw [closeUp_no (by simp [Cont.met] <;> omega)] at g1 g2
    have g2' : Idle d (⟨true, n, 2 * j + 1⟩ :: st) false q0 := by simpa using g2
    obtain ⟨q, h1, h2⟩ := ih (nx l).2 (⟨true, n, 2 * j + 1⟩ :: st) q0 g2' (by simp only [List.length_cons]; omega) (by simp [keyAt] <;> omega)
    have e1 : bytesC (docPair (docItem k) l).1 = (headB 3 (docText (nx l).1).size ++ (docText (nx l).1).data.toList) ++ bytesC (docItem k (nx l).2).1 := by
      simp [docPair, bytesC_cons, partC, leafC, evText]
    cases m with
    | zero =>
      rw [closeUp_yes (by simp [Cont.met] <;> omega)] at h1 h2
      refine ⟨q, (g1.trans h1).conv ?_ ?_, h2⟩
      · rw [← e1]; simp [rep]
      · simp [rep, docPair]
    | succ m =>
      rw [closeUp_no (by simp [Cont.met] <;> omega)] at h1 h2
      obtain ⟨r, h3, h4⟩ := map_gives ih st hd n m (j + 1) (docPair (docItem k) l).2 q (by omega) (by
        have e : ((2 * (j + 1 : Nat) : Nat) : Int) = 2 * (j : Int) + 1 + 1 := by omega
        have e' : (2 * ((j + 1 : Nat) : Int)) = 2 * (j : Int) + 1 + 1 := by omega
        rw [e']
        simpa using h2)
      have er : (rep (docPair (docItem k)) (m + 1 + 1) l).1 = (docPair (docItem k) l).1 ++ (rep (docPair (docItem k)) (m + 1) (docPair (docItem k) l).2).1 := rfl
      refine ⟨r, ((g1.trans h1).trans h3).conv ?_ ?_, h4⟩
      · rw [← e1, er, bytesC_append]
      · rw [er]; simp [docPair]

theorem item_gives (d : Int) : ∀ k, ItemGives d k
  | 0 => fun l st p h hd hk => gives_leaf h hk (nx_small l)
  | k + 1 => fun l st p h hd hk => by
    have ih := item_gives d k
    unfold docItem
    by_cases h5 : (nx l).1 % 8 < 5
    · rw [if_pos h5]; exact gives_leaf h hk (nx_small l)
    rw [if_neg h5]
    have hd1 : (st.length : Int) < d := by omega
    have hd2 : (st.length : Int) + (k + 1) ≤ d := by omega
    by_cases h6 : (nx l).1 % 8 = 5
    · rw [if_pos h6]
      obtain ⟨n, hn⟩ : ∃ n, (nx l).1 / 8 % 4 = n := ⟨_, rfl⟩
      have hn4 : n < 4 := by omega
      rw [hn]
      have eb : partC (evArr (n : Int)) = headB (if false = true then 5 else 4) n := by simp [partC, evArr]
      have ee : partC evEnd = [] := by simp [partC, evEnd]
      cases n with
      | zero =>
        obtain ⟨q, h1, h2⟩ := gives_empty h hk hd1 false
        refine ⟨q, h1.conv ?_ ?_, h2⟩
        · simp only [rep, List.cons_append, List.nil_append, bytesC_cons, eb, ee]; simp [bytesC]
        · simp [rep, beginEv]
      | succ m =>
        obtain ⟨q, h1, h2⟩ := gives_open h hk hd1 false (m + 1) (by omega) (by omega)
        obtain ⟨r, h3, h4⟩ := arr_gives ih st hd2 (m + 1) m 0 (nx l).2 q (by omega) (by simpa using h2)
        refine ⟨r, (h1.trans h3).conv ?_ ?_, h4⟩
        · simp only [List.cons_append, bytesC_cons, bytesC_append, eb, ee]; simp [bytesC]
        · simp [beginEv]
    · rw [if_neg h6]
      obtain ⟨n, hn⟩ : ∃ n, (nx l).1 / 8 % 3 = n := ⟨_, rfl⟩
      have hn4 : n < 3 := by omega
      rw [hn]
      have eb : partC (evMap (n : Int)) = headB (if true = true then 5 else 4) n := by simp [partC, evMap]
      have ee : partC evEnd = [] := by simp [partC, evEnd]
      cases n with
      | zero =>
        obtain ⟨q, h1, h2⟩ := gives_empty h hk hd1 true
        refine ⟨q, h1.conv ?_ ?_, h2⟩
        · simp only [rep, List.cons_append, List.nil_append, bytesC_cons, eb, ee]; simp [bytesC]
        · simp [rep, beginEv]
      | succ m =>
        obtain ⟨q, h1, h2⟩ := gives_open h hk hd1 true (m + 1) (by omega) (by omega)
        obtain ⟨r, h3, h4⟩ := map_gives ih st hd2 (m + 1) m 0 (nx l).2 q (by omega) (by simpa using h2)
        refine ⟨r, (h1.trans h3).conv ?_ ?_, h4⟩
        · simp only [List.cons_append, bytesC_cons, bytesC_append, eb, ee]; simp [bytesC]
        · simp [beginEv]

/-- the document, whole -/
theorem doc_gives (l : List Int) (dep : Nat) : ∃ q, (Cb.new dep).Gives (bytesC (doc l dep)) (doc l dep) q ∧ Idle dep [] true q := by
  obtain ⟨q, h1, h2⟩ := item_gives dep dep l [] (Cb.new dep) Idle.new (by simp) rfl
  exact ⟨q, h1.conv rfl (by simp [doc, closeUp]), h2⟩

theorem back_all (l : List Int) (dep : Nat) (h : 1 ≤ dep ∧ dep ≤ 16) : cborAll (bytesC (doc l dep)) dep = (doc l dep, 0) := by
  obtain ⟨q, h1, h2⟩ := doc_gives l dep
  have := h1 []
  rw [List.append_nil] at this
  unfold cborAll
  rw [if_neg (by omega), this]
  simp [Cb.run, Core.over, h2.e, h2.done]

theorem more_all (l : List Int) (dep : Nat) (h : 1 ≤ dep ∧ dep ≤ 16) (b : UInt8) : cborAll (bytesC (doc l dep) ++ [b]) dep = (doc l dep, 2) := by
  obtain ⟨q, h1, h2⟩ := doc_gives l dep
  unfold cborAll
  rw [if_neg (by omega), h1 [b], h2.done_step]
  simp

/-! ### cut -/

/-- where the document is at its end nothing is open -/
structure Still (p : Cb) : Prop where
  sep : 0 < p.c.lack → p.begun = false
  chunk : p.c.chunks = true → p.c.done = false
  maj : p.begun = true → p.c.chunks = true → (p.h.major = 2 ∨ p.h.major = 3)
  end_ : p.c.done = true → ¬ 0 < p.c.lack ∧ p.begun = false

theorem still_done {p : Cb} (hl : ¬ 0 < p.c.lack) (hb : p.begun = false) (hc : p.c.chunks = false) : Still p := ⟨fun _ => hb, fun h => absurd (hc.symm.trans h) (by decide), fun _ h => absurd (hc.symm.trans h) (by decide), fun _ => ⟨hl, hb⟩⟩
theorem still_open {p : Cb} (hb : p.begun = false) (hd : p.c.done = false) : Still p := ⟨fun _ => hb, fun _ => hd, fun h => absurd (hb.symm.trans h) (by decide), fun h => absurd (hd.symm.trans h) (by decide)⟩

theorem still_begin {p : Cb} (hd : p.c.done = false) (hb : p.begun = false) (hl : ¬ 0 < p.c.lack) (hc : p.c.chunks = false) (m : Bool) (n : Int) : Still (p.put (p.c.begin m n)).2 := by
  unfold Core.begin
  split
  · exact still_done hl hb hc
  · exact still_open hb hd

theorem still_length {p : Cb} (hd : p.c.done = false) (hb : p.begun = false) (w : Bool) (n : Int) : Still (p.put (p.c.length w n)).2 := by
  unfold Core.length
  split
  · exact still_open hb hd
  · simp only []
    split
    · exact still_open hb hd
    · rename_i hn
      refine still_done ?_ hb rfl
      simp only [Cb.put, Core.text, Core.value]
      intro h0
      exact hn (Or.inl h0)

theorem still_told {p : Cb} (hd : p.c.done = false) (hb : p.begun = false) (hl : ¬ 0 < p.c.lack) {major v : Int} {wo : Bool} (hm : p.c.chunks = true → major = 2 ∨ major = 3) : Still (p.told major v wo).2 := by
  have hc : ¬ (major = 2 ∨ major = 3) → p.c.chunks = false := fun h => by
    cases hh : p.c.chunks with
    | false => rfl
    | true => exact absurd (hm hh) h
  unfold Cb.told
  by_cases h01 : major = 0 ∨ major = 1
  · rw [if_pos h01]
    exact still_done hl hb (hc (by omega))
  rw [if_neg h01]
  by_cases h23 : major = 2 ∨ major = 3
  · rw [if_pos h23]
    split
    · exact still_open hb hd
    · exact still_length hd hb _ _
  · rw [if_neg h23]
    split
    · exact still_begin hd hb hl (hc h23) _ _
    · split
      · exact still_open hb hd
      · exact still_begin hd hb hl (hc h23) _ _

theorem still_first {p : Cb} (hd : p.c.done = false) (hl : ¬ 0 < p.c.lack) {b : Int} (hm : p.c.chunks = true → b / 32 = 2 ∨ b / 32 = 3) : Still (p.first b).2 := by
  unfold Cb.first
  split
  · exact still_told (p := { p with h := Hd.zero, begun := false }) hd rfl hl hm
  · split
    · exact ⟨fun h => absurd h hl, fun _ => hd, fun _ h => hm h, fun h => absurd (hd.symm.trans h) (by decide)⟩
    · split
      · exact still_told (p := { p with h := Hd.zero, begun := false }) hd rfl hl hm
      · exact ⟨fun h => absurd h hl, fun _ => hd, fun _ h => hm h, fun h => absurd (hd.symm.trans h) (by decide)⟩

theorem still_fail {p : Cb} (h : Still p) (e : Int) : Still (p.put (p.c.fail e)).2 := ⟨h.sep, h.chunk, h.maj, h.end_⟩

theorem still_step {p : Cb} (h : Still p) (he : p.c.e = 0) (b : Int) : Still (p.step b).2 := by
  unfold Cb.step
  rw [if_neg (by simp [he])]
  by_cases hl : 0 < p.c.lack
  · rw [if_pos hl]
    have hk := h.sep hl
    have hd : p.c.done = false := by
      cases hd : p.c.done with
      | false => rfl
      | true => exact absurd hl (h.end_ hd).1
    unfold Core.byte
    generalize (if p.c.word = true then p.c.c.step b else p.c.c) = c'
    simp only []
    split
    · exact still_open hk hd
    · split
      · exact still_open hk hd
      · rename_i h2
        refine still_done ?_ hk rfl
        simp only [Cb.put, Core.text, Core.value]
        intro h0
        exact h2 (Or.inl h0)
  · rw [if_neg hl]
    by_cases hb : p.begun = true
    · rw [if_pos hb]
      have hd : p.c.done = false := by
        cases hd : p.c.done with
        | false => rfl
        | true => have := (h.end_ hd).2; rw [hb] at this; cases this
      unfold Cb.more
      split
      · exact ⟨fun hh => absurd hh hl, fun _ => hd, fun _ hc => h.maj hb hc, fun hh => absurd (hd.symm.trans hh) (by decide)⟩
      · exact still_told (p := { p with h := Hd.zero, begun := false }) hd rfl hl (fun hc => h.maj hb hc)
    · rw [if_neg hb]
      have hb' : p.begun = false := by simpa using hb
      by_cases hc : p.c.chunks = true
      · rw [if_pos hc]
        have hd := h.chunk hc
        unfold Cb.chunk
        by_cases h255 : b = 255
        · rw [if_pos h255]; exact still_done hl hb' rfl
        · rw [if_neg h255]
          by_cases h2 : b / 32 ≠ (if p.c.word = true then 3 else 2) ∨ b % 32 = 31
          · rw [if_pos h2]; exact still_fail h 2
          · rw [if_neg h2]
            refine still_first hd hl (fun _ => ?_)
            have h3 : b / 32 = if p.c.word = true then 3 else 2 := by
              have := fun hx => h2 (Or.inl hx)
              exact Decidable.not_not.1 this
            rw [h3]
            split <;> simp
      · rw [if_neg hc]
        have hc' : p.c.chunks = false := by simpa using hc
        have hcc : ∀ {x : Int}, p.c.chunks = true → x / 32 = 2 ∨ x / 32 = 3 := fun hx => absurd hx hc
        unfold Cb.item
        by_cases hd : p.c.done = true
        · rw [if_pos hd]; exact still_fail h 2
        rw [if_neg hd]
        have hd' : p.c.done = false := by simpa using hd
        split
        · exact still_fail h 2
        · split
          · unfold Core.brk
            split
            · exact still_fail h 2
            · split
              · exact still_fail h 2
              · exact still_done hl hb' hc'
          · split
            · exact still_fail h 8
            · split
              · unfold Cb.simple
                repeat' split
                all_goals first | exact still_done hl hb' hc' | exact still_fail h _
              · split
                · exact still_fail h 4
                · exact still_first hd' hl hcc

/-- a beginning of what is read without an error, to whose end a byte lacks: it comes too early -/
theorem cut_run : ∀ (l : List UInt8) (p : Cb) (b : UInt8) (r : List UInt8), Still p → p.c.e = 0 → (p.run (l ++ b :: r)).2 = 0 → (p.run l).2 = 3
  | [], p, b, r, h, he, h0 => by
    cases hd : p.c.done with
    | false => simp [Cb.run, Core.over, he, hd]
    | true =>
      obtain ⟨h1, h2⟩ := h.end_ hd
      have h3 : p.c.chunks = false := by
        cases hc : p.c.chunks with
        | false => rfl
        | true => have := h.chunk hc; rw [hd] at this; cases this
      rw [List.nil_append, cb_run_cons] at h0
      unfold Cb.step at h0
      rw [if_neg (by simp [he]), if_neg h1, if_neg (by simp [h2]), if_neg (by simp [h3])] at h0
      unfold Cb.item at h0
      rw [if_pos hd, cb_cont_err (by simp [Cb.put, Core.fail])] at h0
      simp [Cb.put, Core.fail] at h0
  | a :: l, p, b, r, h, he, h0 => by
    rw [List.cons_append, cb_run_cons] at h0
    rw [cb_run_cons]
    by_cases hq : (p.step a.toNat).2.c.e = 0
    · rw [cb_cont_ok hq] at h0 ⊢
      exact cut_run l _ b r (still_step h he _) hq h0
    · rw [cb_cont_err hq] at h0
      exact absurd h0 hq

theorem cut_all (l : List Int) (dep : Nat) (h : 1 ≤ dep ∧ dep ≤ 16) (k : Nat) (hk : k < (bytesC (doc l dep)).length) : (cborAll ((bytesC (doc l dep)).take k) dep).2 = 3 := by
  have h1 := back_all l dep h
  unfold cborAll at h1 ⊢
  rw [if_neg (by omega)] at h1 ⊢
  have e : bytesC (doc l dep) = (bytesC (doc l dep)).take k ++ (bytesC (doc l dep))[k] :: (bytesC (doc l dep)).drop (k + 1) := by
    rw [← List.drop_eq_getElem_cons hk, List.take_append_drop]
  refine cut_run _ _ (bytesC (doc l dep))[k] ((bytesC (doc l dep)).drop (k + 1)) (still_open rfl rfl) rfl ?_
  rw [← e, h1]
end Go.Tru

namespace Go.Tru

/-- one part more in the innermost container -/
def bump1 : List Cont → List Cont
  | [] => []
  | c :: s => { c with parts := c.parts + 1 } :: s

/-- what is open behind a part -/
def wNext (s : List Cont) (e : Ev) : List Cont :=
  if e.kind = 7 then s.tail
  else if e.kind = 5 ∨ e.kind = 6 then ⟨decide (e.kind = 6), e.count, 0⟩ :: bump1 s
  else bump1 s

/-- a leaf of a document -/
def DLeaf (e : Ev) : Prop := e = evNull ∨ (∃ b, e = evBool b) ∨ (∃ b, ∃ m : Nat, m < 2147483648 ∧ e = evInt b m) ∨ (∃ t : ByteArray, t.size ≤ 28 ∧ e = evText t)

def roomOf (c : Cont) : Int := if c.pairs = true then 2 * c.count else c.count

structure CFit (c : Cont) : Prop where
  count : 0 ≤ c.count ∧ c.count ≤ 1000
  parts : 0 ≤ c.parts ∧ c.parts ≤ 3000

/-- a value may come here -/
def ValOk (s : List Cont) : Prop := s = [] ∨ ∃ c r, s = c :: r ∧ CFit c ∧ c.parts < roomOf c ∧ (c.pairs = true → c.parts % 2 = 1)
/-- a key may come here -/
def KeyOk (s : List Cont) : Prop := ∃ c r, s = c :: r ∧ CFit c ∧ c.parts < roomOf c ∧ c.pairs = true ∧ c.parts % 2 = 0
/-- it is at its end -/
def EndOk (s : List Cont) : Prop := ∃ c r, s = c :: r ∧ CFit c ∧ c.parts = roomOf c

/-- a part may come here -/
def WOk (s : List Cont) (e : Ev) : Prop :=
  s.length ≤ 20 ∧ ((DLeaf e ∧ ValOk s) ∨ ((∃ t : ByteArray, t.size ≤ 28 ∧ e = evText t) ∧ KeyOk s) ∨ ((∃ (m : Bool) (n : Nat), n < 16 ∧ e = beginEv m n) ∧ ValOk s) ∨ (e = evEnd ∧ EndOk s))

/-- parts, one behind the other; between them at least so much is open -/
inductive Tr (n : Nat) : List Cont → List Ev → List Cont → Prop
  | nil {s : List Cont} : Tr n s [] s
  | cons {s t : List Cont} {e : Ev} {r : List Ev} (h : WOk s e) (hn : r ≠ [] → n ≤ (wNext s e).length) (hr : Tr n (wNext s e) r t) : Tr n s (e :: r) t

theorem Tr.one {n : Nat} {s : List Cont} {e : Ev} (h : WOk s e) : Tr n s [e] (wNext s e) := Tr.cons h (fun h => absurd rfl h) Tr.nil

theorem Tr.mono {n m : Nat} (hm : m ≤ n) {s t : List Cont} {l : List Ev} (h : Tr n s l t) : Tr m s l t := by
  induction h with
  | nil => exact Tr.nil
  | cons h hn _ ih => exact Tr.cons h (fun hr => Nat.le_trans hm (hn hr)) ih

theorem Tr.append {n : Nat} {s t u : List Cont} {a b : List Ev} (h : Tr n s a t) (k : Tr n t b u) (hn : n ≤ t.length) : Tr n s (a ++ b) u := by
  induction h with
  | nil => exact k
  | @cons s t e r h h2 hr ih =>
    refine Tr.cons h (fun _ => ?_) (ih k hn)
    cases r with
    | nil =>
      cases hr
      exact hn
    | cons x r => exact h2 (by simp)

theorem bump1_len (s : List Cont) : (bump1 s).length = s.length := by cases s <;> rfl

theorem next_leaf {s : List Cont} {e : Ev} (h : DLeaf e) : wNext s e = bump1 s := by
  rcases h with rfl | ⟨b, rfl⟩ | ⟨b, m, _, rfl⟩ | ⟨t, _, rfl⟩ <;> simp [wNext, evNull, evBool, evInt, evText]

theorem next_open (s : List Cont) (m : Bool) (n : Nat) : wNext s (beginEv m n) = ⟨m, n, 0⟩ :: bump1 s := by
  cases m <;> simp [wNext, beginEv, evArr, evMap]

theorem next_end (s : List Cont) : wNext s evEnd = s.tail := by simp [wNext, evEnd]

theorem leaf_doc {x : Nat} (hx : x < 65536) : ∃ e, docLeaf x = [e] ∧ DLeaf e := by
  unfold docLeaf
  by_cases h0 : x % 8 = 0
  · rw [if_pos h0]; exact ⟨_, rfl, Or.inl rfl⟩
  rw [if_neg h0]
  by_cases h1 : x % 8 = 1
  · rw [if_pos h1]; exact ⟨_, rfl, Or.inr (Or.inl ⟨_, rfl⟩)⟩
  rw [if_neg h1]
  by_cases h2 : x % 8 = 2 ∨ x % 8 = 3
  · rw [if_pos h2]
    have hm : (x * x) >>> (x % 8) < 2147483648 := by
      have hxx : x * x < 65536 * 65536 := Nat.mul_lt_mul_of_lt_of_lt hx hx
      rw [Nat.shiftRight_eq_div_pow]
      rcases h2 with h2 | h2 <;> rw [h2] <;> omega
    exact ⟨_, rfl, Or.inr (Or.inr (Or.inl ⟨_, _, hm, rfl⟩))⟩
  rw [if_neg h2]
  by_cases h3 : x % 8 = 4
  · rw [if_pos h3]; exact ⟨_, rfl, Or.inr (Or.inr (Or.inr ⟨_, docText_size x, rfl⟩))⟩
  rw [if_neg h3]
  by_cases h4 : x % 8 = 5
  · rw [if_pos h4]; exact ⟨_, rfl, Or.inr (Or.inr (Or.inr ⟨noText, by decide, rfl⟩))⟩
  rw [if_neg h4]; exact ⟨_, rfl, Or.inr (Or.inr (Or.inl ⟨_, x, by omega, rfl⟩))⟩

def ItemTr (k : Nat) : Prop := ∀ (l : List Int) (s : List Cont), ValOk s → s.length + k ≤ 20 → Tr (s.length + 1) s (docItem k l).1 (bump1 s)

theorem tr_leaf {x : Nat} (hx : x < 65536) {s : List Cont} (h : ValOk s) (hs : s.length ≤ 20) : Tr (s.length + 1) s (docLeaf x) (bump1 s) := by
  obtain ⟨e, he, hl⟩ := leaf_doc hx
  rw [he, ← next_leaf hl]
  exact Tr.one ⟨hs, Or.inl ⟨hl, h⟩⟩

theorem arr_tr {k : Nat} (ih : ItemTr k) (s : List Cont) (hs : s.length + (k + 1) ≤ 20) (n : Nat) (hn : n < 16) : ∀ (m j : Nat) (l : List Int), j + m = n → Tr (s.length + 1) (⟨false, n, j⟩ :: s) (rep (docItem k) m l).1 (⟨false, n, n⟩ :: s)
  | 0, j, l, hj => by
    have : j = n := by omega
    subst this
    exact Tr.nil
  | m + 1, j, l, hj => by
    have h1 := ih l (⟨false, n, j⟩ :: s) (Or.inr ⟨_, _, rfl, ⟨by simp only []; omega, by simp only []; omega⟩, by simp only [roomOf]; simp; omega, by simp⟩) (by simp only [List.length_cons]; omega)
    have h2 := arr_tr ih s hs n hn m (j + 1) (docItem k l).2 (by omega)
    have e : (rep (docItem k) (m + 1) l).1 = (docItem k l).1 ++ (rep (docItem k) m (docItem k l).2).1 := rfl
    rw [e]
    refine Tr.append (h1.mono (by simp)) ?_ (by simp [bump1])
    simpa [bump1] using h2

theorem map_tr {k : Nat} (ih : ItemTr k) (s : List Cont) (hs : s.length + (k + 1) ≤ 20) (n : Nat) (hn : n < 16) : ∀ (m j : Nat) (l : List Int), j + m = n → Tr (s.length + 1) (⟨true, n, 2 * j⟩ :: s) (rep (docPair (docItem k)) m l).1 (⟨true, n, 2 * n⟩ :: s)
  | 0, j, l, hj => by
    have : j = n := by omega
    subst this
    exact Tr.nil
  | m + 1, j, l, hj => by
    have e : (rep (docPair (docItem k)) (m + 1) l).1 = (evText (docText (nx l).1) :: (docItem k (nx l).2).1) ++ (rep (docPair (docItem k)) m (docPair (docItem k) l).2).1 := rfl
    have hf : CFit ⟨true, n, 2 * j⟩ := ⟨by simp only []; omega, by simp only []; omega⟩
    have hf1 : CFit ⟨true, n, 2 * j + 1⟩ := ⟨by simp only []; omega, by simp only []; omega⟩
    have hk : wNext (⟨true, n, 2 * j⟩ :: s) (evText (docText (nx l).1)) = ⟨true, n, 2 * j + 1⟩ :: s := by simp [wNext, evText, bump1]
    have h1 := ih (nx l).2 (⟨true, n, 2 * j + 1⟩ :: s) (Or.inr ⟨_, _, rfl, hf1, by simp only [roomOf, if_true]; omega, fun _ => by simp only []; omega⟩) (by simp only [List.length_cons]; omega)
    have h2 := map_tr ih s hs n hn m (j + 1) (docPair (docItem k) l).2 (by omega)
    rw [e]
    refine Tr.append (t := ⟨true, n, 2 * j + 1 + 1⟩ :: s) (Tr.cons ⟨by simp only [List.length_cons]; omega, Or.inr (Or.inl ⟨⟨_, docText_size _, rfl⟩, _, _, rfl, hf, by simp only [roomOf, if_true]; omega, rfl, by simp only []; omega⟩)⟩ (fun _ => by rw [hk]; simp) ?_) ?_ (by simp)
    · rw [hk]
      exact (h1.mono (by simp))
    · have e2 : (2 : Int) * ((j + 1 : Nat) : Int) = 2 * (j : Int) + 1 + 1 := by omega
      rw [e2] at h2
      exact h2

theorem item_tr : ∀ k, ItemTr k
  | 0 => fun l s h hs => tr_leaf (nx_small l) h (by omega)
  | k + 1 => fun l s h hs => by
    have ih := item_tr k
    unfold docItem
    by_cases h5 : (nx l).1 % 8 < 5
    · rw [if_pos h5]; exact tr_leaf (nx_small l) h (by omega)
    rw [if_neg h5]
    have hb : (bump1 s).length + (k + 1) ≤ 20 := by rw [bump1_len]; omega
    by_cases h6 : (nx l).1 % 8 = 5
    · rw [if_pos h6]
      obtain ⟨n, hn⟩ : ∃ n, (nx l).1 / 8 % 4 = n := ⟨_, rfl⟩
      have hn4 : n < 16 := by omega
      rw [hn]
      have h1 := arr_tr ih (bump1 s) hb n hn4 n 0 (nx l).2 (by omega)
      rw [bump1_len] at h1
      simp only [List.cons_append]
      refine Tr.cons ⟨by omega, Or.inr (Or.inr (Or.inl ⟨⟨false, n, hn4, rfl⟩, h⟩))⟩ (fun _ => by rw [show evArr (n : Int) = beginEv false n from rfl, next_open]; simp [bump1_len]) ?_
      rw [show evArr (n : Int) = beginEv false n from rfl, next_open]
      refine Tr.append h1 ?_ (by simp [bump1_len])
      have := Tr.one (n := s.length + 1) (s := ⟨false, n, n⟩ :: bump1 s) (e := evEnd) ⟨by simp only [List.length_cons]; omega, Or.inr (Or.inr (Or.inr ⟨rfl, _, _, rfl, ⟨by simp only []; omega, by simp only []; omega⟩, by simp [roomOf]⟩))⟩
      rw [next_end] at this
      exact this
    · rw [if_neg h6]
      obtain ⟨n, hn⟩ : ∃ n, (nx l).1 / 8 % 3 = n := ⟨_, rfl⟩
      have hn4 : n < 16 := by omega
      rw [hn]
      have h1 := map_tr ih (bump1 s) hb n hn4 n 0 (nx l).2 (by omega)
      rw [bump1_len] at h1
      simp only [List.cons_append]
      refine Tr.cons ⟨by omega, Or.inr (Or.inr (Or.inl ⟨⟨true, n, hn4, rfl⟩, h⟩))⟩ (fun _ => by rw [show evMap (n : Int) = beginEv true n from rfl, next_open]; simp [bump1_len]) ?_
      rw [show evMap (n : Int) = beginEv true n from rfl, next_open]
      refine Tr.append h1 ?_ (by simp [bump1_len])
      have := Tr.one (n := s.length + 1) (s := ⟨true, n, 2 * n⟩ :: bump1 s) (e := evEnd) ⟨by simp only [List.length_cons]; omega, Or.inr (Or.inr (Or.inr ⟨rfl, _, _, rfl, ⟨by simp only []; omega, by simp only []; omega⟩, by simp [roomOf]⟩))⟩
      rw [next_end] at this
      exact this

theorem doc_tr (l : List Int) (dep : Nat) (hd : dep ≤ 16) : Tr 1 [] (doc l dep) [] := item_tr dep l [] (Or.inl rfl) (by simp; omega)

/-- what is open behind so many parts -/
def wAfter (s : List Cont) (l : List Ev) : List Cont := l.foldl wNext s

theorem tr_at {n : Nat} {s t : List Cont} {l : List Ev} (h : Tr n s l t) : ∀ i e, l[i]? = some e → WOk (wAfter s (l.take i)) e ∧ (i + 1 < l.length → n ≤ (wAfter s (l.take (i + 1))).length) ∧ wAfter s (l.take (i + 1)) = wNext (wAfter s (l.take i)) e := by
  induction h with
  | nil => intro i e h; simp at h
  | @cons s t e r h hn _ ih =>
    intro i x hx
    cases i with
    | zero =>
      simp only [List.getElem?_cons_zero, Option.some.injEq] at hx
      subst hx
      refine ⟨by simpa [wAfter] using h, fun hl => ?_, by simp [wAfter]⟩
      have : r ≠ [] := by intro hr; rw [hr] at hl; simp at hl
      simpa [wAfter] using hn this
    | succ i =>
      obtain ⟨h1, h2, h3⟩ := ih i x (by simpa using hx)
      refine ⟨by simpa [wAfter] using h1, fun hl => ?_, by simpa [wAfter] using h3⟩
      simpa [wAfter] using h2 (by simpa using hl)

theorem tr_end {n : Nat} {s t : List Cont} {l : List Ev} (h : Tr n s l t) : wAfter s l = t := by
  induction h with
  | nil => rfl
  | cons _ _ _ ih => simpa [wAfter] using ih
end Go.Tru

namespace Go.Tru

/-- a part's bytes, its count not known -/
def partO (e : Ev) : List UInt8 := if e.kind = 5 then [159] else if e.kind = 6 then [191] else if e.kind = 7 then [255] else leafC e

def bytesO (l : List Ev) : List UInt8 := l.flatMap partO
theorem bytesO_append (a b : List Ev) : bytesO (a ++ b) = bytesO a ++ bytesO b := by simp [bytesO]
theorem bytesO_cons (e : Ev) (b : List Ev) : bytesO (e :: b) = partO e ++ bytesO b := by simp [bytesO]

theorem bytesO_leaf (x : Nat) : bytesC (docLeaf x) = bytesO (docLeaf x) ∧ (docLeaf x).map openEv = docLeaf x := by
  unfold docLeaf
  repeat' split
  all_goals exact ⟨rfl, rfl⟩

theorem gives_opened {d : Int} {st : List Cont} {p : Cb} (h : Idle d st false p) (hk : keyAt st = false) (hd : (st.length : Int) < d) (m : Bool) :
    ∃ q, p.Gives [if m then 191 else 159] [beginEv m (-1)] q ∧ Idle d (⟨m, -1, 0⟩ :: st) false q := by
  refine ⟨(Cb.put { p with h := Hd.zero, begun := false } ([beginEv m (-1)], { p.c with open_ := ⟨m, -1, 0⟩ :: st })).2, fun rest => ?_, ⟨h.depth, rfl, h.done, h.e, h.lack, h.s, h.chunks, rfl⟩⟩
  have hf : p.c.full = false := by
    unfold Core.full
    rw [h.depth, h.opn]
    simp; omega
  have hs : p.step ((if m then 191 else 159 : UInt8).toNat : Int) = Cb.put { p with h := Hd.zero, begun := false } ([beginEv m (-1)], { p.c with open_ := ⟨m, -1, 0⟩ :: st }) := by
    rw [h.step]
    cases m
    · show p.item 159 = _
      unfold Cb.item Cb.first Cb.told Core.begin
      simp [h.done, h.key, hk, hf, h.opn]
    · show p.item 191 = _
      unfold Cb.item Cb.first Cb.told Core.begin
      simp [h.done, h.key, hk, hf, h.opn]
  rw [List.cons_append, List.nil_append, cb_run_cons, hs, cb_cont_ok (by exact h.e)]
  rfl

theorem gives_break {d : Int} {st : List Cont} {m : Bool} {pt : Int} {p : Cb} (h : Idle d (⟨m, -1, pt⟩ :: st) false p) (hp : m = true → pt % 2 = 0) :
    ∃ q, p.Gives [255] (evEnd :: (closeUp st).1) q ∧ Idle d (closeUp st).2.1 (closeUp st).2.2 q := by
  have hb : p.c.brk = Core.value { p.c with open_ := st } evEnd := by
    unfold Core.brk
    rw [h.opn]
    simp only []
    rw [if_neg]
    rintro (h1 | ⟨h1, h2⟩)
    · exact absurd h1 (by decide)
    · have := hp h1
      omega
  have hs : p.step ((255 : UInt8).toNat : Int) = p.put (Core.value { p.c with open_ := st } evEnd) := by
    rw [h.step]
    show p.item 255 = _
    unfold Cb.item
    simp [h.done, hb]
  refine ⟨(p.put (Core.value { p.c with open_ := st } evEnd)).2, fun rest => ?_, ?_⟩
  · rw [List.cons_append, List.nil_append, cb_run_cons, hs, cb_cont_ok (by exact h.e)]
    rfl
  · refine ⟨h.depth, rfl, ?_, h.e, h.lack, h.s, h.chunks, h.begun⟩
    simp only [Cb.put, Core.value, h.done, Bool.false_or]

theorem closeUp_open {m : Bool} {pt : Int} (r : List Cont) (hp : 0 ≤ pt) : closeUp (⟨m, -1, pt⟩ :: r) = ([], ⟨m, -1, pt + 1⟩ :: r, false) := by
  refine closeUp_no ?_
  unfold Cont.met
  cases m
  · simp; omega
  · simp; omega

/-- what an item gives -/
def ItemOpens (d : Int) (k : Nat) : Prop := ∀ (l : List Int) (st : List Cont) (p : Cb), Idle d st false p → (st.length : Int) + k ≤ d → keyAt st = false →
  ∃ q, p.Gives (bytesO (docItem k l).1) ((docItem k l).1.map openEv ++ (closeUp st).1) q ∧ Idle d (closeUp st).2.1 (closeUp st).2.2 q

theorem opens_leaf {d : Int} {st : List Cont} {p : Cb} (h : Idle d st false p) (hk : keyAt st = false) {x : Nat} (hx : x < 65536) :
    ∃ q, p.Gives (bytesO (docLeaf x)) ((docLeaf x).map openEv ++ (closeUp st).1) q ∧ Idle d (closeUp st).2.1 (closeUp st).2.2 q := by
  obtain ⟨e1, e2⟩ := bytesO_leaf x
  rw [e2, ← e1]
  exact gives_leaf h hk hx

theorem arr_opens {d : Int} {k : Nat} (ih : ItemOpens d k) (st : List Cont) (hd : (st.length : Int) + (k + 1) ≤ d) : ∀ (m j : Nat) (l : List Int) (p : Cb), Idle d (⟨false, -1, j⟩ :: st) false p →
    ∃ q, p.Gives (bytesO (rep (docItem k) m l).1) ((rep (docItem k) m l).1.map openEv) q ∧ Idle d (⟨false, -1, (j + m : Nat)⟩ :: st) false q
  | 0, j, l, p, h => ⟨p, fun rest => by simp [rep, bytesO], h⟩
  | m + 1, j, l, p, h => by
    obtain ⟨q, h1, h2⟩ := ih l (⟨false, -1, j⟩ :: st) p h (by simp only [List.length_cons]; omega) rfl
    rw [closeUp_open st (by omega)] at h1 h2
    obtain ⟨r, h3, h4⟩ := arr_opens ih st hd m (j + 1) (docItem k l).2 q (by simpa using h2)
    have er : (rep (docItem k) (m + 1) l).1 = (docItem k l).1 ++ (rep (docItem k) m (docItem k l).2).1 := rfl
    refine ⟨r, (h1.trans h3).conv ?_ ?_, ?_⟩
    · rw [er, bytesO_append]
    · rw [er]; simp
    · rw [show j + (m + 1) = j + 1 + m by omega]; exact h4

theorem map_opens {d : Int} {k : Nat} (ih : ItemOpens d k) (st : List Cont) (hd : (st.length : Int) + (k + 1) ≤ d) : ∀ (m j : Nat) (l : List Int) (p : Cb), Idle d (⟨true, -1, 2 * j⟩ :: st) false p →
    ∃ q, p.Gives (bytesO (rep (docPair (docItem k)) m l).1) ((rep (docPair (docItem k)) m l).1.map openEv) q ∧ Idle d (⟨true, -1, 2 * (j + m : Nat)⟩ :: st) false q
  | 0, j, l, p, h => ⟨p, fun rest => by simp [rep, bytesO], h⟩
  | m + 1, j, l, p, h => by
    obtain ⟨q0, g1, g2⟩ := gives_text h (docText (nx l).1) (by have := docText_size (nx l).1; omega) (by exact textGo_whole _ _ rfl)
    rw [closeUp_open st (by omega)] at g1 g2
    obtain ⟨q, h1, h2⟩ := ih (nx l).2 (⟨true, -1, 2 * j + 1⟩ :: st) q0 g2 (by simp only [List.length_cons]; omega) (by simp [keyAt] <;> omega)
    rw [closeUp_open st (by omega)] at h1 h2
    have e1 : bytesO (docPair (docItem k) l).1 = (headB 3 (docText (nx l).1).size ++ (docText (nx l).1).data.toList) ++ bytesO (docItem k (nx l).2).1 := by
      simp [docPair, bytesO_cons, partO, leafC, evText]
    obtain ⟨r, h3, h4⟩ := map_opens ih st hd m (j + 1) (docPair (docItem k) l).2 q (by
      have e' : (2 * ((j + 1 : Nat) : Int)) = 2 * (j : Int) + 1 + 1 := by omega
      rw [e']
      exact h2)
    have er : (rep (docPair (docItem k)) (m + 1) l).1 = (docPair (docItem k) l).1 ++ (rep (docPair (docItem k)) m (docPair (docItem k) l).2).1 := rfl
    refine ⟨r, ((g1.trans h1).trans h3).conv ?_ ?_, ?_⟩
    · rw [← e1, er, bytesO_append]
    · rw [er]; simp [docPair, openEv, evText]
    · rw [show j + (m + 1) = j + 1 + m by omega]; exact h4

theorem item_opens (d : Int) : ∀ k, ItemOpens d k
  | 0 => fun l st p h hd hk => opens_leaf h hk (nx_small l)
  | k + 1 => fun l st p h hd hk => by
    have ih := item_opens d k
    unfold docItem
    by_cases h5 : (nx l).1 % 8 < 5
    · rw [if_pos h5]; exact opens_leaf h hk (nx_small l)
    rw [if_neg h5]
    have hd1 : (st.length : Int) < d := by omega
    have hd2 : (st.length : Int) + (k + 1) ≤ d := by omega
    have ee : partO evEnd = [255] := rfl
    by_cases h6 : (nx l).1 % 8 = 5
    · rw [if_pos h6]
      generalize (nx l).1 / 8 % 4 = n
      have eb : partO (evArr (n : Int)) = [if false = true then 191 else 159] := rfl
      obtain ⟨q, h1, h2⟩ := gives_opened h hk hd1 false
      obtain ⟨r, h3, h4⟩ := arr_opens ih st hd2 n 0 (nx l).2 q h2
      obtain ⟨t, h5, h6⟩ := gives_break h4 (fun hh => by cases hh)
      refine ⟨t, ((h1.trans h3).trans h5).conv ?_ ?_, h6⟩
      · simp only [List.cons_append, bytesO_cons, bytesO_append, eb, ee]; simp [bytesO]
      · simp [beginEv, openEv, evArr, evEnd]
    · rw [if_neg h6]
      generalize (nx l).1 / 8 % 3 = n
      have eb : partO (evMap (n : Int)) = [if true = true then 191 else 159] := rfl
      obtain ⟨q, h1, h2⟩ := gives_opened h hk hd1 true
      obtain ⟨r, h3, h4⟩ := map_opens ih st hd2 n 0 (nx l).2 q h2
      obtain ⟨t, h5, h6⟩ := gives_break h4 (fun _ => by omega)
      refine ⟨t, ((h1.trans h3).trans h5).conv ?_ ?_, h6⟩
      · simp only [List.cons_append, bytesO_cons, bytesO_append, eb, ee]; simp [bytesO]
      · simp [beginEv, openEv, evMap, evEnd]

theorem open_all (l : List Int) (dep : Nat) (h : 1 ≤ dep ∧ dep ≤ 16) : cborAll (bytesO (doc l dep)) dep = ((doc l dep).map openEv, 0) := by
  obtain ⟨q, h1, h2⟩ := item_opens dep dep l [] (Cb.new dep) Idle.new (by simp) rfl
  have := h1 []
  rw [List.append_nil] at this
  unfold cborAll doc
  rw [if_neg (by omega), this]
  simp [Cb.run, Core.over, h2.e, h2.done, closeUp]
end Go.Tru
