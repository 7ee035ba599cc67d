/-
  A document, written as MessagePack, is read as it was; cut anywhere it is not at its end; with a byte more it is none: plainly.
-/
import Derived.Test.YtmcbdkhlbmhfeaaPackRuns
import Derived.Test.YtmcbdkhlbmhfeaaDocModel
import Derived.Test.YtmcbdkhlbmhfeaaUtfPlain
namespace Go.Tru

/-- a whole number -/
def wholeP (neg : Bool) (m : Nat) : List UInt8 :=
  if neg = true then
    if m < 32 then [UInt8.ofNat (255 - m)]
    else if m < 128 then 208 :: bigB (18446744073709551615 - m) 1
    else if m < 32768 then 209 :: bigB (18446744073709551615 - m) 2
    else 210 :: bigB (18446744073709551615 - m) 4
  else if m < 128 then [UInt8.ofNat m]
  else if m < 256 then 204 :: bigB m 1
  else if m < 65536 then 205 :: bigB m 2
  else 206 :: bigB m 4

/-- a part's bytes -/
def partP (e : Ev) : List UInt8 :=
  if e.kind = 0 then [192]
  else if e.kind = 1 then [if e.yes then 195 else 194]
  else if e.kind = 2 then wholeP e.yes e.mag.toNat
  else if e.kind = 3 then UInt8.ofNat (160 + e.text.size) :: e.text.data.toList
  else if e.kind = 5 then [UInt8.ofNat (144 + e.count.toNat)]
  else if e.kind = 6 then [UInt8.ofNat (128 + e.count.toNat)]
  else []

def bytesP (l : List Ev) : List UInt8 := l.flatMap partP
theorem bytesP_append (a b : List Ev) : bytesP (a ++ b) = bytesP a ++ bytesP b := by simp [bytesP]
theorem bytesP_cons (e : Ev) (b : List Ev) : bytesP (e :: b) = partP e ++ bytesP b := by simp [bytesP]

/-- these bytes give these parts, whatever comes behind -/
def Pk.Gives (p : Pk) (l : List UInt8) (es : List Ev) (q : Pk) : Prop := ∀ rest, p.run (l ++ rest) = (es ++ (q.run rest).1, (q.run rest).2)

theorem Pk.Gives.trans {p q r : Pk} {l m : List UInt8} {es fs : List Ev} (h : p.Gives l es q) (k : q.Gives m fs r) : p.Gives (l ++ m) (es ++ fs) r := fun rest => by
  rw [List.append_assoc, h, k]
  simp [List.append_assoc]

theorem Pk.Gives.conv {p q : Pk} {l m : List UInt8} {es fs : List Ev} (h : p.Gives l es q) (hl : l = m) (he : es = fs) : p.Gives m fs q := hl ▸ he ▸ h

/-- it waits for an item -/
structure Idle (d : Int) (st : List Cont) (dn : Bool) (p : Pk) : Prop where
  depth : p.c.depth = d
  opn : p.c.open_ = st
  done : p.c.done = dn
  e : p.c.e = 0
  lack : p.c.lack = 0
  s : p.c.s = []
  chunks : p.c.chunks = false
  kind : p.kind = 0

def keyAt (st : List Cont) : Bool := match st with | [] => false | c :: _ => c.pairs && decide (c.parts % 2 = 0)

theorem Idle.new {d : Int} : Idle d [] false (Pk.new d) := ⟨rfl, rfl, rfl, rfl, rfl, rfl, rfl, rfl⟩
theorem Idle.key {d : Int} {st : List Cont} {dn : Bool} {p : Pk} (h : Idle d st dn p) : p.c.atKey = keyAt st := by unfold Core.atKey keyAt; rw [h.opn]; cases st <;> rfl

theorem Idle.step {d : Int} {st : List Cont} {dn : Bool} {p : Pk} (h : Idle d st dn p) (b : Int) : p.step b = p.item b := by
  unfold Pk.step
  rw [if_neg (by simp [h.e]), if_neg (by simp [h.lack]), if_neg (by simp [h.kind])]

/-- a step that tells a value -/
theorem Idle.gives {d : Int} {st : List Cont} {p : Pk} (h : Idle d st false p) {ev : Ev} {b : UInt8} (hs : p.item b.toNat = p.put (p.c.value ev)) :
    ∃ q, p.Gives [b] (ev :: (closeUp st).1) q ∧ Idle d (closeUp st).2.1 (closeUp st).2.2 q := by
  refine ⟨(p.put (p.c.value ev)).2, fun rest => ?_, ?_⟩
  · rw [List.cons_append, List.nil_append, run_cons, h.step, hs, cont_ok (by exact h.e)]
    simp only [Pk.put, Core.value, h.opn]
  · refine ⟨h.depth, ?_, ?_, h.e, h.lack, h.s, h.chunks, h.kind⟩
    · simp only [Pk.put, Core.value, h.opn]
    · simp only [Pk.put, Core.value, h.opn, h.done, Bool.false_or]

theorem Idle.done_step {d : Int} {st : List Cont} {p : Pk} (h : Idle d st true p) (b : UInt8) : p.run [b] = ([], 2) := by
  rw [run_cons, h.step]
  unfold Pk.item
  rw [if_pos (Or.inl h.done), cont_err (by simp [Pk.put, Core.fail])]
  simp [Pk.put, Core.fail]

/-! ### a leaf -/

theorem ofNat_toNat {n : Nat} (h : n < 256) : ((UInt8.ofNat n).toNat : Int) = n := by
  rw [UInt8.toNat_ofNat']; omega

theorem gives_null {d : Int} {st : List Cont} {p : Pk} (h : Idle d st false p) (hk : keyAt st = false) : ∃ q, p.Gives [192] (evNull :: (closeUp st).1) q ∧ Idle d (closeUp st).2.1 (closeUp st).2.2 q := by
  refine h.gives ?_
  show p.item 192 = _
  unfold Pk.item
  simp [h.done, h.key, hk, isContB]

theorem gives_bool {d : Int} {st : List Cont} {p : Pk} (h : Idle d st false p) (hk : keyAt st = false) (y : Bool) : ∃ q, p.Gives [if y then 195 else 194] (evBool y :: (closeUp st).1) q ∧ Idle d (closeUp st).2.1 (closeUp st).2.2 q := by
  refine h.gives ?_
  cases y
  · show p.item 194 = _
    unfold Pk.item
    simp [h.done, h.key, hk, isContB]
  · show p.item 195 = _
    unfold Pk.item
    simp [h.done, h.key, hk, isContB]

theorem gives_small {d : Int} {st : List Cont} {p : Pk} (h : Idle d st false p) (hk : keyAt st = false) {m : Nat} (hm : m < 128) : ∃ q, p.Gives [UInt8.ofNat m] (evInt false m :: (closeUp st).1) q ∧ Idle d (closeUp st).2.1 (closeUp st).2.2 q := by
  refine h.gives ?_
  rw [ofNat_toNat (by omega)]
  have h1 : ¬ (m : Int) = 193 := by omega
  have h2 : isContB m = false := by simp [isContB]; omega
  unfold Pk.item
  rw [if_neg (by simp [h.done, h1]), if_neg (by simp [h.key, hk]), if_neg (by omega), if_neg (by omega), if_neg (by simp [h2]), if_pos (by omega)]

theorem gives_minus {d : Int} {st : List Cont} {p : Pk} (h : Idle d st false p) (hk : keyAt st = false) {m : Nat} (hm : m < 32) : ∃ q, p.Gives [UInt8.ofNat (255 - m)] (evInt true m :: (closeUp st).1) q ∧ Idle d (closeUp st).2.1 (closeUp st).2.2 q := by
  refine h.gives ?_
  rw [ofNat_toNat (by omega)]
  have h0 : ((255 - m : Nat) : Int) = 255 - m := by omega
  rw [h0]
  have h1 : ¬ (255 - m : Int) = 193 := by omega
  have h2 : isContB (255 - m) = false := by simp [isContB]; omega
  unfold Pk.item
  rw [if_neg (by simp [h.done, h1]), if_neg (by simp [h.key, hk]), if_neg (by omega), if_neg (by omega), if_neg (by simp [h2]), if_neg (by omega), if_pos (by omega)]
  rw [show (255 : Int) - (255 - m) = m by omega]

/-- a number that is told in bytes behind the first -/
theorem gives_num {d : Int} {st : List Cont} {p : Pk} (h : Idle d st false p) (hk : keyAt st = false) (f T n : Nat) (hf : f < 8) (hn : n + 1 = 2 ^ (f % 4)) (hT : T / 256 ^ (n + 1) = 0) {ev : Ev}
    (hev : (if f < 4 then evInt false T else signedEv ((n : Int) + 1) T) = ev) :
    ∃ q, p.Gives (UInt8.ofNat (204 + f) :: bigB T (n + 1)) (ev :: (closeUp st).1) q ∧ Idle d (closeUp st).2.1 (closeUp st).2.2 q := by
  have hb := ofNat_toNat (n := 204 + f) (by omega)
  have hitem : p.item ((204 + f : Nat) : Int) = p.follows (if f < 4 then 1 else 2) ((n : Int) + 1) := by
    have hpow : (2 : Int) ^ (f % 4) = (n : Int) + 1 := by
      have : ((2 ^ (f % 4) : Nat) : Int) = (n : Int) + 1 := by omega
      rw [← this]; simp
    obtain ⟨x, hx⟩ : ∃ x : Int, ((204 + f : Nat) : Int) = x := ⟨_, rfl⟩
    have h1 : ¬ x = 193 := by omega
    have h2 : isContB x = false := by simp [isContB]; omega
    have e1 : f < 4 → (x - 204).toNat = f % 4 := by omega
    have e2 : ¬ f < 4 → (x - 208).toNat = f % 4 := by omega
    have h4 : f < 4 ↔ x ≤ 207 := by omega
    have h5 : 204 ≤ x ∧ x ≤ 211 := by omega
    rw [hx]
    clear hx hb
    unfold Pk.item
    rw [if_neg (by simp [h.done, h1]), if_neg (by simp [h.key, hk]), if_neg (by omega), if_neg (by omega), if_neg (by simp [h2]), if_neg (by omega), if_neg (by omega), if_neg (by omega), if_neg (by omega), if_neg (by omega), if_neg (by omega)]
    unfold Pk.long
    rw [if_neg (by omega)]
    by_cases h4' : f < 4
    · rw [if_pos (by omega), if_pos h4', e1 h4', hpow]
    · rw [if_neg (by omega), if_pos (by omega), if_neg h4', e2 h4', hpow]
  have htold : ∀ (q : Pk), q.c = p.c → q.kind = 0 → Pk.told q (if f < 4 then 1 else 2) ((n : Int) + 1) T = q.put (q.c.value ev) := by
    intro q _ _
    unfold Pk.told
    by_cases h4 : f < 4
    · rw [if_pos h4, if_pos rfl, ← hev, if_pos h4]
    · rw [if_neg h4, if_neg (by decide), if_pos rfl, ← hev, if_neg h4]
  refine ⟨((({ (p.follows (if f < 4 then 1 else 2) ((n : Int) + 1)).2 with v := (T : Int), lack := 0, kind := 0 } : Pk)).put (p.c.value ev)).2, fun rest => ?_, ?_⟩
  · rw [List.cons_append, run_cons, hb, h.step, hitem]
    unfold Pk.follows
    rw [cont_none (by exact h.e)]
    refine (num_run T rest n { p with kind := (if f < 4 then 1 else 2), lack := (n : Int) + 1, all := (n : Int) + 1, v := 0 } h.e (by simp [h.lack]) (by simp only []; split <;> simp) rfl (by rw [hT]; rfl)).trans ?_
    show Pk.cont (Pk.told ({ p with kind := 0, lack := 0, all := (n : Int) + 1, v := (T : Int) } : Pk) (if f < 4 then 1 else 2) ((n : Int) + 1) T) rest = _
    rw [htold { p with kind := 0, lack := 0, all := (n : Int) + 1, v := (T : Int) } rfl rfl, cont_ok (by exact h.e)]
    simp only [Pk.put, Core.value, h.opn]
  · refine ⟨h.depth, ?_, ?_, h.e, h.lack, h.s, h.chunks, rfl⟩
    · simp only [Pk.put, Core.value, h.opn]
    · simp only [Pk.put, Core.value, h.opn, h.done, Bool.false_or]

theorem neg_mod {m k : Nat} (h : m < 256 ^ k) (hk : k ≤ 8) : (18446744073709551615 - m) % 256 ^ k = 256 ^ k - 1 - m := by
  have hd : ∃ j, 18446744073709551616 = 256 ^ k * j := ⟨256 ^ (8 - k), by rw [← Nat.pow_add, show k + (8 - k) = 8 by omega]⟩
  obtain ⟨j, hj⟩ := hd
  have hjp : 0 < j := by
    rcases Nat.eq_zero_or_pos j with h0 | h0
    · rw [h0] at hj; simp at hj
    · exact h0
  obtain ⟨i, rfl⟩ : ∃ i, j = i + 1 := ⟨j - 1, by omega⟩
  have e : 18446744073709551615 - m = (256 ^ k - 1 - m) + 256 ^ k * i := by
    rw [Nat.mul_add, Nat.mul_one] at hj
    omega
  rw [e, Nat.add_mul_mod_self_left, Nat.mod_eq_of_lt (by omega)]

theorem gives_neg {d : Int} {st : List Cont} {p : Pk} (h : Idle d st false p) (hk : keyAt st = false) (f m n : Nat) (hf : f < 3) (hn : n + 1 = 2 ^ f) (hm : 2 * m < 256 ^ (n + 1)) :
    ∃ q, p.Gives (UInt8.ofNat (208 + f) :: bigB (18446744073709551615 - m) (n + 1)) (evInt true m :: (closeUp st).1) q ∧ Idle d (closeUp st).2.1 (closeUp st).2.2 q := by
  have hn8 : n + 1 ≤ 8 := by
    have : f = 0 ∨ f = 1 ∨ f = 2 := by omega
    rcases this with rfl | rfl | rfl <;> simp at hn <;> omega
  have hmod := neg_mod (m := m) (k := n + 1) (by omega) hn8
  have hpos : 0 < 256 ^ (n + 1) := Nat.pow_pos (by decide)
  have := gives_num h hk (4 + f) ((18446744073709551615 - m) % 256 ^ (n + 1)) n (by omega) (by rw [show (4 + f) % 4 = f by omega]; exact hn) (Nat.div_eq_of_lt (Nat.mod_lt _ hpos)) (ev := evInt true m) (by
    rw [if_neg (by omega), hmod]
    unfold signedEv
    have h8 : ((n : Int) + 1).toNat = n + 1 := by omega
    have e1 : (2 : Int) ^ (8 * (n + 1)) = ((256 ^ (n + 1) : Nat) : Int) := by
      rw [show (256 : Nat) = 2 ^ 8 by decide, ← Nat.pow_mul]
      simp
    have e2 : (2 : Int) * 2 ^ (8 * (n + 1) - 1) = ((256 ^ (n + 1) : Nat) : Int) := by
      rw [← e1, ← Int.pow_succ', show 8 * (n + 1) - 1 + 1 = 8 * (n + 1) by omega]
    rw [h8, if_neg (by omega), e1]
    congr 1
    omega)
  obtain ⟨q, h1, h2⟩ := this
  refine ⟨q, h1.conv ?_ rfl, h2⟩
  rw [bigB_mod _ (n + 1) (n + 1) (Nat.le_refl _), show 204 + (4 + f) = 208 + f by omega]

theorem gives_int {d : Int} {st : List Cont} {p : Pk} (h : Idle d st false p) (hk : keyAt st = false) (neg : Bool) (m : Nat) (hm : m < 2147483648) :
    ∃ q, p.Gives (wholeP neg m) (evInt neg m :: (closeUp st).1) q ∧ Idle d (closeUp st).2.1 (closeUp st).2.2 q := by
  unfold wholeP
  cases neg
  · simp only [Bool.false_eq_true, if_false]
    by_cases h1 : m < 128
    · rw [if_pos h1]; exact gives_small h hk h1
    rw [if_neg h1]
    by_cases h2 : m < 256
    · rw [if_pos h2]; exact gives_num h hk 0 m 0 (by omega) rfl (by omega) rfl
    rw [if_neg h2]
    by_cases h3 : m < 65536
    · rw [if_pos h3]; exact gives_num h hk 1 m 1 (by omega) rfl (by omega) rfl
    rw [if_neg h3]; exact gives_num h hk 2 m 3 (by omega) rfl (by omega) rfl
  · simp only [if_true]
    by_cases h1 : m < 32
    · rw [if_pos h1]; exact gives_minus h hk h1
    rw [if_neg h1]
    by_cases h2 : m < 128
    · rw [if_pos h2]; exact gives_neg h hk 0 m 0 (by omega) rfl (by omega)
    rw [if_neg h2]
    by_cases h3 : m < 32768
    · rw [if_pos h3]; exact gives_neg h hk 1 m 1 (by omega) rfl (by omega)
    rw [if_neg h3]; exact gives_neg h hk 2 m 3 (by omega) rfl (by omega)

/-- a text's bytes, behind its length -/
theorem text_run (all rest : List UInt8) (hu : (Chk.zero.run all).whole = true) : ∀ (l pre : List UInt8) (p : Pk), all = pre ++ l → l ≠ [] → p.c.e = 0 → p.c.word = true → p.c.chunks = false → p.c.lack = l.length → p.c.s = pre → p.c.c = Chk.zero.run pre →
    p.run (l ++ rest) = Pk.cont (p.put (Core.text { p.c with s := all, lack := 0, c := Chk.zero.run all })) rest
  | [], _, _, _, h, _, _, _, _, _, _ => absurd rfl h
  | b :: l, pre, p, hall, _, he, hw, hc, hl, hs, hcc => by
    have hb : UInt8.ofNat ((b.toNat : Int)).toNat = b := by simp
    have hstep : p.step (b.toNat : Int) = p.put (p.c.byte b.toNat) := by
      unfold Pk.step
      rw [if_neg (by simp [he]), if_pos (by rw [hl]; simp only [List.length_cons]; omega)]
    rw [List.cons_append, run_cons, hstep]
    have hall2 : all = (pre ++ [b]) ++ l := by rw [hall]; simp
    have hcz : p.c.c.step b.toNat = Chk.zero.run (pre ++ [b]) := by
      rw [hcc, Chk.run_append]; rfl
    have hnb : (Chk.zero.run (pre ++ [b])).bad = false := by
      cases hbad : (Chk.zero.run (pre ++ [b])).bad with
      | false => rfl
      | true =>
        rw [hall2, Chk.run_append, Chk.run_bad hbad] at hu
        simp [Chk.whole, hbad] at hu
    have hlen : p.c.lack - 1 = (l.length : Int) := by rw [hl]; simp only [List.length_cons]; omega
    have hbyte : p.c.byte b.toNat = if 0 < (l.length : Int) then ([], { p.c with s := pre ++ [b], lack := l.length, c := Chk.zero.run (pre ++ [b]) }) else Core.text { p.c with s := pre ++ [b], lack := l.length, c := Chk.zero.run (pre ++ [b]) } := by
      unfold Core.byte
      simp only [hw, if_true, hcz, hs, hb, hlen]
      rw [if_neg (by
        rintro ⟨_, h1 | ⟨h1, h2⟩⟩
        · rw [hnb] at h1; cases h1
        · have h3 : l = [] := List.length_eq_zero_iff.1 (by omega)
          rw [hall2, h3, List.append_nil] at hu
          rw [hu] at h2; cases h2)]
      simp [hc]
    rw [hbyte]
    cases l with
    | nil =>
      rw [if_neg (by simp), List.nil_append, hall2, List.append_nil]
      rfl
    | cons b2 l =>
      rw [if_pos (by simp only [List.length_cons]; omega)]
      show Pk.cont ([], { p with c := { p.c with s := pre ++ [b], lack := ((b2 :: l).length : Nat), c := Chk.zero.run (pre ++ [b]) } }) _ = _
      rw [cont_none (by exact he)]
      exact text_run all rest hu (b2 :: l) (pre ++ [b]) { p with c := { p.c with s := pre ++ [b], lack := ((b2 :: l).length : Nat), c := Chk.zero.run (pre ++ [b]) } } hall2 (by simp) he hw hc rfl rfl rfl

/-- a text of less than 32 bytes -/
theorem gives_text {d : Int} {st : List Cont} {p : Pk} (h : Idle d st false p) (t : ByteArray) (ht : t.size < 32) (hu : (Chk.zero.run t.data.toList).whole = true) :
    ∃ q, p.Gives (UInt8.ofNat (160 + t.size) :: t.data.toList) (evText t :: (closeUp st).1) q ∧ Idle d (closeUp st).2.1 (closeUp st).2.2 q := by
  have hb := ofNat_toNat (n := 160 + t.size) (by omega)
  have hlen : t.data.toList.length = t.size := by rw [Array.length_toList]; rfl
  have hbt : bytesOf t.data.toList = t := by unfold bytesOf; apply ByteArray.ext; simp
  have hitem : p.item ((160 + t.size : Nat) : Int) = p.put (p.c.length true (t.size : Int)) := by
    obtain ⟨x, hx⟩ : ∃ x : Int, ((160 + t.size : Nat) : Int) = x := ⟨_, rfl⟩
    have h1 : ¬ x = 193 := by omega
    have h4 : 160 ≤ x ∧ x ≤ 191 := by omega
    have h2 : isContB x = false := by unfold isContB; rw [decide_eq_false_iff_not]; omega
    have h3 : isTextB x = true := by unfold isTextB; rw [decide_eq_true_eq]; omega
    have h5 : x % 32 = t.size := by omega
    rw [hx]
    clear hx hb
    unfold Pk.item
    rw [if_neg (by simp [h.done, h1]), if_neg (by simp [h3]), if_neg (by omega), if_neg (by omega), if_neg (by simp [h2]), if_neg (by omega), if_neg (by omega), if_neg (by omega), if_pos (by omega), h5]
  by_cases h0 : t.size = 0
  · have hnil : t.data.toList = [] := List.length_eq_zero_iff.1 (by omega)
    have hl : p.c.length true (t.size : Int) = Core.text { p.c with word := true, lack := 0, c := Chk.zero } := by
      unfold Core.length
      rw [if_neg (by rw [h.s]; simp; omega)]
      simp only [h0, h.chunks]
      simp
    rw [hl] at hitem
    refine ⟨(p.put (Core.text { p.c with word := true, lack := 0, c := Chk.zero })).2, fun rest => ?_, ?_⟩
    · rw [hnil, List.cons_append, List.nil_append, run_cons, hb, h.step, hitem, cont_ok (by exact h.e)]
      have : wordEv true p.c.s = evText t := by
        rw [h.s, ← hnil]; unfold wordEv; rw [if_pos rfl, hbt]
      simp only [Pk.put, Core.text, Core.value, h.opn, this]
    · refine ⟨h.depth, ?_, ?_, h.e, rfl, rfl, rfl, h.kind⟩
      · simp only [Pk.put, Core.text, Core.value, h.opn]
      · simp only [Pk.put, Core.text, Core.value, h.opn, h.done, Bool.false_or]
  · have hl : p.c.length true (t.size : Int) = ([], { p.c with word := true, lack := (t.size : Int), c := Chk.zero }) := by
      unfold Core.length
      rw [if_neg (by rw [h.s]; simp; omega)]
      simp only []
      rw [if_pos (Or.inl (by omega))]
    rw [hl] at hitem
    have hne : t.data.toList ≠ [] := fun hh => h0 (by rw [← hlen, hh]; rfl)
    have hev : wordEv true t.data.toList = evText t := by unfold wordEv; rw [if_pos rfl, hbt]
    refine ⟨(p.put (Core.text { p.c with word := true, s := t.data.toList, lack := 0, c := Chk.zero.run t.data.toList })).2, fun rest => ?_, ?_⟩
    · rw [List.cons_append, run_cons, hb, h.step, hitem]
      show Pk.cont ([], { p with c := { p.c with word := true, lack := (t.size : Int), c := Chk.zero } }) _ = _
      rw [cont_none (by exact h.e)]
      rw [text_run t.data.toList rest hu t.data.toList [] { p with c := { p.c with word := true, lack := (t.size : Int), c := Chk.zero } } rfl hne h.e rfl h.chunks (by simp only []; rw [hlen]) h.s rfl]
      rw [cont_ok (by exact h.e)]
      simp only [Pk.put, Core.text, Core.value, h.opn, hev]
    · refine ⟨h.depth, ?_, ?_, h.e, rfl, rfl, rfl, h.kind⟩
      · simp only [Pk.put, Core.text, Core.value, h.opn]
      · simp only [Pk.put, Core.text, Core.value, h.opn, h.done, Bool.false_or]

/-! ### containers, documents -/

theorem gives_open {d : Int} {st : List Cont} {p : Pk} (h : Idle d st false p) (hk : keyAt st = false) (hd : (st.length : Int) < d) (m : Bool) (n : Nat) (hn : 0 < n) (hn2 : n < 16) :
    ∃ q, p.Gives [UInt8.ofNat ((if m then 128 else 144) + n)] [beginEv m n] q ∧ Idle d (⟨m, n, 0⟩ :: st) false q := by
  have hb := ofNat_toNat (n := (if m then 128 else 144) + n) (by split <;> omega)
  have hfull : p.c.full = false := by unfold Core.full; rw [h.depth, h.opn]; simp; omega
  have hitem : p.item (((if m then 128 else 144) + n : Nat) : Int) = p.put ([beginEv m n], { p.c with open_ := ⟨m, n, 0⟩ :: st }) := by
    have hx : 128 ≤ (((if m then 128 else 144) + n : Nat) : Int) ∧ (((if m then 128 else 144) + n : Nat) : Int) ≤ 159 := by cases m <;> simp <;> omega
    have hdec : decide ((((if m then 128 else 144) + n : Nat) : Int) < 144) = m := by cases m <;> simp <;> omega
    have hmod : (((if m then 128 else 144) + n : Nat) : Int) % 16 = n := by cases m <;> simp <;> omega
    generalize (((if m then 128 else 144) + n : Nat) : Int) = x at hx hdec hmod
    have h1 : ¬ x = 193 := by omega
    unfold Pk.item
    rw [if_neg (by simp [h.done, h1]), if_neg (by simp [h.key, hk]), if_neg (by omega), if_neg (by omega), if_neg (by simp [hfull]), if_neg (by omega), if_neg (by omega), if_pos (by omega), hdec, hmod]
    unfold Pk.count Core.begin
    rw [if_neg (by omega), if_neg (by omega), h.opn]
  refine ⟨(p.put ([beginEv m n], { p.c with open_ := ⟨m, n, 0⟩ :: st })).2, fun rest => ?_, ?_⟩
  · rw [List.cons_append, List.nil_append, run_cons, hb, h.step, hitem, cont_ok (by exact h.e)]
    rfl
  · exact ⟨h.depth, rfl, h.done, h.e, h.lack, h.s, h.chunks, h.kind⟩

theorem gives_empty {d : Int} {st : List Cont} {p : Pk} (h : Idle d st false p) (hk : keyAt st = false) (hd : (st.length : Int) < d) (m : Bool) :
    ∃ q, p.Gives [UInt8.ofNat ((if m then 128 else 144) + 0)] (beginEv m (0 : Nat) :: evEnd :: (closeUp st).1) q ∧ Idle d (closeUp st).2.1 (closeUp st).2.2 q := by
  have hb := ofNat_toNat (n := (if m then 128 else 144) + 0) (by split <;> omega)
  have hfull : p.c.full = false := by unfold Core.full; rw [h.depth, h.opn]; simp; omega
  have hitem : p.item (((if m then 128 else 144) + 0 : Nat) : Int) = p.put (beginEv m 0 :: (p.c.value evEnd).1, (p.c.value evEnd).2) := by
    have hx : 128 ≤ (((if m then 128 else 144) + 0 : Nat) : Int) ∧ (((if m then 128 else 144) + 0 : Nat) : Int) ≤ 159 := by cases m <;> simp
    have hdec : decide ((((if m then 128 else 144) + 0 : Nat) : Int) < 144) = m := by cases m <;> simp
    have hmod : (((if m then 128 else 144) + 0 : Nat) : Int) % 16 = 0 := by cases m <;> simp
    generalize (((if m then 128 else 144) + 0 : Nat) : Int) = x at hx hdec hmod
    have h1 : ¬ x = 193 := by omega
    unfold Pk.item
    rw [if_neg (by simp [h.done, h1]), if_neg (by simp [h.key, hk]), if_neg (by omega), if_neg (by omega), if_neg (by simp [hfull]), if_neg (by omega), if_neg (by omega), if_pos (by omega), hdec, hmod]
    unfold Pk.count Core.begin
    rw [if_neg (by omega), if_pos rfl]
  refine ⟨(p.put (beginEv m 0 :: (p.c.value evEnd).1, (p.c.value evEnd).2)).2, fun rest => ?_, ?_⟩
  · rw [List.cons_append, List.nil_append, run_cons, hb, h.step, hitem, cont_ok (by exact h.e)]
    simp only [Pk.put, Core.value, h.opn]
    rfl
  · refine ⟨h.depth, ?_, ?_, h.e, h.lack, h.s, h.chunks, h.kind⟩
    · simp only [Pk.put, Core.value, h.opn]
    · simp only [Pk.put, Core.value, h.opn, h.done, Bool.false_or]

theorem docTab_whole (n : Nat) {c : Chk} (h : c.whole = true) : (c.run (docTab n)).whole = true := by
  obtain ⟨la, lo, hi, bd⟩ := c
  simp only [Chk.whole, Bool.and_eq_true, Bool.not_eq_true', decide_eq_true_eq] at h
  obtain ⟨rfl, rfl⟩ := h
  unfold docTab
  split <;> rfl

theorem textGo_whole (x : Nat) : ∀ (k : Nat) {c : Chk}, c.whole = true → (c.run (textGo x k)).whole = true
  | 0, _, h => h
  | k + 1, _, h => by
    rw [textGo, Chk.run_append]
    exact textGo_whole x k (docTab_whole _ h)

theorem gives_leaf {d : Int} {st : List Cont} {p : Pk} (h : Idle d st false p) (hk : keyAt st = false) {x : Nat} (hx : x < 65536) :
    ∃ q, p.Gives (bytesP (docLeaf x)) (docLeaf x ++ (closeUp st).1) q ∧ Idle d (closeUp st).2.1 (closeUp st).2.2 q := by
  unfold docLeaf
  by_cases h0 : x % 8 = 0
  · rw [if_pos h0]
    obtain ⟨q, h1, h2⟩ := gives_null h hk
    exact ⟨q, h1.conv (by simp [bytesP, partP, evNull]) rfl, h2⟩
  rw [if_neg h0]
  by_cases h1 : x % 8 = 1
  · rw [if_pos h1]
    obtain ⟨q, h1, h2⟩ := gives_bool h hk (decide (x / 8 % 2 = 1))
    exact ⟨q, h1.conv (by simp [bytesP, partP, evBool]) rfl, h2⟩
  rw [if_neg h1]
  by_cases h2 : x % 8 = 2 ∨ x % 8 = 3
  · rw [if_pos h2]
    have hm : (x * x) >>> (x % 8) < 2147483648 := by
      have hxx : x * x < 65536 * 65536 := Nat.mul_lt_mul_of_lt_of_lt hx hx
      rw [Nat.shiftRight_eq_div_pow]
      rcases h2 with h2 | h2 <;> rw [h2] <;> omega
    obtain ⟨q, h1, h2⟩ := gives_int h hk (decide (x / 8 % 2 = 1)) ((x * x) >>> (x % 8)) hm
    exact ⟨q, h1.conv (by simp only [bytesP, partP, evInt, List.flatMap_cons, List.flatMap_nil, List.append_nil]; rfl) rfl, h2⟩
  rw [if_neg h2]
  by_cases h3 : x % 8 = 4
  · rw [if_pos h3]
    obtain ⟨q, h1, h2⟩ := gives_text h (docText x) (by have := docText_size x; omega) (by exact textGo_whole x _ rfl)
    exact ⟨q, h1.conv (by simp [bytesP, partP, evText]) rfl, h2⟩
  rw [if_neg h3]
  by_cases h4 : x % 8 = 5
  · rw [if_pos h4]
    obtain ⟨q, h1, h2⟩ := gives_text h noText (by decide) (by rfl)
    exact ⟨q, h1.conv (by simp [bytesP, partP, evText]) rfl, h2⟩
  rw [if_neg h4]
  obtain ⟨q, h1, h2⟩ := gives_int h hk false x (by omega)
  exact ⟨q, h1.conv (by simp only [bytesP, partP, evInt, List.flatMap_cons, List.flatMap_nil, List.append_nil]; rfl) rfl, h2⟩

theorem closeUp_no {c : Cont} {r : List Cont} (h : ({ c with parts := c.parts + 1 } : Cont).met = false) : closeUp (c :: r) = ([], { c with parts := c.parts + 1 } :: r, false) := by
  unfold closeUp; rw [if_neg (by simp [h])]
theorem closeUp_yes {c : Cont} {r : List Cont} (h : ({ c with parts := c.parts + 1 } : Cont).met = true) : closeUp (c :: r) = (evEnd :: (closeUp r).1, (closeUp r).2.1, (closeUp r).2.2) := by
  rw [closeUp, if_pos h]

/-- what an item gives -/
def ItemGives (d : Int) (k : Nat) : Prop := ∀ (l : List Int) (st : List Cont) (p : Pk), Idle d st false p → (st.length : Int) + k ≤ d → keyAt st = false →
  ∃ q, p.Gives (bytesP (docItem k l).1) ((docItem k l).1 ++ (closeUp st).1) q ∧ Idle d (closeUp st).2.1 (closeUp st).2.2 q

theorem arr_gives {d : Int} {k : Nat} (ih : ItemGives d k) (st : List Cont) (hd : (st.length : Int) + (k + 1) ≤ d) (n : Nat) : ∀ (m j : Nat) (l : List Int) (p : Pk), j + (m + 1) = n → Idle d (⟨false, n, j⟩ :: st) false p →
    ∃ q, p.Gives (bytesP (rep (docItem k) (m + 1) l).1) ((rep (docItem k) (m + 1) l).1 ++ evEnd :: (closeUp st).1) q ∧ Idle d (closeUp st).2.1 (closeUp st).2.2 q
  | 0, j, l, p, hj, h => by
    obtain ⟨q, h1, h2⟩ := ih l (⟨false, n, j⟩ :: st) p h (by simp only [List.length_cons]; omega) rfl
    rw [closeUp_yes (by simp [Cont.met]; omega)] at h1 h2
    exact ⟨q, h1.conv (by simp [rep]) (by simp [rep]), h2⟩
  | m + 1, j, l, p, hj, h => by
    obtain ⟨q, h1, h2⟩ := ih l (⟨false, n, j⟩ :: st) p h (by simp only [List.length_cons]; omega) rfl
    rw [closeUp_no (by simp [Cont.met]; omega)] at h1 h2
    obtain ⟨r, h3, h4⟩ := arr_gives ih st hd n m (j + 1) (docItem k l).2 q (by omega) (by simpa using h2)
    have er : (rep (docItem k) (m + 1 + 1) l).1 = (docItem k l).1 ++ (rep (docItem k) (m + 1) (docItem k l).2).1 := rfl
    refine ⟨r, (h1.trans h3).conv ?_ ?_, h4⟩
    · rw [er, bytesP_append]
    · rw [er]; simp

theorem map_gives {d : Int} {k : Nat} (ih : ItemGives d k) (st : List Cont) (hd : (st.length : Int) + (k + 1) ≤ d) (n : Nat) : ∀ (m j : Nat) (l : List Int) (p : Pk), j + (m + 1) = n → Idle d (⟨true, n, 2 * j⟩ :: st) false p →
    ∃ q, p.Gives (bytesP (rep (docPair (docItem k)) (m + 1) l).1) ((rep (docPair (docItem k)) (m + 1) l).1 ++ evEnd :: (closeUp st).1) q ∧ Idle d (closeUp st).2.1 (closeUp st).2.2 q
  | m, j, l, p, hj, h => by
    obtain ⟨q0, g1, g2⟩ := gives_text h (docText (nx l).1) (by have := docText_size (nx l).1; omega) (by exact textGo_whole _ _ rfl)
    rw [closeUp_no (by simp [Cont.met] <;> omega)] at g1 g2
    have g2' : Idle d (⟨true, n, 2 * j + 1⟩ :: st) false q0 := by simpa using g2
    obtain ⟨q, h1, h2⟩ := ih (nx l).2 (⟨true, n, 2 * j + 1⟩ :: st) q0 g2' (by simp only [List.length_cons]; omega) (by simp [keyAt] <;> omega)
    have e1 : bytesP (docPair (docItem k) l).1 = (UInt8.ofNat (160 + (docText (nx l).1).size) :: (docText (nx l).1).data.toList) ++ bytesP (docItem k (nx l).2).1 := by
      simp [docPair, bytesP_cons, partP, evText]
    cases m with
    | zero =>
      rw [closeUp_yes (by simp [Cont.met] <;> omega)] at h1 h2
      refine ⟨q, (g1.trans h1).conv ?_ ?_, h2⟩
      · rw [← e1]; simp [rep]
      · simp [rep, docPair]
    | succ m =>
      rw [closeUp_no (by simp [Cont.met] <;> omega)] at h1 h2
      obtain ⟨r, h3, h4⟩ := map_gives ih st hd n m (j + 1) (docPair (docItem k) l).2 q (by omega) (by
        have e : ((2 * (j + 1 : Nat) : Nat) : Int) = 2 * (j : Int) + 1 + 1 := by omega
        have e' : (2 * ((j + 1 : Nat) : Int)) = 2 * (j : Int) + 1 + 1 := by omega
        rw [e']
        simpa using h2)
      have er : (rep (docPair (docItem k)) (m + 1 + 1) l).1 = (docPair (docItem k) l).1 ++ (rep (docPair (docItem k)) (m + 1) (docPair (docItem k) l).2).1 := rfl
      refine ⟨r, ((g1.trans h1).trans h3).conv ?_ ?_, h4⟩
      · rw [← e1, er, bytesP_append]
      · rw [er]; simp [docPair]

theorem item_gives (d : Int) : ∀ k, ItemGives d k
  | 0 => fun l st p h hd hk => gives_leaf h hk (nx_small l)
  | k + 1 => fun l st p h hd hk => by
    have ih := item_gives d k
    unfold docItem
    by_cases h5 : (nx l).1 % 8 < 5
    · rw [if_pos h5]; exact gives_leaf h hk (nx_small l)
    rw [if_neg h5]
    have hd1 : (st.length : Int) < d := by omega
    have hd2 : (st.length : Int) + (k + 1) ≤ d := by omega
    by_cases h6 : (nx l).1 % 8 = 5
    · rw [if_pos h6]
      obtain ⟨n, hn⟩ : ∃ n, (nx l).1 / 8 % 4 = n := ⟨_, rfl⟩
      have hn4 : n < 4 := by omega
      rw [hn]
      have eb : partP (evArr (n : Int)) = [UInt8.ofNat (144 + n)] := by simp [partP, evArr]
      have ee : partP evEnd = [] := by simp [partP, evEnd]
      cases n with
      | zero =>
        obtain ⟨q, h1, h2⟩ := gives_empty h hk hd1 false
        refine ⟨q, h1.conv ?_ ?_, h2⟩
        · simp only [rep, List.cons_append, List.nil_append, bytesP_cons, eb, ee]; simp [bytesP]
        · simp [rep, beginEv]
      | succ m =>
        obtain ⟨q, h1, h2⟩ := gives_open h hk hd1 false (m + 1) (by omega) (by omega)
        obtain ⟨r, h3, h4⟩ := arr_gives ih st hd2 (m + 1) m 0 (nx l).2 q (by omega) (by simpa using h2)
        refine ⟨r, (h1.trans h3).conv ?_ ?_, h4⟩
        · simp only [List.cons_append, bytesP_cons, bytesP_append, eb, ee]; simp [bytesP]
        · simp [beginEv]
    · rw [if_neg h6]
      obtain ⟨n, hn⟩ : ∃ n, (nx l).1 / 8 % 3 = n := ⟨_, rfl⟩
      have hn4 : n < 3 := by omega
      rw [hn]
      have eb : partP (evMap (n : Int)) = [UInt8.ofNat (128 + n)] := by simp [partP, evMap]
      have ee : partP evEnd = [] := by simp [partP, evEnd]
      cases n with
      | zero =>
        obtain ⟨q, h1, h2⟩ := gives_empty h hk hd1 true
        refine ⟨q, h1.conv ?_ ?_, h2⟩
        · simp only [rep, List.cons_append, List.nil_append, bytesP_cons, eb, ee]; simp [bytesP]
        · simp [rep, beginEv]
      | succ m =>
        obtain ⟨q, h1, h2⟩ := gives_open h hk hd1 true (m + 1) (by omega) (by omega)
        obtain ⟨r, h3, h4⟩ := map_gives ih st hd2 (m + 1) m 0 (nx l).2 q (by omega) (by simpa using h2)
        refine ⟨r, (h1.trans h3).conv ?_ ?_, h4⟩
        · simp only [List.cons_append, bytesP_cons, bytesP_append, eb, ee]; simp [bytesP]
        · simp [beginEv]

/-- the document, whole -/
theorem doc_gives (l : List Int) (dep : Nat) : ∃ q, (Pk.new dep).Gives (bytesP (doc l dep)) (doc l dep) q ∧ Idle dep [] true q := by
  obtain ⟨q, h1, h2⟩ := item_gives dep dep l [] (Pk.new dep) Idle.new (by simp) rfl
  exact ⟨q, h1.conv rfl (by simp [doc, closeUp]), h2⟩

theorem back_all (l : List Int) (dep : Nat) (h : 1 ≤ dep ∧ dep ≤ 16) : packAll (bytesP (doc l dep)) dep = (doc l dep, 0) := by
  obtain ⟨q, h1, h2⟩ := doc_gives l dep
  have := h1 []
  rw [List.append_nil] at this
  unfold packAll
  rw [if_neg (by omega), this]
  simp [Pk.run, Core.over, h2.e, h2.done]

theorem more_all (l : List Int) (dep : Nat) (h : 1 ≤ dep ∧ dep ≤ 16) (b : UInt8) : packAll (bytesP (doc l dep) ++ [b]) dep = (doc l dep, 2) := by
  obtain ⟨q, h1, h2⟩ := doc_gives l dep
  unfold packAll
  rw [if_neg (by omega), h1 [b], h2.done_step]
  simp

/-! ### cut -/

/-- where the document is at its end nothing is open -/
structure Still (p : Pk) : Prop where
  sep : 0 < p.c.lack → p.kind = 0
  end_ : p.c.done = true → ¬ 0 < p.c.lack ∧ p.kind = 0

theorem still_done {p : Pk} (hl : ¬ 0 < p.c.lack) (hk : p.kind = 0) : Still p := ⟨fun _ => hk, fun _ => ⟨hl, hk⟩⟩
theorem still_open {p : Pk} (hk : p.kind = 0) (hd : p.c.done = false) : Still p := ⟨fun _ => hk, fun h => absurd (hd.symm.trans h) (by decide)⟩

theorem still_value {p : Pk} (hl : ¬ 0 < p.c.lack) (hk : p.kind = 0) (ev : Ev) : Still (p.put (p.c.value ev)).2 := still_done hl hk

theorem still_count {p : Pk} (hl : ¬ 0 < p.c.lack) (hk : p.kind = 0) (m : Bool) (n : Int) : Still (p.count m n).2 := by
  unfold Pk.count
  split
  · exact still_done hl hk
  · unfold Core.begin
    split <;> exact still_done hl hk

theorem still_length {p : Pk} (hd : p.c.done = false) (hk : p.kind = 0) (w : Bool) (n : Int) : Still (p.put (p.c.length w n)).2 := by
  unfold Core.length
  split
  · exact still_open hk hd
  · simp only []
    split
    · exact still_open hk hd
    · rename_i hn
      refine still_done ?_ hk
      simp only [Pk.put, Core.text, Core.value]
      intro h0
      exact hn (Or.inl h0)

theorem still_item {p : Pk} (hl : ¬ 0 < p.c.lack) (hk : p.kind = 0) (b : Int) : Still (p.item b).2 := by
  have hf : ∀ e, Still (p.put (p.c.fail e)).2 := fun e => still_done hl hk
  by_cases hd : p.c.done = true
  · unfold Pk.item
    rw [if_pos (Or.inl hd)]
    exact hf 2
  · have hd' : p.c.done = false := by simpa using hd
    have hlong : Still (p.long b).2 := by
      unfold Pk.long Pk.follows
      repeat' split
      all_goals exact ⟨fun h => absurd h hl, fun h => absurd (hd'.symm.trans h) (by decide)⟩
    unfold Pk.item
    repeat' split
    all_goals first | exact hf _ | exact still_value hl hk _ | exact still_count hl hk _ _ | exact still_length hd' hk _ _ | exact hlong

theorem still_step {p : Pk} (h : Still p) (he : p.c.e = 0) (b : Int) : Still (p.step b).2 := by
  unfold Pk.step
  rw [if_neg (by simp [he])]
  by_cases hl : 0 < p.c.lack
  · rw [if_pos hl]
    have hk := h.sep hl
    have hd : p.c.done = false := by
      cases hd : p.c.done with
      | false => rfl
      | true => exact absurd hl (h.end_ hd).1
    unfold Core.byte
    generalize (if p.c.word = true then p.c.c.step b else p.c.c) = c'
    simp only []
    split
    · exact still_open hk hd
    · split
      · exact still_open hk hd
      · rename_i h2
        refine still_done ?_ hk
        simp only [Pk.put, Core.text, Core.value]
        intro h0
        exact h2 (Or.inl h0)
  · rw [if_neg hl]
    by_cases hk : p.kind = 0
    · rw [if_neg (by simp [hk])]; exact still_item hl hk b
    · rw [if_pos hk]
      have hd : p.c.done = false := by
        cases hd : p.c.done with
        | false => rfl
        | true => exact absurd (h.end_ hd).2 hk
      unfold Pk.number
      split
      · exact ⟨fun hh => absurd hh hl, fun hh => absurd (hd.symm.trans hh) (by decide)⟩
      · unfold Pk.told
        split
        · exact still_value (by exact hl) rfl _
        · split
          · exact still_value (by exact hl) rfl _
          · split
            · exact still_length (by exact hd) rfl _ _
            · exact still_count (by exact hl) rfl _ _

/-- a beginning of what is read without an error, to whose end a byte lacks: it comes too early -/
theorem cut_run : ∀ (l : List UInt8) (p : Pk) (b : UInt8) (r : List UInt8), Still p → p.c.e = 0 → (p.run (l ++ b :: r)).2 = 0 → (p.run l).2 = 3
  | [], p, b, r, h, he, h0 => by
    cases hd : p.c.done with
    | false => simp [Pk.run, Core.over, he, hd]
    | true =>
      obtain ⟨h1, h2⟩ := h.end_ hd
      rw [List.nil_append, run_cons] at h0
      unfold Pk.step at h0
      rw [if_neg (by simp [he]), if_neg h1, if_neg (by simp [h2])] at h0
      unfold Pk.item at h0
      rw [if_pos (Or.inl hd), cont_err (by simp [Pk.put, Core.fail])] at h0
      simp [Pk.put, Core.fail] at h0
  | a :: l, p, b, r, h, he, h0 => by
    rw [List.cons_append, run_cons] at h0
    rw [run_cons]
    by_cases hq : (p.step a.toNat).2.c.e = 0
    · rw [cont_ok hq] at h0 ⊢
      exact cut_run l _ b r (still_step h he _) hq h0
    · rw [cont_err hq] at h0
      exact absurd h0 hq

theorem cut_all (l : List Int) (dep : Nat) (h : 1 ≤ dep ∧ dep ≤ 16) (k : Nat) (hk : k < (bytesP (doc l dep)).length) : (packAll ((bytesP (doc l dep)).take k) dep).2 = 3 := by
  have h1 := back_all l dep h
  unfold packAll at h1 ⊢
  rw [if_neg (by omega)] at h1 ⊢
  have e : bytesP (doc l dep) = (bytesP (doc l dep)).take k ++ (bytesP (doc l dep))[k] :: (bytesP (doc l dep)).drop (k + 1) := by
    rw [← List.drop_eq_getElem_cons hk, List.take_append_drop]
  refine cut_run _ _ (bytesP (doc l dep))[k] ((bytesP (doc l dep)).drop (k + 1)) (still_open rfl rfl) rfl ?_
  rw [← e, h1]
end Go.Tru
