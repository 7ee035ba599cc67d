/-
  PackinLong, plain: a text, bytes, a list, told in more bytes than they take.
-/
import Derived.Test.YtmcbdkhlbmhfeaaPackRuns
namespace Go.Tru

/-- a document's length is there -/
theorem top_len (t : Bool) {q : Pk} (hc : q.c = Core.new 1) (l : List UInt8) (hl : l.length ≤ 100) (hu : t = true → (Chk.zero.run l).whole = true) :
    Pk.cont (q.put (q.c.length t l.length)) l = ([wordEv t l], 0) := by
  have hend : ∀ c' : Chk, Pk.cont (q.put (Core.text { q.c with s := l, lack := 0, c := c', word := t })) [] = ([wordEv t l], 0) := by
    intro c'
    rw [hc]
    cases t <;> rfl
  have hlen : q.c.length t l.length = if 0 < (l.length : Int) then ([], { q.c with word := t, lack := (l.length : Nat), c := Chk.zero }) else Core.text { q.c with word := t, lack := (l.length : Nat), c := Chk.zero } := by
    unfold Core.length
    rw [if_neg (by rw [hc]; simp [Core.new]; omega)]
    have hch : q.c.chunks = false := by rw [hc]; rfl
    simp only [hch, Bool.false_eq_true, or_false]
  rw [hlen]
  by_cases h0 : l = []
  · subst h0
    rw [if_neg (by decide)]
    have e : ({ q.c with word := t, lack := (([] : List UInt8).length : Nat), c := Chk.zero } : Core) = { q.c with s := [], lack := 0, c := Chk.zero, word := t } := by rw [hc]; rfl
    rw [e]
    exact hend Chk.zero
  · have hpos : 0 < l.length := List.length_pos_iff.2 h0
    rw [if_pos (by omega)]
    refine (cont_none (p := { q with c := { q.c with word := t, lack := (l.length : Nat), c := Chk.zero } }) (by show q.c.e = 0; rw [hc]; rfl) _).trans ?_
    obtain ⟨c', h⟩ := word_run t l [] hu l [] { q with c := { q.c with word := t, lack := (l.length : Nat), c := Chk.zero } } rfl h0 (by show q.c.e = 0; rw [hc]; rfl) rfl (by show q.c.chunks = false; rw [hc]; rfl) rfl (by show q.c.s = []; rw [hc]; rfl) (fun _ => rfl)
    rw [List.append_nil] at h
    rw [h]
    exact hend c'

theorem long_first (t : Bool) (f : Nat) (hf : f < 3) : (Pk.new 1).step ((if t then 217 else 196) + (f : Int)) = (Pk.new 1).follows (if t then 4 else 3) ((2 ^ f : Nat) : Int) := by
  rcases (show f = 0 ∨ f = 1 ∨ f = 2 by omega) with rfl | rfl | rfl <;> cases t <;> rfl

theorem told_len {q : Pk} {kind all v : Int} (h : kind = 3 ∨ kind = 4) : q.told kind all v = q.put (q.c.length (decide (kind = 4)) v) := by
  unfold Pk.told
  rw [if_neg (by omega), if_neg (by omega), if_pos h]

theorem long_text (t : Bool) (f n : Nat) (hf : f < 3) (hn : n + 1 = 2 ^ f) (l : List UInt8) (hl : l.length ≤ 100) (hu : t = true → (Chk.zero.run l).whole = true) :
    packAll (UInt8.ofNat ((if t then 217 else 196) + f) :: bigB l.length (n + 1) ++ l) 1 = ([wordEv t l], 0) := by
  unfold packAll
  have hb : ((UInt8.ofNat ((if t = true then 217 else 196) + f)).toNat : Int) = (if t = true then 217 else 196) + (f : Int) := by
    have : (UInt8.ofNat ((if t = true then 217 else 196) + f)).toNat = (if t = true then 217 else 196) + f := by cases t <;> simp <;> omega
    rw [this]; cases t <;> simp
  rw [if_neg (by omega), List.cons_append, run_cons, hb, long_first t f hf, ← hn]
  have hv0 : l.length / 256 ^ (n + 1) = 0 := by
    apply Nat.div_eq_of_lt
    have : 256 ^ 1 ≤ 256 ^ (n + 1) := Nat.pow_le_pow_right (by decide) (by omega)
    omega
  obtain ⟨kd, hkd⟩ : ∃ kd : Int, (if t = true then (4 : Int) else 3) = kd := ⟨_, rfl⟩
  have hk2 : kd = 3 ∨ kd = 4 := by rw [← hkd]; split <;> simp
  have hk3 : decide (kd = 4) = t := by rw [← hkd]; cases t <;> rfl
  rw [hkd]
  refine (cont_none (p := ((Pk.new 1).follows kd ((n + 1 : Nat) : Int)).2) rfl _).trans ?_
  rw [num_run l.length l n ((Pk.new 1).follows kd ((n + 1 : Nat) : Int)).2 rfl (by simp [Pk.follows, Pk.new, Core.new]) (by simp only [Pk.follows]; omega) (by simp [Pk.follows]) (by rw [hv0]; rfl)]
  rw [told_len (by exact hk2), show decide (((Pk.new 1).follows kd ((n + 1 : Nat) : Int)).2.kind = 4) = t from hk3]
  exact top_len t (q := { c := (Pk.new 1).c, kind := 0, lack := 0, all := ((n + 1 : Nat) : Int), v := ((l.length : Nat) : Int) }) rfl l hl hu

/-- so many nulls in a list -/
theorem nulls_run (n : Nat) : ∀ (m : Nat) (q : Pk), 0 < m → m ≤ n → q.c.e = 0 → q.c.lack = 0 → q.kind = 0 → q.c.done = false → q.c.open_ = [⟨false, n, (n : Int) - m⟩] → q.run (List.replicate m 192) = (List.replicate m evNull ++ [evEnd], 0)
  | 0, _, h, _, _, _, _, _, _ => by omega
  | m + 1, q, _, hm, he, hl, hk, hd, ho => by
    have hs : q.step (((192 : UInt8).toNat : Nat) : Int) = q.put (q.c.value evNull) := by
      unfold Pk.step
      rw [if_neg (by simp [he]), if_neg (by rw [hl]; decide), if_neg (by simp [hk])]
      unfold Pk.item
      have hak : q.c.atKey = false := by unfold Core.atKey; rw [ho]; rfl
      rw [if_neg (by simp [hd]), if_neg (by simp [hak]), if_neg (by decide), if_neg (by decide), if_neg (by rintro ⟨h, _⟩; exact absurd h (by decide)), if_neg (by decide), if_neg (by decide), if_neg (by decide), if_neg (by decide), if_pos (by decide)]
    have hmet : (⟨false, (n : Int), (n : Int) - (m + 1 : Nat) + 1⟩ : Cont).met = decide (m = 0) := by
      unfold Cont.met
      simp only [Bool.false_eq_true, if_false]
      exact decide_eq_decide.2 (by omega)
    rw [List.replicate_succ, run_cons, hs]
    unfold Core.value
    rw [ho]
    unfold closeUp
    simp only [hmet]
    cases m with
    | zero =>
      rw [decide_eq_true rfl, if_pos rfl, cont_ok (by exact he)]
      simp [Pk.put, Pk.run, Core.over, he, closeUp]
    | succ m =>
      rw [decide_eq_false (by omega), if_neg (by simp), cont_ok (by exact he)]
      have ih := nulls_run n (m + 1) (q.put ([evNull], { q.c with open_ := [⟨false, (n : Int), (n : Int) - (m + 1 + 1 : Nat) + 1⟩], done := q.c.done || false })).2 (by omega) (by omega) he hl hk (by simp [Pk.put, hd]) (by
        simp only [Pk.put]
        congr 2
        omega)
      simp only [Pk.put] at ih ⊢
      rw [ih]
      rfl

theorem told_cnt {q : Pk} {kind all v : Int} (h : kind = 5) : q.told kind all v = q.count false v := by
  subst h
  unfold Pk.told
  rw [if_neg (by decide), if_neg (by decide), if_neg (by decide)]
  rfl

theorem count_small {q : Pk} {m : Bool} {v : Int} (h : ¬ 1000000 < v) : q.count m v = q.put (q.c.begin m v) := by
  unfold Pk.count
  rw [if_neg h]

set_option maxRecDepth 100000 in
theorem long_list (f n m : Nat) (hf : f < 2) (hm : m + 1 = 2 * 2 ^ f) (hn : n ≤ 15) :
    packAll (UInt8.ofNat (220 + f) :: bigB n (m + 1) ++ List.replicate n 192) 1 = (evArr n :: (List.replicate n evNull ++ [evEnd]), 0) := by
  unfold packAll
  have hst : (Pk.new 1).step (((UInt8.ofNat (220 + f)).toNat : Nat) : Int) = (Pk.new 1).follows 5 ((m + 1 : Nat) : Int) := by
    rw [hm]
    rcases (show f = 0 ∨ f = 1 by omega) with rfl | rfl <;> rfl
  rw [if_neg (by omega), List.cons_append, run_cons, hst]
  have hv0 : n / 256 ^ (m + 1) = 0 := by
    apply Nat.div_eq_of_lt
    have : 256 ^ 1 ≤ 256 ^ (m + 1) := Nat.pow_le_pow_right (by decide) (by omega)
    omega
  refine (cont_none (p := ((Pk.new 1).follows 5 ((m + 1 : Nat) : Int)).2) rfl _).trans ?_
  rw [num_run n (List.replicate n 192) m ((Pk.new 1).follows 5 ((m + 1 : Nat) : Int)).2 rfl (by simp [Pk.follows, Pk.new, Core.new]) (by simp [Pk.follows]) (by simp [Pk.follows]) (by rw [hv0]; rfl)]
  rw [told_cnt (by exact rfl), count_small (by omega)]
  unfold Core.begin
  cases n with
  | zero =>
    rw [if_pos (show ((0 : Nat) : Int) = 0 from rfl)]
    rfl
  | succ n =>
    rw [if_neg (by omega), cont_ok (by rfl)]
    rw [nulls_run (n + 1) (n + 1) _ (by omega) (Nat.le_refl _) (by rfl) (by rfl) (by rfl) (by rfl) (by
      simp only [Pk.put, Int.sub_self]
      rfl)]
    rfl
end Go.Tru
