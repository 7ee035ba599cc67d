/-
  StageWhole, plain: a document of which no count is known, through the stage: all its parts, with counts.
-/
import Derived.Test.YtmhkgfddlkdmgaaStageModel
import Derived.Test.YtmhkgfddlkdmgaaCheckPlain
import Derived.Test.YtmhkgfddlkdmgaaDocBal
namespace Go.Tru

/-- items within a container (m: a map) that has a parts, and has b behind them; no more than d containers in one another; l': the same with all counts -/
inductive Vals : Bool → Int → Int → Nat → List Ev → List Ev → Prop
  | nil {m : Bool} {a : Int} {d : Nat} : Vals m a a d [] []
  | leaf {m : Bool} {a b : Int} {d : Nat} {p : Ev} {r r' : List Ev} (h : isOpen p = false) (h7 : p.kind ≠ 7) (hc : Clear p) (hk : m = true → a % 2 = 0 → p.kind = 3) (hr : Vals m (a + 1) b d r r') : Vals m a b d (p :: r) (p :: r')
  | cont {m : Bool} {a b c : Int} {d : Nat} {p : Ev} {l l' r r' : List Ev} (h : isOpen p = true) (hc : Clear p) (hl : p.loose = true) (hk : m = true → a % 2 ≠ 0) (hc0 : 0 ≤ c) (hcm : p.kind = 6 → c % 2 = 0)
      (hv : Vals (decide (p.kind = 6)) 0 c d l l') (hr : Vals m (a + 1) b (d + 1) r r') : Vals m a b (d + 1) (p :: (l ++ evEnd :: r)) (p.counted c :: (l' ++ evEnd :: r'))

theorem Vals.le {m : Bool} {a b : Int} {d : Nat} {l l' : List Ev} (h : Vals m a b d l l') : a ≤ b := by
  induction h with
  | nil => omega
  | leaf _ _ _ _ _ ih => omega
  | cont _ _ _ _ _ _ _ _ _ ih => omega

theorem ckStep_done {s : List Cont} {d : Bool} {e : Ev} {s' : List Cont} (h : ckStep s d e = .ok (s', true)) : s' = [] := by
  unfold ckStep at h
  split at h
  · cases h
  split at h
  · cases h
  split at h
  · repeat' split at h
    all_goals first | cases h | skip
    all_goals rfl
  · repeat' split at h
    all_goals first | cases h | skip
    rename_i c r _ _
    injection h with h
    injection h with h1 h2
    subst h1
    exact List.isEmpty_iff.1 h2

theorem ckRun_end : ∀ (l : List Ev) {s : List Cont} {d : Bool} {s' : List Cont}, (d = true → s = []) → ckRun s d l = .ok (s', true) → s' = []
  | [], s, d, s', hd, h => by
    simp only [ckRun, Except.ok.injEq, Prod.mk.injEq] at h
    rw [← h.1]; exact hd h.2
  | e :: l, s, d, s', hd, h => by
    unfold ckRun at h
    split at h
    · cases h
    · rename_i s1 d1 h1
      refine ckRun_end l (fun hd1 => ?_) h
      subst hd1
      exact ckStep_done h1

/-- of parts that close a container: what is within, and what is behind -/
theorem vals_parse : ∀ (n : Nat) (l : List Ev), l.length ≤ n → (∀ p ∈ l, Clear p ∧ (isOpen p = true → p.loose = true)) → ∀ (c : Cont) (r : List Cont) (d' : Bool), 0 ≤ c.parts → c.count = -1 → r.length < 16 → ckRun (c :: r) false l = .ok ([], d') →
    ∃ (V V' rest : List Ev) (k : Int), l = V ++ evEnd :: rest ∧ Vals c.pairs c.parts k (15 - r.length) V V' ∧ (c.pairs = true → k % 2 = 0) ∧ ckRun r r.isEmpty rest = .ok ([], d')
  | n, [], _, _, c, r, d', _, _, _, h => by simp [ckRun] at h
  | 0, e :: l, hn, _, _, _, _, _, _, _, _ => by simp at hn
  | n + 1, e :: l, hn, hcl, c, r, d', hp, hc, hr, h => by
    have hce := hcl e (List.mem_cons_self ..)
    have hcl' : ∀ p ∈ l, Clear p ∧ (isOpen p = true → p.loose = true) := fun p hp => hcl p (List.mem_cons_of_mem _ hp)
    have hn' : l.length ≤ n := by simp only [List.length_cons] at hn; omega
    unfold ckRun at h
    split at h
    · cases h
    rename_i s1 d1 h1
    unfold ckStep at h1
    rw [clear_tidy hce.1] at h1
    simp only [Bool.false_eq_true, if_false] at h1
    by_cases h7 : e.kind = 7
    · rw [if_pos h7] at h1
      split at h1
      · rename_i hfull
        injection h1 with h1
        injection h1 with e1 e2
        subst e1 e2
        have : e = evEnd := by
          rcases hce.1 with rfl | ⟨b, rfl⟩ | ⟨n, m, rfl⟩ | ⟨s, rfl⟩ | ⟨s, rfl⟩ | ⟨k, hk, rfl⟩ | ⟨k, hk, rfl⟩ | rfl
          all_goals first | rfl | (simp [evNull, evBool, evInt, evText, evBytes, evArr, evMap] at h7)
        subst this
        refine ⟨[], [], l, c.parts, rfl, Vals.nil, ?_, h⟩
        intro hpm
        unfold Cont.full at hfull
        rw [if_pos (by omega)] at hfull
        simpa [hpm] using hfull
      · cases h1
    rw [if_neg h7] at h1
    split at h1
    · cases h1
    rename_i hkey
    have hkey2 : c.pairs = true → c.parts % 2 = 0 → e.kind = 3 := by
      intro a b
      simpa [a, b] using hkey
    split at h1
    · rename_i hop
      split at h1
      · cases h1
      rename_i h16
      injection h1 with h1
      injection h1 with e1 e2
      subst e1 e2
      have hco : (Cont.of e).count = -1 := by
        have := hce.2 hop
        unfold Ev.loose at this
        simp only [decide_eq_true_eq] at this
        show e.count = -1
        rcases hce.1 with rfl | ⟨b, rfl⟩ | ⟨n, m, rfl⟩ | ⟨s, rfl⟩ | ⟨s, rfl⟩ | ⟨k, hk, rfl⟩ | ⟨k, hk, rfl⟩ | rfl
        all_goals first | (simp [evNull, evBool, evInt, evText, evBytes, evEnd] at this) | skip
        · have := this.2; simp only [evArr] at this ⊢; omega
        · have := this.2; simp only [evMap] at this ⊢; omega
      obtain ⟨V1, V1', rest1, k1, rfl, hv1, hk1, hr1⟩ := vals_parse n l hn' hcl' (Cont.of e) ({ c with parts := c.parts + 1 } :: r) d' (by simp [Cont.of]) hco (by simp only [List.length_cons]; omega) h
      simp only [List.isEmpty_cons] at hr1
      have hl1 : rest1.length ≤ n := by simp only [List.length_append, List.length_cons] at hn'; omega
      obtain ⟨V2, V2', rest2, k2, rfl, hv2, hk2, hr2⟩ := vals_parse n rest1 hl1 (fun p hp => hcl' p (List.mem_append_right _ (List.mem_cons_of_mem _ hp))) { c with parts := c.parts + 1 } r d' (by simp only []; omega) hc hr hr1
      have hd : 15 - r.length = (15 - (({ c with parts := c.parts + 1 } : Cont) :: r).length) + 1 := by simp only [List.length_cons]; omega
      rw [hd] at hv2 ⊢
      have hle := hv1.le
      refine ⟨e :: (V1 ++ evEnd :: V2), e.counted k1 :: (V1' ++ evEnd :: V2'), rest2, k2, by simp, Vals.cont hop hce.1 (hce.2 hop) ?_ (by simpa [Cont.of] using hle) ?_ hv1 hv2, hk2, hr2⟩
      · intro a b
        have := hkey2 a b
        simp [isOpen, this] at hop
      · intro h6
        exact hk1 (by simp [Cont.of, h6])
    · rename_i hop
      injection h1 with h1
      injection h1 with e1 e2
      subst e1 e2
      obtain ⟨V, V', rest, k, rfl, hv, hk, hr1⟩ := vals_parse n l hn' hcl' { c with parts := c.parts + 1 } r d' (by simp only []; omega) hc hr h
      exact ⟨e :: V, e :: V', rest, k, rfl, Vals.leaf (by simpa using hop) h7 hce.1 hkey2 hv, hk, hr1⟩

/-- a whole document -/
inductive WholeDoc : List Ev → List Ev → Prop
  | leaf {p : Ev} (h : isOpen p = false) (h7 : p.kind ≠ 7) (hc : Clear p) : WholeDoc [p] [p]
  | cont {p : Ev} {k : Int} {l l' : List Ev} (h : isOpen p = true) (hc : Clear p) (hl : p.loose = true) (h0 : 0 ≤ k) (hm : p.kind = 6 → k % 2 = 0) (hv : Vals (decide (p.kind = 6)) 0 k 15 l l') : WholeDoc (p :: (l ++ [evEnd])) (p.counted k :: (l' ++ [evEnd]))

theorem whole_of_check {l : List Ev} (h : check l = 0) (hcl : ∀ p ∈ l, Clear p ∧ (isOpen p = true → p.loose = true)) : ∃ l', WholeDoc l l' := by
  obtain ⟨s, hs⟩ := check_ok h
  have hnil := ckRun_end l (by simp) hs
  subst hnil
  cases l with
  | nil => simp [ckRun] at hs
  | cons e l =>
    have hce := hcl e (List.mem_cons_self ..)
    have hcl' : ∀ p ∈ l, Clear p ∧ (isOpen p = true → p.loose = true) := fun p hp => hcl p (List.mem_cons_of_mem _ hp)
    unfold ckRun at hs
    split at hs
    · cases hs
    rename_i s1 d1 h1
    unfold ckStep at h1
    rw [clear_tidy hce.1] at h1
    simp only [Bool.false_eq_true, if_false] at h1
    split at h1
    · cases h1
    rename_i h7
    split at h1
    · rename_i hop
      injection h1 with h1
      injection h1 with e1 e2
      subst e1 e2
      have hco : (Cont.of e).count = -1 := by
        have := hce.2 hop
        unfold Ev.loose at this
        simp only [decide_eq_true_eq] at this
        show e.count = -1
        rcases hce.1 with rfl | ⟨b, rfl⟩ | ⟨n, m, rfl⟩ | ⟨s, rfl⟩ | ⟨s, rfl⟩ | ⟨k, hk, rfl⟩ | ⟨k, hk, rfl⟩ | rfl
        all_goals first | (simp [evNull, evBool, evInt, evText, evBytes, evEnd] at this) | skip
        · have := this.2; simp only [evArr] at this ⊢; omega
        · have := this.2; simp only [evMap] at this ⊢; omega
      obtain ⟨V, V', rest, k, rfl, hv, hk, hr⟩ := vals_parse _ l (Nat.le_refl _) hcl' (Cont.of e) [] true (by simp [Cont.of]) hco (by simp) hs
      have hrest : rest = [] := ckRun_done hr
      subst hrest
      have hle := hv.le
      exact ⟨_, WholeDoc.cont hop hce.1 (hce.2 hop) (by simpa [Cont.of] using hle) (fun h6 => hk (by simp [Cont.of, h6])) hv⟩
    · rename_i hop
      injection h1 with h1
      injection h1 with e1 e2
      subst e1 e2
      have : l = [] := ckRun_done hs
      subst this
      exact ⟨_, WholeDoc.leaf (by simpa using hop) h7 hce.1⟩

/-! ### the stage -/

/-- all steps of these parts without an error: what goes on, and the stage behind -/
def St.walk (s : St) : List Ev → Option (List Ev × St)
  | [] => some ([], s)
  | p :: l => if (s.step p).2.1 = 0 then (match (s.step p).2.2.walk l with | some (o, t) => some ((s.step p).1 ++ o, t) | none => none) else none

theorem walk_append (a b : List Ev) : ∀ (s : St), s.walk (a ++ b) = match s.walk a with | some (o, t) => (match t.walk b with | some (o', t') => some (o ++ o', t') | none => none) | none => none := by
  induction a with
  | nil =>
    intro s
    simp only [List.nil_append, St.walk]
    cases s.walk b <;> rfl
  | cons p a ih =>
    intro s
    simp only [List.cons_append, St.walk]
    by_cases h : (s.step p).2.1 = 0
    · simp only [h, if_true, ih]
      cases (s.step p).2.2.walk a with
      | none => rfl
      | some x =>
        simp only []
        cases x.2.walk b with
        | none => rfl
        | some y => simp only [List.append_assoc]
    · simp only [h, if_false]

theorem walk_one {s : St} {p : Ev} {o : List Ev} {t : St} (h : s.step p = (o, 0, t)) : s.walk [p] = some (o, t) := by
  simp [St.walk, h]

theorem heldSet_at (a b : List Ev) (p : Ev) (n : Int) : heldSet (a ++ p :: b) a.length n = a ++ p.counted n :: b := by
  unfold heldSet
  rw [List.getElem?_append_right (Nat.le_refl _), Nat.sub_self]
  simp

theorem hold_fits {s : St} {p : Ev} (h : s.size + p.size ≤ s.limit) : s.hold p = { s with held := s.held ++ [p], size := s.size + p.size } := by
  unfold St.hold
  rw [if_neg (by omega)]

def sizesOf (l : List Ev) : Int := (l.map Ev.size).sum
theorem sizesOf_cons (p : Ev) (l : List Ev) : sizesOf (p :: l) = p.size + sizesOf l := by simp [sizesOf]
theorem sizesOf_append (a b : List Ev) : sizesOf (a ++ b) = sizesOf a + sizesOf b := by simp [sizesOf, List.sum_append]
theorem sizesOf_pos (l : List Ev) : 0 ≤ sizesOf l := by
  induction l with
  | nil => simp [sizesOf]
  | cons p l ih => rw [sizesOf_cons]; have := size_pos p; omega

theorem walk_vals {m : Bool} {a b : Int} {d : Nat} {l l' : List Ev} (h : Vals m a b d l l') : ∀ {s : St} {at_ : Nat} {r : List StC}, s.open_ = ⟨at_, a⟩ :: r → s.e = 0 → s.size + sizesOf l ≤ s.limit →
    s.walk l = some ([], { s with held := s.held ++ l', size := s.size + sizesOf l, open_ := ⟨at_, b⟩ :: r }) := by
  induction h with
  | nil =>
    intro s at_ r ho he hs
    obtain ⟨x, y, z, o, e⟩ := s
    simp only at ho
    subst ho
    simp [St.walk, sizesOf]
  | @leaf m a b d p l l' hi h7 hc hk _ ih =>
    intro s at_ r ho he hs
    rw [sizesOf_cons] at hs
    have hpos := sizesOf_pos l
    have hst : s.step p = ([], 0, { s with held := s.held ++ [p], size := s.size + p.size, open_ := ⟨at_, a + 1⟩ :: r }) := by
      unfold St.step
      rw [if_neg (by simp [he]), ho]
      simp only []
      rw [if_neg h7, hi]
      simp only [Bool.false_eq_true, if_false, bump]
      rw [hold_fits (by simp only []; omega)]
      simp [he]
    rw [show p :: l = [p] ++ l from rfl, walk_append, walk_one hst]
    simp only []
    rw [ih (s := { s with held := s.held ++ [p], size := s.size + p.size, open_ := ⟨at_, a + 1⟩ :: r }) (at_ := at_) (r := r) rfl he (by simp only []; omega)]
    simp only [List.append_assoc, List.singleton_append, List.nil_append, sizesOf_cons, Int.add_assoc]
  | @cont m a b c d p l l' x x' hi hc hl hk hc0 hcm hv hx ihv ihx =>
    intro s at_ r ho he hs
    have h7 : p.kind ≠ 7 := by intro e; simp [isOpen, e] at hi
    rw [sizesOf_cons, sizesOf_append, sizesOf_cons] at hs
    have hp1 := sizesOf_pos l
    have hp2 := sizesOf_pos x
    have hp3 := size_pos evEnd
    have hst : s.step p = ([], 0, { s with held := s.held ++ [p], size := s.size + p.size, open_ := ⟨s.held.length, 0⟩ :: ⟨at_, a + 1⟩ :: r }) := by
      unfold St.step
      rw [if_neg (by simp [he]), ho]
      simp only []
      rw [if_neg h7, if_pos hi]
      simp only [bump]
      rw [hold_fits (by simp only []; omega)]
      simp [he]
    rw [show p :: (l ++ evEnd :: x) = [p] ++ (l ++ ([evEnd] ++ x)) from rfl, walk_append, walk_one hst]
    simp only []
    rw [walk_append, ihv (s := { s with held := s.held ++ [p], size := s.size + p.size, open_ := ⟨s.held.length, 0⟩ :: ⟨at_, a + 1⟩ :: r }) (at_ := s.held.length) (r := ⟨at_, a + 1⟩ :: r) rfl he (by simp only []; omega)]
    simp only []
    have hst2 : St.step { s with held := s.held ++ [p] ++ l', size := s.size + p.size + sizesOf l, open_ := ⟨s.held.length, c⟩ :: ⟨at_, a + 1⟩ :: r } evEnd =
        ([], 0, { s with held := s.held ++ p.counted c :: (l' ++ [evEnd]), size := s.size + p.size + sizesOf l + evEnd.size, open_ := ⟨at_, a + 1⟩ :: r }) := by
      unfold St.step
      rw [if_neg (by simp [he])]
      simp only []
      rw [if_pos (by rfl)]
      unfold St.close
      simp only []
      rw [show s.held ++ [p] ++ l' = s.held ++ p :: l' by simp, heldSet_at, hold_fits (by simp only []; omega)]
      simp [he]
    rw [walk_append, walk_one hst2]
    simp only []
    rw [ihx (s := { s with held := s.held ++ p.counted c :: (l' ++ [evEnd]), size := s.size + p.size + sizesOf l + evEnd.size, open_ := ⟨at_, a + 1⟩ :: r }) (at_ := at_) (r := r) rfl he (by simp only []; omega)]
    simp only [List.append_assoc, List.nil_append, List.cons_append, sizesOf_cons, sizesOf_append, Int.add_assoc]

theorem walk_whole {l l' : List Ev} (h : WholeDoc l l') {n : Int} (hs : sizesOf l ≤ n) : (St.new n).walk l = some (l', St.new n) := by
  cases h with
  | @leaf p h h7 hc =>
    have hl : p.loose = false := by
      unfold Ev.loose
      simp only [decide_eq_false_iff_not]
      intro hk
      simp [isOpen] at h
      omega
    refine walk_one ?_
    simp [St.step, St.new, hl]
  | @cont p k v v' h hc hl h0 hm hv =>
    have h7 : p.kind ≠ 7 := by intro e; simp [isOpen, e] at h
    rw [sizesOf_cons, sizesOf_append] at hs
    have hp1 := sizesOf_pos v
    have hp3 := sizesOf_pos [evEnd]
    have hst : (St.new n).step p = ([], 0, ⟨n, [p], p.size, [⟨0, 0⟩], 0⟩) := by
      unfold St.step
      rw [if_neg (by simp [St.new])]
      simp only [St.new, hl, if_true]
      rw [hold_fits (by simp only []; omega)]
      simp
    rw [show p :: (v ++ [evEnd]) = [p] ++ (v ++ [evEnd]) from rfl, walk_append, walk_one hst]
    simp only []
    rw [walk_append, walk_vals hv (s := ⟨n, [p], p.size, [⟨0, 0⟩], 0⟩) (at_ := 0) (r := []) rfl rfl (by simp only []; omega)]
    simp only []
    have hst2 : St.step ⟨n, [p] ++ v', p.size + sizesOf v, [⟨0, k⟩], 0⟩ evEnd = (p.counted k :: (v' ++ [evEnd]), 0, St.new n) := by
      unfold St.step
      rw [if_neg (by simp)]
      simp only []
      rw [if_pos (by rfl)]
      unfold St.close
      have := heldSet_at [] v' p k
      simp only [List.nil_append, List.length_nil] at this
      simp [St.new, this]
    rw [walk_one hst2]
    simp

/-! ### the same parts, but their counts -/

def alike (e e' : Ev) : Prop := if e.kind = 5 ∨ e.kind = 6 then e'.kind = e.kind ∧ 0 ≤ e'.count else e' = e

inductive Alike : List Ev → List Ev → Prop
  | nil : Alike [] []
  | cons {p q : Ev} {a b : List Ev} (h : alike p q) (hr : Alike a b) : Alike (p :: a) (q :: b)

theorem Alike.append {a b c d : List Ev} (h : Alike a b) (k : Alike c d) : Alike (a ++ c) (b ++ d) := by
  induction h with
  | nil => exact k
  | cons h _ ih => exact .cons h ih

theorem Alike.len {a b : List Ev} (h : Alike a b) : b.length = a.length := by
  induction h with
  | nil => rfl
  | cons h _ ih => simp [ih]

theorem Alike.get {a b : List Ev} (h : Alike a b) : ∀ {i : Nat} (h1 : i < a.length) (h2 : i < b.length), alike a[i] b[i] := by
  induction h with
  | nil => intro i h1; simp at h1
  | cons h _ ih =>
    intro i h1 h2
    cases i with
    | zero => exact h
    | succ i => exact ih (by simpa using h1) (by simpa using h2)

theorem alike_leaf {p : Ev} (h : isOpen p = false) : alike p p := by
  unfold alike
  simp [isOpen] at h
  rw [if_neg (by omega)]

theorem alike_counted {p : Ev} (h : isOpen p = true) (hl : p.loose = true) {k : Int} (h0 : 0 ≤ k) : alike p (p.counted k) := by
  unfold alike
  have hk : p.kind = 5 ∨ p.kind = 6 := by simpa [isOpen] using h
  rw [if_pos hk]
  unfold Ev.counted
  rw [if_pos hl]
  refine ⟨rfl, ?_⟩
  show 0 ≤ (if p.kind = 6 then k / 2 else k)
  split <;> omega

theorem vals_alike {m : Bool} {a b : Int} {d : Nat} {l l' : List Ev} (h : Vals m a b d l l') : Alike l l' := by
  induction h with
  | nil => exact .nil
  | leaf h _ _ _ _ ih => exact .cons (alike_leaf h) ih
  | cont h _ hl _ h0 _ _ _ ihv ihr => exact .cons (alike_counted h hl h0) (ihv.append (.cons (alike_leaf rfl) ihr))

theorem whole_alike {l l' : List Ev} (h : WholeDoc l l') : Alike l l' := by
  cases h with
  | leaf h h7 hc => exact .cons (alike_leaf h) .nil
  | cont h hc hl h0 hm hv => exact .cons (alike_counted h hl h0) ((vals_alike hv).append (.cons (alike_leaf rfl) .nil))

theorem counted_clear {p : Ev} (h : isOpen p = true) (hc : Clear p) {k : Int} (h0 : 0 ≤ k) : Clear (p.counted k) := (counted_open hc h h0).1

theorem end_clear : Clear evEnd := Or.inr (Or.inr (Or.inr (Or.inr (Or.inr (Or.inr (Or.inr rfl))))))

theorem vals_clear {m : Bool} {a b : Int} {d : Nat} {l l' : List Ev} (h : Vals m a b d l l') : ∀ p ∈ l', Clear p := by
  induction h with
  | nil => intro p hp; cases hp
  | leaf _ _ hc _ _ ih =>
    intro q hq
    rcases List.mem_cons.1 hq with rfl | hq
    · exact hc
    · exact ih q hq
  | cont h hc _ _ h0 _ _ _ ihv ihr =>
    intro q hq
    rcases List.mem_cons.1 hq with rfl | hq
    · exact counted_clear h hc h0
    rcases List.mem_append.1 hq with hq | hq
    · exact ihv q hq
    rcases List.mem_cons.1 hq with rfl | hq
    · exact end_clear
    · exact ihr q hq

theorem whole_clear {l l' : List Ev} (h : WholeDoc l l') : ∀ p ∈ l', Clear p := by
  cases h with
  | leaf h h7 hc => intro q hq; rw [List.mem_singleton] at hq; subst hq; exact hc
  | cont h hc hl h0 hm hv =>
    intro q hq
    rcases List.mem_cons.1 hq with rfl | hq
    · exact counted_clear h hc h0
    rcases List.mem_append.1 hq with hq | hq
    · exact vals_clear hv q hq
    · rw [List.mem_singleton] at hq; subst hq; exact end_clear

/-! ### Check -/

theorem counted_full {p : Ev} (h : isOpen p = true) (hl : p.loose = true) {k : Int} (h0 : 0 ≤ k) (hm : p.kind = 6 → k % 2 = 0) : Cont.full { Cont.of (p.counted k) with parts := k } = true := by
  have hk : p.kind = 5 ∨ p.kind = 6 := by simpa [isOpen] using h
  unfold Ev.counted
  rw [if_pos hl]
  unfold Cont.full Cont.of
  simp only []
  rcases hk with hk | hk
  · simp [hk, show ¬ k < 0 by omega]
  · have := hm hk
    simp [hk, show ¬ k / 2 < 0 by omega, this]

theorem counted_kind {p : Ev} {k : Int} : (p.counted k).kind = p.kind := by unfold Ev.counted; split <;> rfl

theorem ck_vals {m : Bool} {a b : Int} {d : Nat} {l l' : List Ev} (h : Vals m a b d l l') : ∀ (c : Cont) (r : List Cont) (rest : List Ev), c.pairs = m → c.parts = a → r.length + 1 + d = 16 →
    ckRun (c :: r) false (l' ++ rest) = ckRun ({ c with parts := b } :: r) false rest := by
  induction h with
  | nil =>
    intro c r rest hm ha hd
    subst ha
    rfl
  | @leaf m a b d p l l' hi h7 hc hk _ ih =>
    intro c r rest hm ha hd
    subst hm ha
    have hst : ckStep (c :: r) false p = .ok ({ c with parts := c.parts + 1 } :: r, false) := by
      unfold ckStep
      rw [clear_tidy hc]
      simp only [Bool.false_eq_true, if_false, h7, hi]
      rw [if_neg]
      simp only [Bool.and_eq_true, decide_eq_true_eq]
      rintro ⟨⟨h1, h2⟩, h3⟩
      exact h3 (hk h1 h2)
    rw [List.cons_append, ckRun, hst]
    exact ih { c with parts := c.parts + 1 } r rest rfl rfl hd
  | @cont m a b k d p l l' x x' hi hc hl hk hc0 hcm hv hx ihv ihx =>
    intro c r rest hm ha hd
    subst hm ha
    have h7 : p.kind ≠ 7 := by intro e; simp [isOpen, e] at hi
    have hcl := (counted_open hc hi hc0).1
    have hop : isOpen (p.counted k) = true := (counted_open hc hi hc0).2
    have h7' : (p.counted k).kind ≠ 7 := by rw [counted_kind]; exact h7
    have hst : ckStep (c :: r) false (p.counted k) = .ok (Cont.of (p.counted k) :: { c with parts := c.parts + 1 } :: r, false) := by
      unfold ckStep
      rw [clear_tidy hcl]
      simp only [Bool.false_eq_true, if_false, h7', hop, if_true]
      rw [if_neg, if_neg (by omega)]
      simp only [Bool.and_eq_true, decide_eq_true_eq]
      rintro ⟨⟨h1, h2⟩, _⟩
      exact absurd h2 (hk h1)
    have hend : ckStep ({ Cont.of (p.counted k) with parts := k } :: { c with parts := c.parts + 1 } :: r) false evEnd = .ok ({ c with parts := c.parts + 1 } :: r, false) := by
      unfold ckStep
      rw [clear_tidy end_clear]
      have := counted_full hi hl hc0 hcm
      simp [this, evEnd]
    rw [List.cons_append, ckRun, hst]
    simp only [List.append_assoc, List.cons_append]
    rw [ihv (Cont.of (p.counted k)) ({ c with parts := c.parts + 1 } :: r) _ (by simp [Cont.of, counted_kind]) rfl (by simp only [List.length_cons]; omega), ckRun, hend]
    exact ihx { c with parts := c.parts + 1 } r rest rfl rfl hd

theorem ck_whole {l l' : List Ev} (h : WholeDoc l l') : check l' = 0 := by
  cases h with
  | @leaf p h h7 hc =>
    have : ckRun [] false [p] = .ok ([], true) := by
      simp [ckRun, ckStep, clear_tidy hc, h7, h]
    rw [check_end this]; rfl
  | @cont p k v v' h hc hl h0 hm hv =>
    have h7 : p.kind ≠ 7 := by intro e; simp [isOpen, e] at h
    have hcl := (counted_open hc h h0).1
    have hop : isOpen (p.counted k) = true := (counted_open hc h h0).2
    have h7' : (p.counted k).kind ≠ 7 := by rw [counted_kind]; exact h7
    have hst : ckStep [] false (p.counted k) = .ok ([Cont.of (p.counted k)], false) := by
      unfold ckStep
      rw [clear_tidy hcl]
      simp only [Bool.false_eq_true, if_false, h7', hop, if_true]
    have hend : ckStep [{ Cont.of (p.counted k) with parts := k }] false evEnd = .ok ([], true) := by
      unfold ckStep
      rw [clear_tidy end_clear]
      have := counted_full h hl h0 hm
      simp [this, evEnd]
    have : ckRun [] false (p.counted k :: (v' ++ [evEnd])) = .ok ([], true) := by
      rw [ckRun, hst]
      simp only []
      rw [ck_vals hv (Cont.of (p.counted k)) [] [evEnd] (by simp [Cont.of, counted_kind]) rfl rfl, ckRun, hend]
      rfl
    rw [check_end this]; rfl
end Go.Tru
