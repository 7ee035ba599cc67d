/-
  StageMixed, plain: documents whose counts are known, within an array whose count is not.
-/
import Derived.Test.YtefdemebmibonaaStageLimPlain
namespace Go.Tru

def runSt (s : St) (l : List Ev) : St := l.foldl (fun s p => (s.step p).2.2) s

theorem runSt_append (s : St) (a b : List Ev) : runSt s (a ++ b) = runSt (runSt s a) b := List.foldl_append
theorem runSt_cons (s : St) (p : Ev) (l : List Ev) : runSt s (p :: l) = runSt (s.step p).2.2 l := rfl

theorem run_stuck {s : St} (h : s.e ≠ 0) : ∀ l, runSt s l = s := by
  intro l
  induction l with
  | nil => rfl
  | cons p l ih =>
    have : s.step p = ([], s.e, s) := by unfold St.step; rw [if_pos h]
    rw [runSt_cons, this]
    exact ih

theorem hold_ok {s : St} {p : Ev} (h : (s.hold p).e = 0) : s.hold p = { s with held := s.held ++ [p], size := s.size + p.size } := by
  unfold St.hold at h ⊢
  split at h
  · simp [stBad] at h
  · rename_i hn; rw [if_neg hn]

theorem run_first {s : St} {p : Ev} {l : List Ev} (h : (runSt s (p :: l)).e = 0) : (s.step p).2.2.e = 0 := by
  rw [runSt_cons] at h
  by_cases he : (s.step p).2.2.e = 0
  · exact he
  · rw [run_stuck he] at h; exact h

theorem run_left {s : St} {a b : List Ev} (h : (runSt s (a ++ b)).e = 0) : (runSt s a).e = 0 := by
  rw [runSt_append] at h
  by_cases he : (runSt s a).e = 0
  · exact he
  · rw [run_stuck he] at h; exact h

theorem heldSet_same {l : List Ev} {i : Nat} {p : Ev} (h : l[i]? = some p) (hl : p.loose = false) (n : Int) : heldSet l i n = l := by
  unfold heldSet
  rw [h]
  simp only []
  have : p.counted n = p := by unfold Ev.counted; rw [hl]; rfl
  rw [this]
  obtain ⟨hi, rfl⟩ := List.getElem?_eq_some_iff.1 h
  exact List.set_getElem_self hi

theorem run_items {n : Nat} {l : List Ev} (h : Items n l) : ∀ {s : St} {c : StC} {r : List StC}, (∀ p ∈ l, p.loose = false) → s.open_ = c :: r → s.e = 0 → (runSt s l).e = 0 →
    runSt s l = { s with held := s.held ++ l, size := s.size + sizes l, open_ := ⟨c.at_, c.parts + n⟩ :: r } := by
  induction h with
  | nil =>
    intro s c r _ ho _ _
    obtain ⟨a, b, cc, d, e⟩ := s
    simp only at ho
    subst ho
    simp [runSt, sizes]
  | @leaf n p l hi h7 _ ih =>
    intro s c r hl ho he hr
    have hs : (s.step p).2.2 = St.hold { s with open_ := bump (c :: r) } p := by
      unfold St.step
      rw [if_neg (by simp [he]), ho]
      simp only []
      rw [if_neg h7, hi]
      rfl
    have h1 := run_first hr
    rw [hs] at h1
    have h2 := hold_ok h1
    rw [runSt_cons, hs, h2] at hr ⊢
    rw [ih (c := ⟨c.at_, c.parts + 1⟩) (r := r) (fun q hq => hl q (List.mem_cons_of_mem _ hq)) (by rfl) (by exact he) hr]
    have e : sizes (p :: l) = p.size + sizes l := by simp [sizes]
    simp only [List.append_assoc, List.singleton_append, e, St.mk.injEq, StC.mk.injEq, List.cons.injEq, and_true, true_and]
    refine ⟨by omega, by push_cast; omega⟩
  | @cont m n p l r' hi hil hir ihl ihr =>
    intro s c r hl ho he hr
    have h7 : p.kind ≠ 7 := by intro e; simp [isOpen, e] at hi
    have hs : (s.step p).2.2 = St.hold { s with open_ := ⟨s.held.length, 0⟩ :: bump (c :: r) } p := by
      unfold St.step
      rw [if_neg (by simp [he]), ho]
      simp only []
      rw [if_neg h7, if_pos hi]
    have h1 := run_first hr
    rw [hs] at h1
    have h2 := hold_ok h1
    rw [runSt_cons, hs, h2] at hr ⊢
    have hpl := hl p (List.mem_cons_self ..)
    have hll : ∀ q ∈ l, q.loose = false := fun q hq => hl q (List.mem_cons_of_mem _ (List.mem_append_left _ hq))
    have hlr : ∀ q ∈ r', q.loose = false := fun q hq => hl q (List.mem_cons_of_mem _ (List.mem_append_right _ (List.mem_cons_of_mem _ hq)))
    have h3 := run_left hr
    rw [runSt_append, ihl (c := ⟨s.held.length, 0⟩) (r := bump (c :: r)) hll (by rfl) (by exact he) h3] at hr ⊢
    have hset : heldSet (s.held ++ [p] ++ l) s.held.length (0 + (m : Int)) = s.held ++ [p] ++ l := heldSet_same (p := p) (by simp) hpl _
    have hs2 : (St.step { limit := s.limit, held := s.held ++ [p] ++ l, size := s.size + p.size + sizes l, open_ := ⟨s.held.length, 0 + (m : Int)⟩ :: bump (c :: r), e := s.e } evEnd).2.2 = St.hold { limit := s.limit, held := s.held ++ [p] ++ l, size := s.size + p.size + sizes l, open_ := bump (c :: r), e := s.e } evEnd := by
      unfold St.step
      rw [if_neg (by simp [he])]
      simp only []
      rw [if_pos (by rfl)]
      unfold St.close
      simp only [bump, hset]
    have h4 := run_first hr
    rw [hs2] at h4
    have h5 := hold_ok h4
    rw [runSt_cons, hs2, h5] at hr ⊢
    rw [ihr (c := ⟨c.at_, c.parts + 1⟩) (r := r) hlr (by rfl) (by exact he) hr]
    have e : sizes (p :: (l ++ evEnd :: r')) = p.size + (sizes l + (evEnd.size + sizes r')) := by
      have e1 : sizes (p :: (l ++ evEnd :: r')) = p.size + sizes (l ++ evEnd :: r') := by simp [sizes]
      have e2 : sizes (evEnd :: r') = evEnd.size + sizes r' := by simp [sizes]
      rw [e1, sizes_append, e2]
    simp only [List.append_assoc, List.cons_append, List.nil_append, e, St.mk.injEq, StC.mk.injEq, List.cons.injEq, and_true, true_and]
    refine ⟨by omega, by push_cast; omega⟩

/-- one document so many times -/
def manyOf (d : List Ev) : Nat → List Ev
  | 0 => []
  | n + 1 => manyOf d n ++ d

theorem many_items {d : List Ev} (h : Items 1 d) : ∀ n, Items n (manyOf d n)
  | 0 => Items.nil
  | n + 1 => (many_items h n).append h

theorem many_all {P : Ev → Prop} {d : List Ev} (h : ∀ p ∈ d, P p) : ∀ n, ∀ p ∈ manyOf d n, P p
  | 0, p, hp => by cases hp
  | n + 1, p, hp => by
    rcases List.mem_append.1 hp with hp | hp
    · exact many_all h n p hp
    · exact h p hp

theorem many_len (d : List Ev) : ∀ n, (manyOf d n).length = n * d.length
  | 0 => by simp [manyOf]
  | n + 1 => by rw [manyOf, List.length_append, many_len d n, Nat.add_mul]; omega

def mixOf (d : List Ev) (n : Nat) : List Ev := evArr (-1) :: (manyOf d n ++ [evEnd])
def mixTo (d : List Ev) (n : Nat) : List Ev := evArr n :: (manyOf d n ++ [evEnd])

/-- the stage behind the array's beginning -/
def mix1 : St := ⟨2000, [evArr (-1)], 1, [⟨0, 0⟩], 0⟩
theorem mix_first : (St.new 2000).step (evArr (-1)) = ([], 0, mix1) := rfl

/-- behind all but the last part -/
theorem mix_last {d : List Ev} (h : Items 1 d) (hl : ∀ p ∈ d, p.loose = false) {n : Nat} {s : St} (hs : s = runSt mix1 (manyOf d n)) (he : s.e = 0) :
    s.step evEnd = (mixTo d n, 0, St.new 2000) := by
  subst hs
  rw [run_items (many_items h n) (s := mix1) (c := ⟨0, 0⟩) (r := []) (many_all hl n) rfl rfl he]
  unfold St.step
  rw [if_neg (by simp [mix1])]
  simp only []
  rw [if_pos (by rfl)]
  simp [St.close, mix1, heldSet, mixTo, St.new, Ev.counted, Ev.loose, evArr]

def MixK (d : List Ev) (n k : Nat) (s : St) : Prop :=
  (k = 0 ∧ s = St.new 2000) ∨ (1 ≤ k ∧ k < (mixOf d n).length ∧ LimSt 2000 (mixOf d n) k s ∧ s = runSt mix1 ((manyOf d n ++ [evEnd]).take (k - 1)))

theorem mix_round {d : List Ev} (h : Items 1 d) (hl : ∀ p ∈ d, DocPart p ∧ p.loose = false) {n k : Nat} {s : St} (hk : k < (mixOf d n).length) (hs : MixK d n k s) :
    ∃ out t, s.step (mixOf d n)[k] = (out, t.e, t) ∧ ((t.e = 10 ∧ out = []) ∨ (t.e = 0 ∧ k + 1 < (mixOf d n).length ∧ out = [] ∧ MixK d n (k + 1) t) ∨ (t.e = 0 ∧ k + 1 = (mixOf d n).length ∧ out = mixTo d n)) := by
  have hlen : (mixOf d n).length = (manyOf d n).length + 2 := by simp [mixOf]
  have hit := many_items h n
  have hcl : ∀ p ∈ mixOf d n, Clear p := by
    intro p hp
    simp only [mixOf, List.mem_cons, List.mem_append, List.not_mem_nil, or_false] at hp
    rcases hp with rfl | hp | rfl
    · exact Or.inr (Or.inr (Or.inr (Or.inr (Or.inr (Or.inl ⟨-1, by omega, rfl⟩)))))
    · exact (many_all hl n p hp).1.1
    · exact Or.inr (Or.inr (Or.inr (Or.inr (Or.inr (Or.inr (Or.inr rfl))))))
  have hcont : ∀ i, 0 < i → i ≤ (manyOf d n).length + 1 → 1 ≤ net ((mixOf d n).take i) := fun i h0 hi => cont_pre (p := evArr (-1)) rfl hit h0 hi
  rcases hs with ⟨rfl, rfl⟩ | ⟨h1, _, hs, hrun⟩
  · have hd0 : (mixOf d n)[0] = evArr (-1) := rfl
    obtain ⟨t, e1, h2⟩ := lim_first (L := 2000) (by omega) hk hd0 rfl rfl (hcl _ (by rw [← hd0]; exact List.getElem_mem hk))
    refine ⟨[], t, by rw [hd0]; exact e1, ?_⟩
    rcases h2 with ⟨h2, rfl⟩ | ⟨h2, h3, h4⟩
    · exact Or.inl ⟨rfl, rfl⟩
    · refine Or.inr (Or.inl ⟨h3, by omega, rfl, Or.inr ⟨by omega, by omega, h4, ?_⟩⟩)
      rw [mix_first] at e1
      injection e1 with _ e1
      injection e1 with _ e1
      rw [← e1]
      rfl
  · by_cases hk2 : k + 1 < (mixOf d n).length
    · obtain ⟨t, e1, h2⟩ := lim_mid hs hk rfl (hcont k (by omega) (by omega)) (hcont (k + 1) (by omega) (by omega)) (hcl _ (List.getElem_mem hk))
      refine ⟨[], t, e1, ?_⟩
      rcases h2 with ⟨h2, rfl⟩ | ⟨h2, h3, h4⟩
      · exact Or.inl ⟨rfl, rfl⟩
      · refine Or.inr (Or.inl ⟨h3, hk2, rfl, Or.inr ⟨by omega, hk2, h4, ?_⟩⟩)
        obtain ⟨j, rfl⟩ : ∃ j, k = j + 1 := ⟨k - 1, by omega⟩
        have hj : j < (manyOf d n ++ [evEnd]).length := by simp; omega
        have hg : (mixOf d n)[j + 1] = (manyOf d n ++ [evEnd])[j] := by simp [mixOf]
        simp only [Nat.add_sub_cancel] at hrun ⊢
        rw [take_snoc hj, runSt_append, ← hrun, ← hg]
        show t = (s.step (mixOf d n)[j + 1]).2.2
        rw [e1]
    · have hke : k = (manyOf d n).length + 1 := by omega
      have hde : (mixOf d n)[k] = evEnd := by simp [mixOf, hke]
      have hrun2 : s = runSt mix1 (manyOf d n) := by
        rw [hrun, hke, Nat.add_sub_cancel, List.take_append_of_le_length (Nat.le_refl _), List.take_length]
      rw [hde, mix_last h (fun p hp => (hl p hp).2) hrun2 hs.e]
      exact ⟨mixTo d n, St.new 2000, rfl, Or.inr (Or.inr ⟨rfl, by omega, rfl⟩)⟩
end Go.Tru
