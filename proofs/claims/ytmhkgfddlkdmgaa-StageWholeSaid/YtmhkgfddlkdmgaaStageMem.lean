/-
  The stage in memory.
-/
import Derived.Test.YtmhkgfddlkdmgaaStageModel
import Derived.Test.YtmhkgfddlkdmgaaAnys
namespace Go.Tru

def StC.cells (c : StC) : List Value := [.int .i64 c.at_, .int .i64 c.parts]
def opnCells (s : List StC) : List Value := s.reverse.flatMap StC.cells

theorem opnCells_len (s : List StC) : (opnCells s).length = s.length * 2 := by
  unfold opnCells
  induction s with
  | nil => rfl
  | cons c s ih => rw [List.reverse_cons, List.flatMap_append, List.length_append, ih]; simp [StC.cells]; omega

theorem opnCells_cons (c : StC) (s : List StC) : opnCells (c :: s) = opnCells s ++ c.cells := by
  unfold opnCells
  rw [List.reverse_cons, List.flatMap_append, List.flatMap_cons, List.flatMap_nil, List.append_nil]

/-- The slice value v holds the open containers, in a row that the call owns. -/
def OwnsOpn (w : World) (base : Nat) (v : Value) (s : List StC) : Prop := w.ownsRow base 66 2 v s.length (opnCells s)

theorem OwnsOpn.nil (w : World) (base : Nat) : OwnsOpn w base (.slice none 0 0) [] := World.ownsRow_nil _ _ _ _

theorem OwnsOpn.shape {w : World} {base : Nat} {v : Value} {s : List StC} (h : OwnsOpn w base v s) : ∃ a cap, v = .slice a s.length cap := by
  rcases h.2 with ⟨h1, h2⟩ | ⟨g, cap, cur, h1, _⟩
  · exact ⟨none, 0, by rw [h1, h2]⟩
  · exact ⟨_, _, h1⟩

theorem OwnsOpn.some_ {w : World} {base : Nat} {v : Value} {c : StC} {s : List StC} (h : OwnsOpn w base v (c :: s)) :
    ∃ g cap, v = .slice (some ⟨g, 0, none⟩) (s.length + 1) cap ∧ base ≤ g ∧ g < w.heap.size ∧ s.length + 1 ≤ cap ∧ cap ≤ maxLen ∧
      w.cell? ⟨g, s.length * 2, none⟩ = some (.int .i64 c.at_) ∧ w.cell? ⟨g, s.length * 2 + 1, none⟩ = some (.int .i64 c.parts) ∧ ∀ j, w.frozen? ⟨g, j, none⟩ = false := by
  have hlt := World.ownsRow.lt h
  rcases h.2 with ⟨_, h2⟩ | ⟨g, cap, cur, rfl, hb, hg, hn, hm, _⟩
  · simp at h2
  · have hl := opnCells_len s
    refine ⟨g, cap, rfl, hb, (hlt g rfl).2, hn, hm, ?_, ?_, fun j => World.ownsRow.frozenAt h j⟩
    all_goals
      rw [World.ownsRow.cellAt h _ (by simp only [List.length_cons]; omega), opnCells_cons, List.getElem?_append_right (by omega), hl]
      simp [StC.cells]

theorem OwnsOpn.pop {w : World} {base g cap : Nat} {c : StC} {s : List StC} (h : OwnsOpn w base (.slice (some ⟨g, 0, none⟩) (s.length + 1) cap) (c :: s)) :
    OwnsOpn w base (.slice (some ⟨g, 0, none⟩) s.length cap) s := by
  unfold OwnsOpn at h ⊢
  rw [opnCells_cons] at h
  exact ownsRow_pop (opnCells_len s) h

theorem OwnsOpn.setParts {w : World} {base g cap : Nat} {c : StC} {s : List StC} (h : OwnsOpn w base (.slice (some ⟨g, 0, none⟩) (s.length + 1) cap) (c :: s)) (p : Int) :
    OwnsOpn (w.setCell ⟨g, s.length * 2 + 1, none⟩ (.int .i64 p)) base (.slice (some ⟨g, 0, none⟩) (s.length + 1) cap) ({ c with parts := p } :: s) := by
  have h1 := (World.ownsRow.stored h (s.length * 2 + 1) (.int .i64 p)).1
  unfold OwnsOpn
  have e : (opnCells (c :: s)).set (s.length * 2 + 1) (.int .i64 p) = opnCells ({ c with parts := p } :: s) := by
    have hl := opnCells_len s
    rw [opnCells_cons, opnCells_cons, List.set_append_right _ _ (by omega), hl]
    have : s.length * 2 + 1 - s.length * 2 = 1 := by omega
    rw [this]
    simp [StC.cells]
  rw [e] at h1
  exact h1

theorem stc_one (c : StC) : ∀ u ∈ c.cells, u.oneCell' = true := by
  intro u hu
  simp only [StC.cells, List.mem_cons, List.not_mem_nil, or_false] at hu
  rcases hu with rfl | rfl <;> rfl

/-- one part that has just been laid -/
theorem new_part {p : Ev} {pv : Value} (hpv : p.part = pv) {w : World} {t : TypeId} {g : Nat} (hg : g = w.heap.size) : ∀ (j : Nat) (u : Value), ([p].map Ev.part)[j]? = some u → (w.alloc (.cells #[pv] t)).cell? ((⟨g, 0, none⟩ : Addr).add j) = some u := by
  subst hpv
  exact cells_new ([p].map Ev.part) hg

/-- Block b is a Stage; its slices lie in rows of their own. -/
structure StIn (w : World) (base b : Nat) (hv ov : Value) (s : St) : Prop where
  blk : Has w b [.int .i64 s.limit, hv, .int .i64 s.size, ov, .int .i64 s.e] 57
  held : OwnsAny w base hv s.held
  opn : OwnsOpn w base ov s.open_
  bh : b ∉ blks hv
  bo : b ∉ blks ov
  ho : ∀ i, i ∈ blks hv → i ∉ blks ov

theorem StIn.keeps {F : List Nat} {w w' : World} {base b : Nat} {hv ov : Value} {s : St} (h : StIn w base b hv ov s) (k : Keeps F w w') (hb : b ∉ F) (hh : ∀ i ∈ blks hv, i ∉ F) (hoo : ∀ i ∈ blks ov, i ∉ F) : StIn w' base b hv ov s :=
  ⟨h.blk.keeps k hb, ownsRow_keeps h.held k (fun i hi => hh i (mem_blks.2 hi)), ownsRow_keeps h.opn k (fun i hi => hoo i (mem_blks.2 hi)), h.bh, h.bo, h.ho⟩

theorem StIn.keep0 {w w' : World} {base b : Nat} {hv ov : Value} {s : St} (h : StIn w base b hv ov s) (k : Keeps [] w w') : StIn w' base b hv ov s :=
  h.keeps k (by simp) (by simp) (by simp)

/-- the blocks that a Stage may write -/
def stBlks (b : Nat) (hv ov : Value) : List Nat := b :: (blks hv ++ blks ov)

/-- what a method of the Stage leaves -/
def StPost (w : World) (base b : Nat) (hv ov : Value) (s' : St) (w' : World) : Prop :=
  ∃ hv' ov', StIn w' base b hv' ov' s' ∧ Keeps (stBlks b hv ov) w w' ∧ ∀ i ∈ stBlks b hv' ov', i ∈ stBlks b hv ov ∨ w.heap.size ≤ i

theorem StPost.trans {w w1 w2 : World} {base b : Nat} {hv ov hv1 ov1 : Value} {s2 : St} (k : Keeps (stBlks b hv ov) w w1) (hs : ∀ i ∈ stBlks b hv1 ov1, i ∈ stBlks b hv ov ∨ w.heap.size ≤ i) (h : StPost w1 base b hv1 ov1 s2 w2) : StPost w base b hv ov s2 w2 := by
  obtain ⟨hv2, ov2, h1, h2, h3⟩ := h
  refine ⟨hv2, ov2, h1, k.trans' h2 hs, fun i hi => ?_⟩
  rcases h3 i hi with h | h
  · exact hs i h
  · exact Or.inr (Nat.le_trans k.size h)
theorem StIn.base_lt {w : World} {base b : Nat} {hv ov : Value} {s : St} (h : StIn w base b hv ov s) : b < w.heap.size := h.blk.lt

/-- the list of what is held has been put back, longer or turned -/
theorem StIn.setHeld {w w2 : World} {base b : Nat} {hv ov v2 : Value} {s : St} {l : List Ev} (h : StIn w base b hv ov s) (hown : OwnsAny w2 base v2 l) (k : Keeps (blks hv) w w2) (hb : v2.ownBlock = hv.ownBlock ∨ ∃ n, v2.ownBlock = some n ∧ w.heap.size ≤ n) :
    StIn (w2.setCell ⟨b, 1, none⟩ v2) base b v2 ov { s with held := l } ∧ Keeps (stBlks b hv ov) w (w2.setCell ⟨b, 1, none⟩ v2) ∧ ∀ i ∈ stBlks b v2 ov, i ∈ stBlks b hv ov ∨ w.heap.size ≤ i := by
  have hbl := h.base_lt
  have hnew : ∀ i, i ∈ blks v2 → i ∈ blks hv ∨ w.heap.size ≤ i := fun i hi => by
    rw [mem_blks] at hi ⊢
    rcases hb with h1 | ⟨n, h1, h2⟩
    · rw [← h1]; exact Or.inl hi
    · rw [h1] at hi
      injection hi with hi
      exact Or.inr (hi ▸ h2)
  have hb2 : b ∉ blks v2 := fun hm => by
    rcases hnew b hm with h1 | h1
    · exact h.bh h1
    · omega
  have hset : Keeps [b] w2 (w2.setCell ⟨b, 1, none⟩ v2) := (Keeps.refl _ _).set1 v2
  have hopn : OwnsOpn w2 base ov s.open_ := ownsRow_keeps h.opn k (fun i hi hm => h.ho i hm (mem_blks.2 hi))
  refine ⟨⟨(h.blk.keeps k h.bh).set 1 v2, ownsRow_keeps hown hset (fun i hi hm => hb2 (by rw [List.mem_singleton] at hm; exact hm ▸ mem_blks.2 hi)), ownsRow_keeps hopn hset (fun i hi hm => h.bo (by rw [List.mem_singleton] at hm; exact hm ▸ mem_blks.2 hi)), hb2, h.bo, fun i hi hm => ?_⟩, ?_, fun i hi => ?_⟩
  · rcases hnew i hi with h1 | h1
    · exact h.ho i h1 hm
    · have := (World.ownsRow.lt h.opn i (mem_blks.1 hm)).2
      omega
  · exact (k.mono (fun i hi => List.mem_cons_of_mem _ (List.mem_append_left _ hi))).trans (hset.mono (fun i hi => by rw [List.mem_singleton] at hi; exact hi ▸ List.mem_cons_self ..))
  · rcases List.mem_cons.1 hi with rfl | hi
    · exact Or.inl (List.mem_cons_self ..)
    · rcases List.mem_append.1 hi with hi | hi
      · rcases hnew i hi with h1 | h1
        · exact Or.inl (List.mem_cons_of_mem _ (List.mem_append_left _ h1))
        · exact Or.inr h1
      · exact Or.inl (List.mem_cons_of_mem _ (List.mem_append_right _ hi))

theorem OwnsAny.some_ {w : World} {base : Nat} {v : Value} {l : List Ev} (h : OwnsAny w base v l) (hl : l ≠ []) :
    ∃ g cap, v = .slice (some ⟨g, 0, none⟩) l.length cap ∧ g < w.heap.size ∧ l.length ≤ cap ∧ cap ≤ maxLen ∧ (∀ i p, l[i]? = some p → w.cell? ⟨g, i, none⟩ = some p.part) ∧ ∀ j, w.frozen? ⟨g, j, none⟩ = false := by
  have hlt := World.ownsRow.lt h
  rcases h.2 with ⟨_, h2⟩ | ⟨g, cap, cur, rfl, hb, hg, hn, hm, _⟩
  · exact absurd (List.length_eq_zero_iff.1 h2) hl
  · refine ⟨g, cap, rfl, (hlt g rfl).2, hn, hm, fun i p hp => ?_, fun j => World.ownsRow.frozenAt h j⟩
    have hi : i < l.length := (List.getElem?_eq_some_iff.1 hp).1
    rw [World.ownsRow.cellAt h i (by omega)]
    simp [hp]

theorem OwnsAny.setAt {w : World} {base g cap : Nat} {l : List Ev} (h : OwnsAny w base (.slice (some ⟨g, 0, none⟩) l.length cap) l) (i : Nat) (q : Ev) : OwnsAny (w.setCell ⟨g, i, none⟩ q.part) base (.slice (some ⟨g, 0, none⟩) l.length cap) (l.set i q) := by
  have h1 := (World.ownsRow.stored h i q.part).1
  unfold OwnsAny
  rw [List.length_set, List.map_set]
  exact h1

/-- the list of what is open has been put back, shorter or turned -/
theorem StIn.setOpn {w : World} {base b : Nat} {hv ov v2 : Value} {s : St} {l : List StC} (h : StIn w base b hv ov s) (hown : OwnsOpn w base v2 l) (hb : v2.ownBlock = ov.ownBlock ∨ v2.ownBlock = none) :
    StIn (w.setCell ⟨b, 3, none⟩ v2) base b hv v2 { s with open_ := l } ∧ ∀ i ∈ stBlks b hv v2, i ∈ stBlks b hv ov := by
  have hsub : ∀ i, i ∈ blks v2 → i ∈ blks ov := fun i hi => by
    rw [mem_blks] at hi ⊢
    rcases hb with h1 | h1
    · rw [← h1]; exact hi
    · rw [h1] at hi; cases hi
  have hset : Keeps [b] w (w.setCell ⟨b, 3, none⟩ v2) := (Keeps.refl _ _).set1 _
  refine ⟨⟨h.blk.set 3 _, ownsRow_keeps h.held hset (fun i hi hm => h.bh (by rw [List.mem_singleton] at hm; exact hm ▸ mem_blks.2 hi)), ownsRow_keeps hown hset (fun i hi hm => h.bo (by rw [List.mem_singleton] at hm; exact hm ▸ hsub i (mem_blks.2 hi))), h.bh, fun hm => h.bo (hsub b hm), fun i hi hm => h.ho i hi (hsub i hm)⟩, fun i hi => ?_⟩
  rcases List.mem_cons.1 hi with rfl | hi
  · exact List.mem_cons_self ..
  · rcases List.mem_append.1 hi with hi | hi
    · exact List.mem_cons_of_mem _ (List.mem_append_left _ hi)
    · exact List.mem_cons_of_mem _ (List.mem_append_right _ (hsub i hi))

theorem StIn.setAt {w : World} {base b g cap : Nat} {ov : Value} {s : St} (h : StIn w base b (.slice (some ⟨g, 0, none⟩) s.held.length cap) ov s) (i : Nat) (q : Ev) :
    StIn (w.setCell ⟨g, i, none⟩ q.part) base b (.slice (some ⟨g, 0, none⟩) s.held.length cap) ov { s with held := s.held.set i q } := by
  have hgb : b ≠ g := fun e => h.bh (by rw [mem_blks, e]; rfl)
  have hset : Keeps [g] w (w.setCell ⟨g, i, none⟩ q.part) := (Keeps.refl _ _).set1 _
  refine ⟨h.blk.other hgb _, OwnsAny.setAt h.held i q, ownsRow_keeps h.opn hset (fun j hj hm => h.ho g (by rw [mem_blks]; rfl) (by rw [List.mem_singleton] at hm; exact hm ▸ mem_blks.2 hj)), h.bh, h.bo, h.ho⟩

/-- the list of what was held goes out -/
theorem close_out {w w3 : World} {base b : Nat} {hv ov v3 : Value} {s : St} {l : List Ev} (h : StIn w base b hv ov s) (hown : OwnsAny w3 base v3 l) (k : Keeps (blks hv) w w3) (hb : v3.ownBlock = hv.ownBlock ∨ ∃ n, v3.ownBlock = some n ∧ w.heap.size ≤ n) :
    OwnsAny ((w3.setCell ⟨b, 1, none⟩ (.slice none 0 0)).setCell ⟨b, 2, none⟩ (.int .i64 0)) base v3 l ∧
      StPost w base b hv ov { s with held := [], size := 0 } ((w3.setCell ⟨b, 1, none⟩ (.slice none 0 0)).setCell ⟨b, 2, none⟩ (.int .i64 0)) := by
  have hbl := h.base_lt
  have hnb : b ∉ blks v3 := fun hm => by
    rw [mem_blks] at hm
    rcases hb with h1 | ⟨n, h1, h2⟩
    · exact h.bh (by rw [mem_blks, ← h1]; exact hm)
    · rw [h1] at hm
      injection hm with hm
      omega
  have hset : Keeps [b] w3 ((w3.setCell ⟨b, 1, none⟩ (.slice none 0 0)).setCell ⟨b, 2, none⟩ (.int .i64 0)) := ((Keeps.refl _ _).set1 _).set1 _
  have hbk := (h.blk.keeps k h.bh)
  have hopn : OwnsOpn w3 base ov s.open_ := ownsRow_keeps h.opn k (fun i hi hm => h.ho i hm (mem_blks.2 hi))
  refine ⟨ownsRow_keeps hown hset (fun i hi hm => hnb (by rw [List.mem_singleton] at hm; exact hm ▸ mem_blks.2 hi)), .slice none 0 0, ov, ⟨((hbk.set 1 _).set 2 _).conv (by simp), OwnsAny.nil _ _, ownsRow_keeps hopn hset (fun i hi hm => h.bo (by rw [List.mem_singleton] at hm; exact hm ▸ mem_blks.2 hi)), by simp [blks_nil], h.bo, by simp [blks_nil]⟩, ?_, fun i hi => ?_⟩
  · exact (k.mono (fun i hi => List.mem_cons_of_mem _ (List.mem_append_left _ hi))).trans (hset.mono (fun i hi => by rw [List.mem_singleton] at hi; exact hi ▸ List.mem_cons_self ..))
  · rcases List.mem_cons.1 hi with rfl | hi
    · exact Or.inl (List.mem_cons_self ..)
    · rw [blks_nil, List.nil_append] at hi
      exact Or.inl (List.mem_cons_of_mem _ (List.mem_append_right _ hi))

theorem StIn.setSize {w : World} {base b : Nat} {hv ov : Value} {s : St} (h : StIn w base b hv ov s) (x : Int) : StIn (w.setCell ⟨b, 2, none⟩ (.int .i64 x)) base b hv ov { s with size := x } := by
  have hset : Keeps [b] w (w.setCell ⟨b, 2, none⟩ (.int .i64 x)) := (Keeps.refl _ _).set1 _
  exact ⟨h.blk.set 2 _, ownsRow_keeps h.held hset (fun i hi hm => h.bh (by rw [List.mem_singleton] at hm; exact hm ▸ mem_blks.2 hi)), ownsRow_keeps h.opn hset (fun i hi hm => h.bo (by rw [List.mem_singleton] at hm; exact hm ▸ mem_blks.2 hi)), h.bh, h.bo, h.ho⟩

theorem stBad_in {w' : World} {base b : Nat} (hb : Has w' b [.int .i64 0, .slice none 0 0, .int .i64 0, .slice none 0 0, .int .i64 10] 57) : StIn w' base b (.slice none 0 0) (.slice none 0 0) stBad :=
  ⟨hb, OwnsAny.nil _ _, OwnsOpn.nil _ _, by simp [blks_nil], by simp [blks_nil], by simp [blks_nil]⟩

theorem stBad_post {w w' : World} {base b : Nat} {hv ov hv2 ov2 : Value} {t : St} (h : StIn w' base b hv2 ov2 t) (k : Keeps (stBlks b hv ov) w w') :
    StPost w base b hv ov stBad (((((w'.setCell ⟨b, 0, none⟩ (.int .i64 0)).setCell ⟨b, 1, none⟩ (.slice none 0 0)).setCell ⟨b, 2, none⟩ (.int .i64 0)).setCell ⟨b, 3, none⟩ (.slice none 0 0)).setCell ⟨b, 4, none⟩ (.int .i64 10)) := by
  have hb : b ∈ stBlks b hv ov := List.mem_cons_self ..
  refine ⟨_, _, stBad_in ((((((h.blk.set 0 _).set 1 _).set 2 _).set 3 _).set 4 _).conv (by simp)), ((((k.setCell (Or.inl hb) _).setCell (Or.inl hb) _).setCell (Or.inl hb) _).setCell (Or.inl hb) _).setCell (Or.inl hb) _, fun i hi => ?_⟩
  simp only [stBlks, blks_nil, List.append_nil, List.mem_singleton] at hi
  exact Or.inl (hi ▸ hb)

theorem stBlks_self (b : Nat) (hv ov : Value) : ∀ i ∈ [b], i ∈ stBlks b hv ov := fun i hi => by rw [List.mem_singleton] at hi; exact hi ▸ List.mem_cons_self ..
end Go.Tru
namespace Go.Proofs.Ytmhkgfddlkdmgaa
open Go.RowKit Go.Tru

theorem part_form (p : Ev) : p.part = .nilIface ∨ ∃ T v, p.part = .iface T v := by
  unfold Ev.part
  repeat' split
  all_goals first | exact Or.inl rfl | exact Or.inr ⟨_, _, rfl⟩

end Go.Proofs.Ytmhkgfddlkdmgaa
