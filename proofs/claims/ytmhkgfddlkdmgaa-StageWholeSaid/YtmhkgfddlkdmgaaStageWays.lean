/-
  What v.(Begin), v.(Close) make of a part; a list of one part; append to the stack of open containers.
-/
import Derived.Test.YtmhkgfddlkdmgaaStageClose
namespace Go.Proofs.Ytmhkgfddlkdmgaa
open Go.RowKit Go.Tru

theorem bump_len (l : List StC) : (bump l).length = l.length := by cases l <;> rfl

theorem part_ways {p : Ev} (h : Clear p) : ∃ (m : Bool) (n : Int),
    (∀ w, (Instr.typeAssert p.part 20 43 true).run Try.prog w = .ok (.tuple #[.agg #[.bool m, .int .i64 n], .bool (isOpen p)]) w) ∧
    (∀ w, (Instr.typeAssert p.part 20 46 true).run Try.prog w = .ok (.tuple #[.agg #[], .bool (decide (p.kind = 7))]) w) ∧ (isOpen p = true → p.count = n) := by
  rcases h with rfl | ⟨b, rfl⟩ | ⟨n, m, rfl⟩ | ⟨s, rfl⟩ | ⟨s, rfl⟩ | ⟨n, hn, rfl⟩ | ⟨n, hn, rfl⟩ | rfl
  · exact ⟨false, 0, ta_nil_Begin, ta_nil_Close, fun h => by simp [isOpen, evNull] at h⟩
  · exact ⟨false, 0, ta_bool_Begin _, ta_bool_Close _, fun h => by simp [isOpen, evBool] at h⟩
  · exact ⟨false, 0, ta_Whole_Begin _, ta_Whole_Close _, fun h => by simp [isOpen, evInt] at h⟩
  · exact ⟨false, 0, ta_Word_Begin _, ta_Word_Close _, fun h => by simp [isOpen, evText] at h⟩
  · exact ⟨false, 0, ta_Blob_Begin _, ta_Blob_Close _, fun h => by simp [isOpen, evBytes] at h⟩
  · exact ⟨false, n, ta_Begin_Begin _, ta_Begin_Close _, fun _ => rfl⟩
  · exact ⟨true, n, ta_Begin_Begin _, ta_Begin_Close _, fun _ => rfl⟩
  · exact ⟨false, 0, ta_Close_Begin _, ta_Close_Close _, fun h => by simp [isOpen, evEnd] at h⟩

theorem ownsRow_lit {w : World} {base g n : Nat} {e : TypeId} {size : Nat} {xs : List Value} (h : Has w g xs e) (hb : base ≤ g) (hl : xs.length = n * size) (hn : n ≤ maxLen) : w.ownsRow base e size (.slice (some ⟨g, 0, none⟩) n n) n xs :=
  ⟨hl, Or.inr ⟨g, n, xs.toArray, rfl, hb, h, Nat.le_refl _, hn, by simp [hl], by simp [← hl]⟩⟩

theorem lit_part {p : Ev} {pv : Value} (hpv : p.part = pv) {w : World} {base g : Nat} (hg : g = w.heap.size) (hb : base ≤ g) : OwnsAny (w.alloc (.cells #[pv] 20)) base (.slice (some ⟨g, 0, none⟩) 1 1) [p] := by
  subst hpv hg
  exact ownsRow_lit (Has.new w ([p].map Ev.part) 20) hb rfl (by simp [maxLen])

theorem info_stc : (Try.prog.info? 66).map (fun i => (i.zero, i.size, i.bytes)) = some (some (.agg #[.int .i64 0, .int .i64 0]), 2, 16) := by kernel_rfl

/-- append of one container, within a region that draws its order -/
theorem wp_append_opn {o : Oper} {a : Act} {w : World} {K : Act → World → Prop} {Q : Exit → Act → World → Prop} (s x : Operand)
    (ho : o.op = .call { callee := .builtin .append, args := #[s, x], argTypes := #[55, 55] })
    (base : Nat) (v : Value) (l : List StC) (hs : a.eval s = v) (hown : OwnsOpn w base v l) (ad : Addr) (c : StC) (hx : a.eval x = .slice (some ad) 1 1)
    (hnews : ∀ (j : Nat) (u : Value), c.cells[j]? = some u → w.cell? (ad.add j) = some u) (hlen : l.length ≤ 1000000) (hbase : base ≤ w.heap.size)
    (h : ∀ v' w', OwnsOpn w' base v' (c :: l) → Keeps (blks v) w w' → (v'.ownBlock = v.ownBlock ∨ v'.ownBlock = some w.heap.size) → K (a.put o.dst v') w') : Oper.wp Try.prog o a w K Q := by
  obtain ⟨i0, hi, hz0, hz1, hz2⟩ := info_parts info_stc
  obtain ⟨v', w', hr, h2, h3, _, h5⟩ := run_append_own_at (P := Try.prog) w base 55 o.type 66 i0 (.agg #[.int .i64 0, .int .i64 0]) 2 16 Try.underlying55 hi hz0 hz1 hz2 rfl (by decide) v l.length (opnCells l) hown ad 1 1 c.cells rfl hnews (stc_one c) (by unfold maxLen; omega) (by omega) hbase
  unfold Oper.wp execOp
  simp only [ho, resolve, invoke, builtin, Sem.run_bind, Sem.run_pure, Result.andThen_ok, List.map_toArray, List.map_cons, List.map_nil, hs, hx, hr]
  refine h v' w' ?_ (keeps_grown h3) h5
  unfold OwnsOpn
  rw [opnCells_cons]
  exact h2

/-- the list of what is open has been put back, longer -/
theorem _root_.Go.Tru.StIn.pushOpn {w w2 : World} {base b : Nat} {hv ov v2 : Value} {s : St} {l : List StC} (h : StIn w base b hv ov s) (hown : OwnsOpn w2 base v2 l) (k : Keeps (blks ov) w w2) (hb : v2.ownBlock = ov.ownBlock ∨ ∃ n, v2.ownBlock = some n ∧ w.heap.size ≤ n) :
    StIn (w2.setCell ⟨b, 3, none⟩ v2) base b hv v2 { s with open_ := l } ∧ Keeps (stBlks b hv ov) w (w2.setCell ⟨b, 3, none⟩ v2) ∧ ∀ i ∈ stBlks b hv v2, i ∈ stBlks b hv ov ∨ w.heap.size ≤ i := by
  have hbl := h.base_lt
  have hnew : ∀ i, i ∈ blks v2 → i ∈ blks ov ∨ w.heap.size ≤ i := fun i hi => by
    rw [mem_blks] at hi ⊢
    rcases hb with h1 | ⟨n, h1, h2⟩
    · rw [← h1]; exact Or.inl hi
    · rw [h1] at hi
      injection hi with hi
      exact Or.inr (hi ▸ h2)
  have hb2 : b ∉ blks v2 := fun hm => by
    rcases hnew b hm with h1 | h1
    · exact h.bo h1
    · omega
  have hset : Keeps [b] w2 (w2.setCell ⟨b, 3, none⟩ v2) := (Keeps.refl _ _).set1 v2
  have hheld : OwnsAny w2 base hv s.held := ownsRow_keeps h.held k (fun i hi hm => h.ho i (mem_blks.2 hi) hm)
  refine ⟨⟨(h.blk.keeps k h.bo).set 3 v2, ownsRow_keeps hheld hset (fun i hi hm => h.bh (by rw [List.mem_singleton] at hm; exact hm ▸ mem_blks.2 hi)), ownsRow_keeps hown hset (fun i hi hm => hb2 (by rw [List.mem_singleton] at hm; exact hm ▸ mem_blks.2 hi)), h.bh, hb2, fun i hi hm => ?_⟩, ?_, fun i hi => ?_⟩
  · rcases hnew i hm with h1 | h1
    · exact h.ho i hi h1
    · have := (World.ownsRow.lt h.held i (mem_blks.1 hi)).2
      omega
  · exact (k.mono (fun i hi => List.mem_cons_of_mem _ (List.mem_append_right _ hi))).trans (hset.mono (fun i hi => by rw [List.mem_singleton] at hi; exact hi ▸ List.mem_cons_self ..))
  · rcases List.mem_cons.1 hi with rfl | hi
    · exact Or.inl (List.mem_cons_self ..)
    · rcases List.mem_append.1 hi with hi | hi
      · exact Or.inl (List.mem_cons_of_mem _ (List.mem_append_left _ hi))
      · rcases hnew i hi with h1 | h1
        · exact Or.inl (List.mem_cons_of_mem _ (List.mem_append_right _ h1))
        · exact Or.inr h1

/-- the innermost container has one part more -/
theorem _root_.Go.Tru.StIn.bump {w : World} {base b og cap : Nat} {hv : Value} {s : St} {c : StC} {r : List StC} (h : StIn w base b hv (.slice (some ⟨og, 0, none⟩) (r.length + 1) cap) s) (ho : s.open_ = c :: r) :
    StIn (w.setCell ⟨og, r.length * 2 + 1, none⟩ (.int .i64 (c.parts + 1))) base b hv (.slice (some ⟨og, 0, none⟩) (r.length + 1) cap) { s with open_ := Go.Tru.bump (c :: r) } := by
  have hgb : b ≠ og := fun e => h.bo (by rw [mem_blks, e]; rfl)
  have hset : Keeps [og] w (w.setCell ⟨og, r.length * 2 + 1, none⟩ (.int .i64 (c.parts + 1))) := (Keeps.refl _ _).set1 _
  have hopn := h.opn
  rw [ho] at hopn
  exact ⟨h.blk.other hgb _, ownsRow_keeps h.held hset (fun j hj hm => h.ho j (mem_blks.2 hj) (by rw [List.mem_singleton] at hm; rw [hm, mem_blks]; rfl)), OwnsOpn.setParts hopn (c.parts + 1), h.bh, h.bo, h.ho⟩
end Go.Proofs.Ytmhkgfddlkdmgaa
