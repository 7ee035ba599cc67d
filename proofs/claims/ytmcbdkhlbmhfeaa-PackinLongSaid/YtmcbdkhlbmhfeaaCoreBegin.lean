/-
  cborin.Core's Begin: its contract.
-/
import Derived.Test.YtmcbdkhlbmhfeaaCoreText
import Derived.Laws.AppendOwnNone
namespace Go.Tru
theorem beginEv_part (pairs : Bool) (count : Int) : (beginEv pairs count).part = .iface 89 (.agg #[.bool pairs, .int .i64 count]) := by cases pairs <;> rfl
end Go.Tru
namespace Go.Proofs.Ytmcbdkhlbmhfeaa
open Go.RowKit Go.Tru

/-- append an own row of parts to another one -/
theorem app_any_own {ops : Array Oper} {rest : List Oper} {o : Oper} {a : Act} {w : World} {Q : Exit → Act → World → Prop} (hgd : o.guard = none) (s x : Operand)
    (ho : o.op = .call { callee := .builtin .append, args := #[s, x], argTypes := #[47, 47] })
    (base base2 : Nat) (v vx : Value) (es ds : List Ev) (hs : a.eval s = v) (hown : OwnsAny w base v es) (hx : a.eval x = vx) (hds : OwnsAny w base2 vx ds)
    (hlen : es.length + ds.length ≤ 1000000000) (hbase : base ≤ w.heap.size)
    (h : ∀ v' w', OwnsAny w' base v' (es ++ ds) → Keeps (blks v) w w' → (v' = .slice none 0 0 ↔ v = .slice none 0 0 ∧ ds.length = 0) → (v'.ownBlock = v.ownBlock ∨ v'.ownBlock = some w.heap.size) → wpList Try.prog ops Q rest (a.put o.dst v') w') :
    wpList Try.prog ops Q (o :: rest) a w := by
  rcases hds.2 with ⟨rfl, h0⟩ | ⟨g, cap, cur, rfl, hb, hg, hr⟩
  · obtain ⟨i0, hi, hz0, hz1, hz2⟩ := info_parts info_any
    obtain rfl : ds = [] := List.length_eq_zero_iff.1 h0
    refine wpList_append_own_none hgd s x 47 ho base 20 i0 1 Try.underlying47 hi v es.length (es.map Ev.part) hs hown hx ?_
    exact h v w (by rw [List.append_nil]; exact hown) (Keeps.refl _ _) (by simp) (Or.inl rfl)
  · refine app_any hgd s x ho base v es hs hown ⟨g, 0, none⟩ ds.length cap ds hx rfl (World.ownsRow.cells hds (g := g) rfl) hlen hbase h

theorem info_coc : (Try.prog.info? 102).map (fun i => (i.zero, i.size, i.bytes)) = some (some (.agg #[.bool false, .int .i64 0, .int .i64 0]), 3, 24) := by kernel_rfl

/-- append one container -/
theorem app_coc {ops : Array Oper} {rest : List Oper} {o : Oper} {a : Act} {w : World} {Q : Exit → Act → World → Prop} (hgd : o.guard = none) (s x : Operand)
    (ho : o.op = .call { callee := .builtin .append, args := #[s, x], argTypes := #[66, 66] })
    (base : Nat) (v : Value) (l : List Cont) (hs : a.eval s = v) (hown : OwnsStk w base 102 v l) (ad : Addr) (c : Cont) (hx : a.eval x = .slice (some ad) 1 1)
    (hnews : ∀ (j : Nat) (u : Value), c.cells[j]? = some u → w.cell? (ad.add j) = some u) (hlen : l.length ≤ 1000000) (hbase : base ≤ w.heap.size)
    (h : ∀ v' w', OwnsStk w' base 102 v' (c :: l) → Keeps (blks v) w w' → (v'.ownBlock = v.ownBlock ∨ v'.ownBlock = some w.heap.size) → wpList Try.prog ops Q rest (a.put o.dst v') w') :
    wpList Try.prog ops Q (o :: rest) a w := by
  obtain ⟨i0, hi, hz0, hz1, hz2⟩ := info_parts info_coc
  refine wpList_append_own_at w hgd s x 66 ho base 102 i0 (.agg #[.bool false, .int .i64 0, .int .i64 0]) 3 24 Try.underlying66 hi hz0 hz1 hz2 rfl (by decide) v l.length (stkCells l) hs hown ad 1 1 c.cells hx rfl hnews (cont_one c) (by unfold maxLen; omega) (by omega) hbase ?_
  intro v' w' h2 h3 _ h5
  exact h v' w' (OwnsStk.push h2 rfl) (keeps_grown h3) h5

set_option maxHeartbeats 800000 in
theorem begin_any {N : Int} {w : World} {base b : Nat} {T : TypeId} {rest : List Value} {ov sv : Value} {k : Core} (h : CoreOk N w base b T rest ov sv k) (pairs : Bool) (count : Int) :
    Calls Try.prog 55 #[.pointer (some ⟨b, 0, none⟩), .bool pairs, .int .i64 count] w (CoreGives w base b T rest ov sv (k.begin pairs count)) := by
  have hb := h.base_
  have HOK := Lib.hid h
  have hop := h.opens
  unfold Core.begin
  by_cases hc : count = 0
  · rw [if_pos hc]
    subst hc
    clear h
    go_enter Try.func55, Try.ntmps55
    go_wp2_with fail
    have k1 : Keeps [] w (w.alloc (.cells #[.bool pairs, .int .i64 0] 89)) := (Keeps.refl _ _).alloc _
    have hnew : Has (w.alloc (.cells #[.bool pairs, .int .i64 0] 89)) w.heap.size [.bool pairs, .int .i64 0] 89 := Has.new' _ _ _ rfl
    obtain ⟨w1, hw1⟩ : ∃ w1, w.alloc (.cells #[.bool pairs, .int .i64 0] 89) = w1 := ⟨_, rfl⟩
    rw [hw1] at k1 hnew ⊢
    clear hw1
    have hz1 : w.heap.size < w1.heap.size := hnew.lt
    have hok1 : CoreOk N w1 base b T rest ov sv k := ⟨HOK.out.in_.keep0 k1, HOK.out.fit, HOK.out.big, by omega⟩
    have hv := value_ok hok1 evEnd
    rw [part_end] at hv
    have hlt := coBlks_lt HOK.out.in_
    have hvl : (closeUp k.open_).1.length ≤ 100 := by
      have hcl : ∀ l : List Cont, (closeUp l).1.length ≤ l.length := by
        intro l
        induction l with
        | nil => simp [closeUp]
        | cons c r ih => unfold closeUp; split <;> simp; omega
      have := hcl k.open_
      omega
    have hout : (k.value evEnd).1.length ≤ 101 := by simp only [Core.value, List.length_cons]; omega
    have K1 := Lib.hid k1
    clear hok1 hvl
    refine hv.mono ?_
    clear hv
    rintro e w2 ⟨v, rfl, hown, hpost⟩
    obtain ⟨av, cv, rfl⟩ := hown.shape
    obtain ⟨ov2, sv2, hco2, kk2, hbl2⟩ := hpost
    have q0 := (hnew.keeps kk2 (fun hm => by have := hlt _ hm; omega)).cell 0
    have q1 := (hnew.keeps kk2 (fun hm => by have := hlt _ hm; omega)).cell 1
    have hcl2 := coBlks_lt hco2
    have z2 := kk2.size
    have HOWN := Lib.hid hown
    have HCO := Lib.hid hco2
    have HKK := Lib.hid kk2
    have HBL := Lib.hid hbl2
    clear hown hco2 kk2 hbl2 hnew k1
    simp only [List.getElem?_cons_zero, List.getElem?_cons_succ] at q0 q1
    go_wp2_with (at_builtin; go_must (refine app_any_own rfl _ _ rfl w2.heap.size w1.heap.size _ _ [beginEv pairs 0] (k.value evEnd).1 rfl (lit_part (beginEv_part pairs 0) rfl (Nat.le_refl _)) rfl (ownsRow_keeps HOWN.out ((Keeps.refl [] _).alloc _) (by simp)) (by simp; omega) (by simp) ?_))
    intro v3 w3 hown3 hk3 _ hb3
    obtain ⟨a3, c3, rfl⟩ := hown3.shape
    have k23 : Keeps [] w2 w3 := ((Keeps.refl [] w2).alloc _).trans' hk3 (fun i hi => by rw [mem_blks] at hi; simp only [Value.ownBlock, Option.some.injEq] at hi; exact Or.inr (by omega))
    have HOWN3 := Lib.hid hown3
    have K23 := Lib.hid k23
    clear hown3 hk3 hb3 k23
    go_wp2_with fail
    go_ret
    refine ⟨_, rfl, ownsRow_base HOWN3.out (by omega), ov2, sv2, HCO.out.keep0 K23.out, (K1.out.mono (by simp)).trans (HKK.out.trans (K23.out.mono (by simp))), fun i hi => ?_⟩
    rcases HBL.out i hi with h1 | h1
    · exact Or.inl h1
    · exact Or.inr (by omega)
  · rw [if_neg hc]
    have hc' : (count == 0) = false := by simpa using hc
    obtain ⟨oo, oc, rfl⟩ := h.in_.opn.shape
    obtain ⟨g0, g1, g2, g3, g4, g5, g6, g7⟩ := core_facts h.in_
    obtain ⟨f1, f2, f3, f4, f5, f6, f7, hbl⟩ := core_free h.in_
    have hbl2 : b < w.heap.size + 1 := by omega
    have hbl3 : b < w.heap.size + 1 + 1 := by omega
    clear h hc
    go_enter Try.func55, Try.ntmps55
    go_wp2_with (at_builtin; go_must (refine app_coc rfl _ _ rfl base _ k.open_ rfl (ownsRow_keeps HOK.out.in_.opn (((Keeps.refl [] _).alloc _).alloc _) (by simp)) ⟨_, 0, none⟩ ⟨pairs, count, 0⟩ rfl (cells_new (Cont.cells ⟨pairs, count, 0⟩) (by simp)) (by omega) (by simp; omega) ?_))
    intro v2 w2 hown2 hk2 hb2
    obtain ⟨a2, c2, rfl⟩ := OwnsStk.shape hown2
    have hnew : Has ((w.alloc (.cells #[.bool pairs, .int .i64 count] 89)).alloc (.cells #[.bool pairs, .int .i64 count, .int .i64 0] 102)) w.heap.size [.bool pairs, .int .i64 count] 89 := (Has.new' w _ _ rfl).alloc _
    have hlt := coBlks_lt HOK.out.in_
    have hnew2 := hnew.keeps hk2 (fun hm => by have := hlt _ (coBlks_ov hm); omega)
    have k02 := ((((Keeps.refl (blks (.slice oo k.open_.length oc)) w).alloc (.cells #[.bool pairs, .int .i64 count] 89)).alloc (.cells #[.bool pairs, .int .i64 count, .int .i64 0] 102))).trans hk2
    have hset := CoreIn.setOpn HOK.out.in_ hown2 k02 (hb2.imp id (fun h => ⟨_, h, by omega⟩))
    have hcore2 := HOK.out.in_.blk.keeps k02 HOK.out.in_.bo
    have f1' := hcore2.free 1
    have hbl4 := hcore2.lt
    have z2 := hnew2.lt
    have q0 := (hnew2.other (p := ⟨b, 1, none⟩) (by show w.heap.size ≠ b; omega) (.slice a2 (Cont.mk pairs count 0 :: k.open_).length c2)).cell 0
    have q1 := (hnew2.other (p := ⟨b, 1, none⟩) (by show w.heap.size ≠ b; omega) (.slice a2 (Cont.mk pairs count 0 :: k.open_).length c2)).cell 1
    have g1' := hcore2.cell 1
    have HSET := Lib.hid hset
    clear hset hown2 hk2 hb2 hnew hnew2 k02 hcore2 g0 g1 g2 g3 g4 g5 g6 g7 f1 f2 f3 f4 f5 f6 f7
    simp only [List.getElem?_cons_zero, List.getElem?_cons_succ, coreCells, List.cons_append, List.length_cons] at q0 q1 g1'
    simp only [List.length_cons]
    go_wp2_with fail
    go_ret
    exact ⟨_, rfl, lit_part (beginEv_part pairs count) (by simp [World.setCell]) (by omega), _, _, HSET.out.1.keep0 ((Keeps.refl [] _).alloc _), HSET.out.2.1.alloc _, HSET.out.2.2⟩
end Go.Proofs.Ytmcbdkhlbmhfeaa
