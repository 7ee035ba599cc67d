/-
  truchmanbook.Book.Ints: its contract.
-/
import Derived.Test.YtigajmfadfinpaaBookMarks
import Derived.Deep.RegionLaw
namespace Go.Proofs.Ytigajmfadfinpaa
open Go.RowKit Go.Tru

/-- append of one slice to an own row of slices, at the operation of a drawn region -/
theorem wp_append_rows {o : Oper} {a : Act} {w : World} {K : Act → World → Prop} {Q : Exit → Act → World → Prop} (s x : Operand)
    (ho : o.op = .call { callee := .builtin .append, args := #[s, x], argTypes := #[35, 35] })
    (base : Nat) (v : Value) (vs : List Value) (hs : a.eval s = v) (hown : OwnsRows w base v vs) (ad : Addr) (e : Value) (hx : a.eval x = .slice (some ad) 1 1)
    (hnews : ∀ (j : Nat) (u : Value), [e][j]? = some u → w.cell? (ad.add j) = some u) (h1 : e.oneCell' = true) (hlen : vs.length ≤ 1000000) (hbase : base ≤ w.heap.size)
    (h : ∀ v' w', OwnsRows w' base v' (vs ++ [e]) → Keeps (blks v) w w' → (v'.ownBlock = v.ownBlock ∨ v'.ownBlock = some w.heap.size ∧ Keeps [] w w') → K (a.put o.dst v') w') : Oper.wp Try.prog o a w K Q := by
  obtain ⟨i0, hi, hz0, hz1, hz2⟩ := info_parts info_ints
  obtain ⟨v', w', hr, h2, h3, _, h5⟩ := run_append_where (P := Try.prog) w base 35 o.type 39 i0 (.slice none 0 0) 1 24 Try.underlying35 hi hz0 hz1 hz2 rfl (by decide) v vs.length vs hown ad 1 1 [e] rfl hnews (by simpa using h1) (by unfold maxLen; omega) (by omega) hbase
  unfold Oper.wp execOp
  simp only [ho, resolve, invoke, builtin, Sem.run_bind, Sem.run_pure, Result.andThen_ok, List.map_toArray, List.map_cons, List.map_nil, hs, hx, hr]
  refine h v' w' ?_ (keeps_grown h3) (h5.imp id fun h => ⟨h.1, keeps_none h.2⟩)
  unfold OwnsRows
  rw [List.length_append]
  exact h2

/-- the lists of ints that are kept, and the copies; no other lists -/
structure BookIn (w : World) (base b : Nat) (iv wv : Value) (vs us : List Value) : Prop where
  blk : Has w b [.slice none 0 0, .slice none 0 0, iv, wv, .slice none 0 0, .slice none 0 0] 38
  ints : OwnsRows w base iv vs
  was : OwnsRows w base wv us
  bi : b ∉ blks iv
  bw : b ∉ blks wv
  iw : ∀ k ∈ blks iv, k ∉ blks wv

theorem BookIn.keeps {F : List Nat} {w w' : World} {base b : Nat} {iv wv : Value} {vs us : List Value} (h : BookIn w base b iv wv vs us) (k : Keeps F w w') (hb : b ∉ F) (hi : ∀ i ∈ blks iv, i ∉ F) (hw : ∀ i ∈ blks wv, i ∉ F) : BookIn w' base b iv wv vs us :=
  ⟨h.blk.keeps k hb, ownsRow_keeps h.ints k (fun i hm => hi i (mem_blks.2 hm)), ownsRow_keeps h.was k (fun i hm => hw i (mem_blks.2 hm)), h.bi, h.bw, h.iw⟩

theorem BookIn.keep0 {w w' : World} {base b : Nat} {iv wv : Value} {vs us : List Value} (h : BookIn w base b iv wv vs us) (k : Keeps [] w w') : BookIn w' base b iv wv vs us :=
  h.keeps k (by simp) (by simp) (by simp)

theorem BookIn.cells {w : World} {base b : Nat} {iv wv : Value} {vs us : List Value} (h : BookIn w base b iv wv vs us) :
    w.cell? ⟨b, 0, none⟩ = some (.slice none 0 0) ∧ w.cell? ⟨b, 1, none⟩ = some (.slice none 0 0) ∧ w.cell? ⟨b, 2, none⟩ = some iv ∧ w.cell? ⟨b, 3, none⟩ = some wv ∧ w.cell? ⟨b, 4, none⟩ = some (.slice none 0 0) ∧ w.cell? ⟨b, 5, none⟩ = some (.slice none 0 0) :=
  ⟨h.blk.cell 0, h.blk.cell 1, h.blk.cell 2, h.blk.cell 3, h.blk.cell 4, h.blk.cell 5⟩

theorem BookIn.put2 {w w1 w2 : World} {base b : Nat} {iv wv v2 : Value} {vs us vs2 : List Value} (h : BookIn w base b iv wv vs us) (k1 : Keeps [] w w1) (hown2 : OwnsRows w2 base v2 vs2) (hk2 : Keeps (blks iv) w1 w2)
    (hb2 : v2.ownBlock = iv.ownBlock ∨ v2.ownBlock = some w1.heap.size) : BookIn (w2.setCell ⟨b, 2, none⟩ v2) base b v2 wv vs2 us ∧ (∀ k ∈ blks v2, k ∈ blks iv ∨ w.heap.size ≤ k) := by
  have hz := k1.size
  have hfr : ∀ k ∈ blks v2, k ∈ blks iv ∨ w.heap.size ≤ k := fun k hk => by
    rw [mem_blks] at hk ⊢
    rcases hb2 with e | e
    · exact Or.inl (e ▸ hk)
    · rw [e] at hk
      injection hk with hk
      right
      omega
  have hbl := h.blk.lt
  have hnb : b ∉ blks v2 := fun hm => (hfr b hm).elim h.bi (fun h => by omega)
  have hset : Keeps [b] w2 (w2.setCell ⟨b, 2, none⟩ v2) := (Keeps.refl _ _).set1 _
  have h2 := (h.keep0 k1).blk.keeps hk2 h.bi
  refine ⟨⟨(h2.set 2 v2).conv rfl, ownsRow_keeps hown2 hset (fun i hi hm => ?_), ownsRow_keeps (ownsRow_keeps (h.keep0 k1).was hk2 (fun i hi hm => h.iw i hm (mem_blks.2 hi))) hset (fun i hi hm => ?_), hnb, h.bw, fun k hk hkw => ?_⟩, hfr⟩
  · rw [List.mem_singleton] at hm
    exact hnb (hm ▸ mem_blks.2 hi)
  · rw [List.mem_singleton] at hm
    exact h.bw (hm ▸ mem_blks.2 hi)
  · rcases hfr k hk with h1 | h1
    · exact h.iw k h1 hkw
    · have := (World.ownsRow.lt h.was k (mem_blks.1 hkw)).2
      omega

theorem BookIn.put3 {w w1 w2 : World} {base b : Nat} {iv wv v2 : Value} {vs us us2 : List Value} (h : BookIn w base b iv wv vs us) (k1 : Keeps [] w w1) (hown2 : OwnsRows w2 base v2 us2) (hk2 : Keeps (blks wv) w1 w2)
    (hb2 : v2.ownBlock = wv.ownBlock ∨ v2.ownBlock = some w1.heap.size) : BookIn (w2.setCell ⟨b, 3, none⟩ v2) base b iv v2 vs us2 ∧ (∀ k ∈ blks v2, k ∈ blks wv ∨ w1.heap.size ≤ k) := by
  have hz := k1.size
  have hfr : ∀ k ∈ blks v2, k ∈ blks wv ∨ w1.heap.size ≤ k := fun k hk => by
    rw [mem_blks] at hk ⊢
    rcases hb2 with e | e
    · exact Or.inl (e ▸ hk)
    · rw [e] at hk
      injection hk with hk
      right
      omega
  have hbl := h.blk.lt
  have hnb : b ∉ blks v2 := fun hm => (hfr b hm).elim h.bw (fun h => by omega)
  have hset : Keeps [b] w2 (w2.setCell ⟨b, 3, none⟩ v2) := (Keeps.refl _ _).set1 _
  have h2 := (h.keep0 k1).blk.keeps hk2 h.bw
  refine ⟨⟨(h2.set 3 v2).conv rfl, ownsRow_keeps (ownsRow_keeps (h.keep0 k1).ints hk2 (fun i hi hm => h.iw i (mem_blks.2 hi) hm)) hset (fun i hi hm => ?_), ownsRow_keeps hown2 hset (fun i hi hm => ?_), h.bi, hnb, fun k hk hkw => ?_⟩, hfr⟩
  · rw [List.mem_singleton] at hm
    exact h.bi (hm ▸ mem_blks.2 hi)
  · rw [List.mem_singleton] at hm
    exact hnb (hm ▸ mem_blks.2 hi)
  · rcases hfr k hkw with h1 | h1
    · exact h.iw k hk h1
    · have := (World.ownsRow.lt h.ints k (mem_blks.1 hk)).2
      omega

/-- what Ints leaves -/
def IntsPost (w : World) (base b : Nat) (iv wv v : Value) (vs us : List Value) (xs : List Int) (e : Ending) (w' : World) : Prop :=
  e = .returned (.tuple #[]) ∧ ∃ iv' wv' u, BookIn w' base b iv' wv' (vs ++ [v]) (us ++ [u]) ∧ OwnsInts w' w.heap.size u xs ∧ Keeps (b :: (blks iv ++ blks wv)) w w' ∧
    (∀ k ∈ blks iv', k ∈ blks iv ∨ w.heap.size ≤ k) ∧ (∀ k ∈ blks wv', k ∈ blks wv ∨ w.heap.size ≤ k) ∧ (∀ k ∈ blks u, k ∉ blks iv' ∧ k ∉ blks wv')

set_option maxHeartbeats 3200000 in
set_option maxRecDepth 100000 in
theorem bookInts_any {w : World} {base b : Nat} {iv wv : Value} {vs us : List Value} (h : BookIn w base b iv wv vs us) (hvs : vs.length ≤ 10) (hus : us.length ≤ 10) {v : Value} {xs : List Int} (hv : OwnsInts w base v xs) (hx : xs.length ≤ 1000)
    (hvb : ∀ k ∈ blks v, k ≠ b ∧ k ∉ blks iv ∧ k ∉ blks wv) (hbase : base ≤ w.heap.size) :
    Calls Try.prog 14 #[.pointer (some ⟨b, 0, none⟩), v] w (IntsPost w base b iv wv v vs us xs) := by
  obtain ⟨q0, q1, q2, q3, q4, q5⟩ := h.cells
  obtain ⟨ai, ci, rfl⟩ := h.ints.shape
  obtain ⟨aw, cw, rfl⟩ := h.was.shape
  obtain ⟨av, cv, rfl⟩ := hv.shape
  have f2 := h.blk.free 2
  have hbl := h.blk.lt
  have hl250 : (vs.length : Int) < 250 := by omega
  have H := Lib.hid h
  have HV := Lib.hid hv
  have HB := Lib.hid hbase
  have HVB := Lib.hid hvb
  have HVS := Lib.hid hvs
  have HUS := Lib.hid hus
  clear h hv hbase hvb hvs hus q0 q1 q3 q4 q5
  go_enter Try.func14, Try.ntmps14
  go_wp2_with (at_builtin; go_must (refine app_rows rfl _ _ rfl base _ vs rfl (ownsRow_keeps H.out.ints ((Keeps.refl [] _).alloc _) (by simp)) ⟨_, 0, none⟩ 1 1 [.slice av xs.length cv] rfl rfl (cell_one_new _ _ _) (by simp; rfl) (by have := HVS.out; omega) (by have := HB.out; simp; omega) ?_))
  intro v2 w2 hown2 hk2 _ hb2
  obtain ⟨a2, c2, rfl⟩ := hown2.shape
  rw [List.length_append, List.length_singleton] at *
  obtain ⟨h3, hfr2⟩ := H.out.put2 ((Keeps.refl [] w).alloc _) hown2 hk2 (hb2.imp id fun h => h.1.trans (by simp))
  have g2 := ((H.out.blk.alloc (.cells #[.slice av xs.length cv] 39)).keeps hk2 H.out.bi).free 2
  have hb2l := ((H.out.blk.alloc (.cells #[.slice av xs.length cv] 39)).keeps hk2 H.out.bi).lt
  have hc2 := ((H.out.blk.alloc (.cells #[.slice av xs.length cv] 39)).keeps hk2 H.out.bi).cell 2
  simp only [List.getElem?_cons_succ, List.getElem?_cons_zero] at hc2
  have k3 : Keeps (b :: blks (.slice ai vs.length ci)) w (w2.setCell ⟨b, 2, none⟩ (.slice a2 (vs.length + 1) c2)) :=
    ((((Keeps.refl (b :: blks (.slice ai vs.length ci)) w).alloc (.cells #[.slice av xs.length cv] 39)).trans (hk2.mono (fun i hi => List.mem_cons_of_mem _ hi)))).setCell (Or.inl (List.mem_cons_self ..)) _
  have hv3 := ownsRow_keeps HV.out k3 (fun i hi hm => by
    obtain ⟨e1, e2, _⟩ := HVB.out i (mem_blks.2 hi)
    rcases List.mem_cons.1 hm with h | h
    · exact e1 h
    · exact e2 h)
  have HFR2 := Lib.hid hfr2
  obtain ⟨w3, hw3⟩ : ∃ w3, w2.setCell ⟨b, 2, none⟩ (.slice a2 (vs.length + 1) c2) = w3 := ⟨_, rfl⟩
  rw [hw3] at h3 k3 hv3
  have H3 := Lib.hid h3
  have K3 := Lib.hid k3
  have HV3 := Lib.hid hv3
  have HW3 := Lib.hid hw3
  clear h3 k3 hv3 hown2 hk2 hb2 hfr2 hw3 q2 f2 hbl
  go_wp2_with fail
  rw [HW3.out]
  clear g2 hb2l hc2 HW3
  obtain ⟨-, -, -, c3, -, -⟩ := H3.out.cells
  have f3 := H3.out.blk.free 3
  have hbl3 := H3.out.blk.lt
  go_region_law (first | (rw [if_pos (by rfl)]; refine wp_append_rows _ _ rfl base (.slice aw us.length cw) us rfl (ownsRow_keeps H4.out.was ((Keeps.refl [] _).alloc _) (by simp)) ⟨_, 0, none⟩ (.slice ou xs.length cu) rfl (cell_one_new _ _ _) rfl (by have := HUS.out; omega) (by have := HB4.out; simp; omega) ?_; intro v5 w5 hown5 hk5 hb5; obtain ⟨o5, c5, hv5⟩ := hown5.shape; rw [List.length_append, List.length_singleton] at hv5; subst hv5; have HO5 := Lib.hid hown5; have HK5 := Lib.hid hk5; have HB5 := Lib.hid hb5; have q5 := ((H4.out.blk.alloc (.cells #[.slice ou xs.length cu] 39)).keeps hk5 H4.out.bw); have c5' := q5.cell 3; have f5' := q5.free 3; have l5' := q5.lt; clear hown5 hk5 hb5 q5) | (go_simp; go_at_call 19; refine (copyInts_any (ownsRow_keeps HV3.out (by first | exact Keeps.refl [] _ | exact (Keeps.refl [] _).drew) (by simp)) (by omega)).mono ?_; rintro e w4 ⟨u, rfl, hu, k4⟩; obtain ⟨ou, cu, hcu⟩ := OwnsInts.shape hu; subst hcu; have HU := Lib.hid (show OwnsInts w4 w3.heap.size (.slice ou xs.length cu) xs from hu); have K4 := Lib.hid (show Keeps [] w3 w4 from by first | exact k4 | exact ((Keeps.refl [] _).drew).trans k4); have H4 := Lib.hid (H3.out.keep0 K4.out); have c4 := K4.out.cell c3 (by simp); have l4 := H4.out.blk.lt; have HB4 := Lib.hid (show base ≤ w4.heap.size from by have h1 := HB.out; have h2 := K3.out.size; have h3 := K4.out.size; omega); clear hu k4; try go_simp))
  all_goals
    go_end0
    have hz3 := K3.out.size
    have hz4 := K4.out.size
    have k4a := (Keeps.refl [] w4).alloc (.cells #[.slice ou xs.length cu] 39)
    have hz4a : (w4.alloc (.cells #[.slice ou xs.length cu] 39)).heap.size = w4.heap.size + 1 := by simp
    have hz5 := HK5.out.size
    have hul := World.ownsRow.lt HU.out
    have hwl := World.ownsRow.lt H3.out.was
    have hil := World.ownsRow.lt H3.out.ints
    have hb3 := H3.out.blk.lt
    have hset : Keeps [b] w5 (w5.setCell ⟨b, 3, none⟩ (.slice o5 (us.length + 1) c5)) := (Keeps.refl _ _).set1 _
    obtain ⟨hbook, hfr⟩ := H4.out.put3 k4a HO5.out HK5.out (HB5.out.imp id fun h => h.1.trans (by simp))
    refine ⟨rfl, _, _, .slice ou xs.length cu, hbook, ?_, ?_, HFR2.out, fun k hk => ?_, fun k hk => ⟨fun hm => ?_, fun hm => ?_⟩⟩
    · have h1 : OwnsInts w4 w.heap.size (.slice ou xs.length cu) xs := ownsRow_base HU.out hz3
      have h2 := ownsRow_keeps (ownsRow_keeps h1 k4a (by simp)) HK5.out (fun i hi hm => by
        have e1 := (hul i hi).1
        have e2 := (hwl i (mem_blks.1 hm)).2
        omega)
      exact ownsRow_keeps h2 hset (fun i hi hm => by
        rw [List.mem_singleton] at hm
        have e1 := (hul i hi).1
        omega)
    · have h1 : Keeps (b :: (blks (.slice ai vs.length ci) ++ blks (.slice aw us.length cw))) w w3 := K3.out.mono (fun i hi => by
        rcases List.mem_cons.1 hi with h | h
        · rw [h]; exact List.mem_cons_self ..
        · exact List.mem_cons_of_mem _ (List.mem_append_left _ h))
      have h2 := ((h1.trans (K4.out.mono (by simp))).alloc (.cells #[.slice ou xs.length cu] 39)).trans (HK5.out.mono (fun i hi => List.mem_cons_of_mem _ (List.mem_append_right _ hi)))
      exact h2.setCell (Or.inl (List.mem_cons_self ..)) _
    · rcases hfr k hk with h | h
      · exact Or.inl h
      · right; omega
    · have e1 := (hul k (mem_blks.1 hk)).1
      have e2 := (hil k (mem_blks.1 hm)).2
      omega
    · have e1 := hul k (mem_blks.1 hk)
      rcases hfr k hm with h | h
      · have e2 := (hwl k (mem_blks.1 h)).2
        omega
      · omega
end Go.Proofs.Ytigajmfadfinpaa
