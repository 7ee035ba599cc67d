/-
  truchmanref1.Writer.Step at a part within a container: one of a count.
-/
import Derived.Test.YtdfdajedcgmbfaaWrBox
namespace Go.Proofs.Ytdfdajedcgmbfaa
open Go.RowKit Go.Tru

set_option maxHeartbeats 3200000 in
set_option maxRecDepth 100000 in
theorem wleaf_arr_count {to : Int} (hto : to = 2 ∨ to = 3) (e : Ev) (hk : 0 ≤ e.kind ∧ e.kind ≤ 4) {bs : ByteArray} (hbs : bs.size ≤ 1000000)
    (HP : ∀ W, Calls Try.prog 17 #[.int .i64 to, e.val] W fun r w' => r = .returned (.tuple #[.string bs, .int .i64 0]) ∧ Keeps [] W w')
    {w : World} {base b : Nat} {ov : Value} {cc cpt : Int} {s : List Cont} (h : WrIn w base b to ov (⟨false, cc, cpt⟩ :: s) false) (hs : s.length ≤ 100) (hp0 : 0 ≤ cpt) (hp1 : cpt ≤ 3000000) (hr : 0 ≤ cc ∧ cc ≤ 1000000) (hr3 : cpt < cc) (hbase : base ≤ w.heap.size) :
    Calls Try.prog 8 #[.pointer (some ⟨b, 0, none⟩), e.val] w (WrPost w base b to ov bs (⟨false, cc, cpt + 1⟩ :: s) false) := by
  have HM := Lib.hid (fun W => may_yes e (Or.inl (by omega)) W)
  obtain ⟨g, cap, rfl, gb, gl, gr, gm, -, -, -, -⟩ := h.opn.some_
  obtain ⟨k, y, m, t, cn⟩ := e
  simp only [Ev.val, Ev.cells] at *
  obtain ⟨hr1, hr2⟩ := hr
  have h1 : (to == 1) = false := by rcases hto with rfl | rfl <;> decide
  have h1' : (to != 1) = true := by rcases hto with rfl | rfl <;> decide
  have k5 : (k == 5) = false := by simp; omega
  have k6 : (k == 6) = false := by simp; omega
  have k7 : (k == 7) = false := by simp; omega
  have hcat : (⟨#[]⟩ : ByteArray) ++ bs = bs := ByteArray.empty_append
  have hsn : ((s.length : Int) + 1 == 0) = false := by simp; omega
  have HP := Lib.hid HP
  have H := Lib.hid h
  have HB := Lib.hid hbase
  have hbl := h.blk.lt
  unfold maxLen at gm
  clear h hto hk hbase
  go_enter Try.func8, Try.ntmps8
  have hnew := Has.new' w #[.int .i64 k, .bool y, .int .u64 m, .string t, .int .i64 cn] 36 rfl
  have k0 := (Keeps.refl [] w).alloc (.cells #[.int .i64 k, .bool y, .int .u64 m, .string t, .int .i64 cn] 36)
  obtain ⟨w1, hw1⟩ : ∃ w1, w.alloc (.cells #[.int .i64 k, .bool y, .int .u64 m, .string t, .int .i64 cn] 36) = w1 := ⟨_, rfl⟩
  have H1 := Lib.hid (H.out.keeps (k0) (by simp) (by simp))
  rw [hw1] at hnew k0 H1
  obtain ⟨g0, g1, g2⟩ := H1.out.cells
  have e0 : w1.cell? ⟨w.heap.size, 0, none⟩ = some (.int .i64 k) := hnew.cell 0
  have e1 : w1.cell? ⟨w.heap.size, 1, none⟩ = some (.bool y) := hnew.cell 1
  have e2 : w1.cell? ⟨w.heap.size, 2, none⟩ = some (.int .u64 m) := hnew.cell 2
  have e3 : w1.cell? ⟨w.heap.size, 3, none⟩ = some (.string t) := hnew.cell 3
  have e4 : w1.cell? ⟨w.heap.size, 4, none⟩ = some (.int .i64 cn) := hnew.cell 4
  have K0 := Lib.hid k0
  have HN := Lib.hid hnew
  clear hnew k0
  go_wp2_with fail
  refine (HM.out _).mono ?_
  rintro e w2 ⟨rfl, k2⟩
  have H2 := Lib.hid (H1.out.keeps k2 (by simp) (by simp))
  have hnew := HN.out.keeps k2 (by simp)
  have K2 := Lib.hid (K0.out.trans k2)
  clear g0 g1 g2 e0 e1 e2 e3 e4 hw1
  obtain ⟨g0, g1, g2⟩ := H2.out.cells
  obtain ⟨g', cap', he, -, gl2, -, -, q0, q1, q2, -⟩ := OwnsStk.some_ H2.out.opn
  simp only [Value.slice.injEq, Option.some.injEq, Addr.mk.injEq, and_true, true_and] at he
  obtain ⟨rfl, rfl⟩ := he
  have e0 : w2.cell? ⟨w.heap.size, 0, none⟩ = some (.int .i64 k) := hnew.cell 0
  have e1 : w2.cell? ⟨w.heap.size, 1, none⟩ = some (.bool y) := hnew.cell 1
  have e2 : w2.cell? ⟨w.heap.size, 2, none⟩ = some (.int .u64 m) := hnew.cell 2
  have e3 : w2.cell? ⟨w.heap.size, 3, none⟩ = some (.string t) := hnew.cell 3
  have e4 : w2.cell? ⟨w.heap.size, 4, none⟩ = some (.int .i64 cn) := hnew.cell 4
  have HN2 := Lib.hid hnew
  have hb2 := H2.out.blk.lt
  have he2 : w.heap.size < w2.heap.size := hnew.lt
  clear hnew k2 K0 HN H1
  go_wp2_with fail
  obtain ⟨wc, hwc⟩ : ∃ wc, w2.alloc (.cells #[.bool false, .int .i64 cc, .int .i64 cpt] 49) = wc := ⟨_, rfl⟩
  have hkc : Keeps [] w2 wc := by rw [← hwc]; exact (Keeps.refl _ _).alloc _
  rw [hwc]
  have H3 := Lib.hid (H2.out.keeps hkc (by simp) (by simp))
  have hnew := HN2.out.keeps hkc (by simp)
  have K3 := Lib.hid (K2.out.trans hkc)
  clear g0 g1 g2 q0 q1 q2 e0 e1 e2 e3 e4 hb2 he2 HN2 H2 K2 hwc
  obtain ⟨g0, g1, g2⟩ := H3.out.cells
  have e0 : wc.cell? ⟨w.heap.size, 0, none⟩ = some (.int .i64 k) := hnew.cell 0
  have e1 : wc.cell? ⟨w.heap.size, 1, none⟩ = some (.bool y) := hnew.cell 1
  have e2 : wc.cell? ⟨w.heap.size, 2, none⟩ = some (.int .u64 m) := hnew.cell 2
  have e3 : wc.cell? ⟨w.heap.size, 3, none⟩ = some (.string t) := hnew.cell 3
  have e4 : wc.cell? ⟨w.heap.size, 4, none⟩ = some (.int .i64 cn) := hnew.cell 4
  clear hnew hkc
  go_region_held (fun W => W.cell? ⟨b, 0, none⟩ = some (.int .i64 to) ∧ W.cell? ⟨w.heap.size, 0, none⟩ = some (.int .i64 k) ∧ W.cell? ⟨w.heap.size, 1, none⟩ = some (.bool y) ∧ W.cell? ⟨w.heap.size, 2, none⟩ = some (.int .u64 m) ∧ W.cell? ⟨w.heap.size, 3, none⟩ = some (.string t) ∧ W.cell? ⟨w.heap.size, 4, none⟩ = some (.int .i64 cn)) (go_keep) ((go_at_call 17; refine (HP.out _).mono ?_; rintro e w4 ⟨rfl, k4⟩; have d := k4.cell (p := ⟨b, 0, none⟩) g0 (by simp); have d0 := k4.cell (p := ⟨w.heap.size, 0, none⟩) e0 (by simp); have d1 := k4.cell (p := ⟨w.heap.size, 1, none⟩) e1 (by simp); have d2 := k4.cell (p := ⟨w.heap.size, 2, none⟩) e2 (by simp); have d3 := k4.cell (p := ⟨w.heap.size, 3, none⟩) e3 (by simp); have d4 := k4.cell (p := ⟨w.heap.size, 4, none⟩) e4 (by simp)))
  have k24 := (Keeps.refl [] wc).drew.trans k4
  have H4 := Lib.hid (H3.out.keeps k24 (by simp) (by simp))
  have K4 := Lib.hid (K3.out.trans k24)
  clear g0 g1 g2 e0 e1 e2 e3 e4 k4 k24 d1 d2 d3 d4 K3 H3
  obtain ⟨g0, g1, g2⟩ := H4.out.cells
  have f2 := H4.out.blk.free 2
  have hb4 := H4.out.blk.lt
  have he4 : w.heap.size < w4.heap.size := World.block_lt_of_cell? w4 _ d0
  have hwb : base ≤ w4.heap.size := Nat.le_trans HB.out K4.out.size
  have hset : Keeps [b] w4 (w4.setCell ⟨b, 2, none⟩ (.bool false)) := (Keeps.refl _ _).set1 _
  have hne : w.heap.size ≠ b := by omega
  have hW5 : WrIn (w4.setCell ⟨b, 2, none⟩ (.bool false)) base b to (.slice (some ⟨g, 0, none⟩) (s.length + 1) cap) (⟨false, cc, cpt⟩ :: s) false := ⟨(H4.out.blk.set 2 (.bool false)).conv rfl, ownsRow_keeps H4.out.opn hset (fun i hi hm => H4.out.bo (by rw [List.mem_singleton] at hm; exact hm ▸ mem_blks.2 hi)), H4.out.bo⟩
  have d5 : (w4.setCell ⟨b, 2, none⟩ (.bool false)).cell? ⟨w.heap.size, 0, none⟩ = some (.int .i64 k) := hset.cell d0 (by simpa using hne)
  have H5 := Lib.hid hW5
  have K5 := Lib.hid ((K4.out.mono (G := [b]) (by simp)).trans hset)
  have hz5 : (w4.setCell ⟨b, 2, none⟩ (.bool false)).heap.size = w4.heap.size := by simp [World.setCell]
  clear hW5 hset
  go_wp2_with (at_builtin; go_must (refine app_box rfl _ _ rfl base (.slice none 0 0) [] rfl (OwnsStk.nil _ _ _) ⟨g, 0, none⟩ (s.length + 1) cap (⟨false, cc, cpt⟩ :: s) rfl rfl ?_ (by simp; omega) (by simp [World.setCell]; exact hwb) ?_))
  · exact World.ownsRow.cells H5.out.opn (g := g) rfl
  intro v6 w6 hown6 hk6 hb6
  obtain ⟨g6, c6, rfl, gb6, gl6, gr6, gm6, p0, p1, p2, pf⟩ := hown6.some_
  have hg6 : g6 = w4.heap.size := by
    rcases hb6 with h | h
    · simp [Value.ownBlock] at h
    · try rw [hz5] at h
      simpa [Value.ownBlock] using h
  rw [blks_nil] at hk6
  have hblk6 := H5.out.blk.keeps hk6 (by simp)
  have r1 := hblk6.cell 1
  have rf1 := hblk6.free 1
  have rb1 := hblk6.lt
  have d6 := hk6.cell d5 (by simp)
  have he6 : w.heap.size < w6.heap.size := World.block_lt_of_cell? w6 _ d6
  have hgb : g6 ≠ b := by omega
  have hbg : b ≠ g6 := by omega
  have hge : w.heap.size ≠ g6 := by omega
  have hge2 : g6 ≠ w.heap.size := by omega
  have hne2 : b ≠ w.heap.size := by omega
  have pf2 := pf (s.length * 3 + 2)
  have hszg : w.heap.size ≤ g6 := by
    have := K4.out.size
    omega
  unfold maxLen at gm6
  clear hg6
  simp only [List.getElem?_cons_succ, List.getElem?_cons_zero] at r1
  have hset7 : Keeps [b] w6 (w6.setCell ⟨b, 1, none⟩ (.slice (some ⟨g6, 0, none⟩) (s.length + 1) c6)) := (Keeps.refl _ _).set1 _
  have hown7 := ownsRow_keeps hown6 hset7 (fun i hi hm => by
    rw [List.mem_singleton] at hm
    simp only [Value.ownBlock, Option.some.injEq] at hi
    omega)
  have HFIN := Lib.hid (show WrIn ((w6.setCell ⟨b, 1, none⟩ (.slice (some ⟨g6, 0, none⟩) (s.length + 1) c6)).setCell ⟨g6, s.length * 3 + 2, none⟩ (.int .i64 (cpt + 1))) base b to (.slice (some ⟨g6, 0, none⟩) (s.length + 1) c6) (⟨false, cc, cpt + 1⟩ :: s) false from
    ⟨((hblk6.set 1 (.slice (some ⟨g6, 0, none⟩) (s.length + 1) c6)).conv rfl).other (by simpa using hbg) _, OwnsStk.setParts hown7 (cpt + 1), fun hm => by
      rw [mem_blks] at hm
      simp only [Value.ownBlock, Option.some.injEq] at hm
      omega⟩)
  have K7 := Lib.hid ((((K5.out.trans (hk6.mono (G := [b]) (by simp))).trans hset7).mono (G := b :: blks (.slice (some ⟨g, 0, none⟩) (s.length + 1) cap)) (fun i hi => by rw [List.mem_singleton] at hi; rw [hi]; exact List.mem_cons_self ..)).setCell (p := ⟨g6, s.length * 3 + 2, none⟩) (Or.inr hszg) (.int .i64 (cpt + 1)))
  have HSZ := Lib.hid hszg
  clear g0 g1 g2 f2 hown6 hk6 hb6 hszg hset7 hown7 hblk6 pf K5 H5 d5
  go_wp2_with fail
  go_ret2
  refine ⟨rfl, _, HFIN.out, K7.out, fun i hi => Or.inr ?_⟩
  rw [mem_blks] at hi
  simp only [Value.ownBlock, Option.some.injEq] at hi
  rw [← hi]
  exact HSZ.out

set_option maxHeartbeats 3200000 in
set_option maxRecDepth 100000 in
theorem wleaf_map_count_odd {to : Int} (hto : to = 2 ∨ to = 3) (e : Ev) (hk : 0 ≤ e.kind ∧ e.kind ≤ 4) {bs : ByteArray} (hbs : bs.size ≤ 1000000)
    (HP : ∀ W, Calls Try.prog 17 #[.int .i64 to, e.val] W fun r w' => r = .returned (.tuple #[.string bs, .int .i64 0]) ∧ Keeps [] W w')
    {w : World} {base b : Nat} {ov : Value} {cc cpt : Int} {s : List Cont} (h : WrIn w base b to ov (⟨true, cc, cpt⟩ :: s) false) (hs : s.length ≤ 100) (hp0 : 0 ≤ cpt) (hp1 : cpt ≤ 3000000) (hr : 0 ≤ cc ∧ cc ≤ 1000000) (hr3 : cpt < 2 * cc) (hpar : cpt % 2 = 1) (hbase : base ≤ w.heap.size) :
    Calls Try.prog 8 #[.pointer (some ⟨b, 0, none⟩), e.val] w (WrPost w base b to ov bs (⟨true, cc, cpt + 1⟩ :: s) false) := by
  have HM := Lib.hid (fun W => may_yes e (Or.inl (by omega)) W)
  obtain ⟨g, cap, rfl, gb, gl, gr, gm, -, -, -, -⟩ := h.opn.some_
  obtain ⟨k, y, m, t, cn⟩ := e
  simp only [Ev.val, Ev.cells] at *
  obtain ⟨hr1, hr2⟩ := hr
  have hmod : cpt.tmod 2 = 1 := by rw [Int.tmod_eq_emod_of_nonneg hp0]; exact hpar
  clear hpar
  have h1 : (to == 1) = false := by rcases hto with rfl | rfl <;> decide
  have h1' : (to != 1) = true := by rcases hto with rfl | rfl <;> decide
  have k5 : (k == 5) = false := by simp; omega
  have k6 : (k == 6) = false := by simp; omega
  have k7 : (k == 7) = false := by simp; omega
  have hcat : (⟨#[]⟩ : ByteArray) ++ bs = bs := ByteArray.empty_append
  have hsn : ((s.length : Int) + 1 == 0) = false := by simp; omega
  have HP := Lib.hid HP
  have H := Lib.hid h
  have HB := Lib.hid hbase
  have hbl := h.blk.lt
  unfold maxLen at gm
  clear h hto hk hbase
  go_enter Try.func8, Try.ntmps8
  have hnew := Has.new' w #[.int .i64 k, .bool y, .int .u64 m, .string t, .int .i64 cn] 36 rfl
  have k0 := (Keeps.refl [] w).alloc (.cells #[.int .i64 k, .bool y, .int .u64 m, .string t, .int .i64 cn] 36)
  obtain ⟨w1, hw1⟩ : ∃ w1, w.alloc (.cells #[.int .i64 k, .bool y, .int .u64 m, .string t, .int .i64 cn] 36) = w1 := ⟨_, rfl⟩
  have H1 := Lib.hid (H.out.keeps (k0) (by simp) (by simp))
  rw [hw1] at hnew k0 H1
  obtain ⟨g0, g1, g2⟩ := H1.out.cells
  have e0 : w1.cell? ⟨w.heap.size, 0, none⟩ = some (.int .i64 k) := hnew.cell 0
  have e1 : w1.cell? ⟨w.heap.size, 1, none⟩ = some (.bool y) := hnew.cell 1
  have e2 : w1.cell? ⟨w.heap.size, 2, none⟩ = some (.int .u64 m) := hnew.cell 2
  have e3 : w1.cell? ⟨w.heap.size, 3, none⟩ = some (.string t) := hnew.cell 3
  have e4 : w1.cell? ⟨w.heap.size, 4, none⟩ = some (.int .i64 cn) := hnew.cell 4
  have K0 := Lib.hid k0
  have HN := Lib.hid hnew
  clear hnew k0
  go_wp2_with fail
  refine (HM.out _).mono ?_
  rintro e w2 ⟨rfl, k2⟩
  have H2 := Lib.hid (H1.out.keeps k2 (by simp) (by simp))
  have hnew := HN.out.keeps k2 (by simp)
  have K2 := Lib.hid (K0.out.trans k2)
  clear g0 g1 g2 e0 e1 e2 e3 e4 hw1
  obtain ⟨g0, g1, g2⟩ := H2.out.cells
  obtain ⟨g', cap', he, -, gl2, -, -, q0, q1, q2, -⟩ := OwnsStk.some_ H2.out.opn
  simp only [Value.slice.injEq, Option.some.injEq, Addr.mk.injEq, and_true, true_and] at he
  obtain ⟨rfl, rfl⟩ := he
  have e0 : w2.cell? ⟨w.heap.size, 0, none⟩ = some (.int .i64 k) := hnew.cell 0
  have e1 : w2.cell? ⟨w.heap.size, 1, none⟩ = some (.bool y) := hnew.cell 1
  have e2 : w2.cell? ⟨w.heap.size, 2, none⟩ = some (.int .u64 m) := hnew.cell 2
  have e3 : w2.cell? ⟨w.heap.size, 3, none⟩ = some (.string t) := hnew.cell 3
  have e4 : w2.cell? ⟨w.heap.size, 4, none⟩ = some (.int .i64 cn) := hnew.cell 4
  have HN2 := Lib.hid hnew
  have hb2 := H2.out.blk.lt
  have he2 : w.heap.size < w2.heap.size := hnew.lt
  clear hnew k2 K0 HN H1
  go_wp2_with fail
  obtain ⟨wc, hwc⟩ : ∃ wc, w2.alloc (.cells #[.bool true, .int .i64 cc, .int .i64 cpt] 49) = wc := ⟨_, rfl⟩
  have hkc : Keeps [] w2 wc := by rw [← hwc]; exact (Keeps.refl _ _).alloc _
  rw [hwc]
  have H3 := Lib.hid (H2.out.keeps hkc (by simp) (by simp))
  have hnew := HN2.out.keeps hkc (by simp)
  have K3 := Lib.hid (K2.out.trans hkc)
  clear g0 g1 g2 q0 q1 q2 e0 e1 e2 e3 e4 hb2 he2 HN2 H2 K2 hwc
  obtain ⟨g0, g1, g2⟩ := H3.out.cells
  have e0 : wc.cell? ⟨w.heap.size, 0, none⟩ = some (.int .i64 k) := hnew.cell 0
  have e1 : wc.cell? ⟨w.heap.size, 1, none⟩ = some (.bool y) := hnew.cell 1
  have e2 : wc.cell? ⟨w.heap.size, 2, none⟩ = some (.int .u64 m) := hnew.cell 2
  have e3 : wc.cell? ⟨w.heap.size, 3, none⟩ = some (.string t) := hnew.cell 3
  have e4 : wc.cell? ⟨w.heap.size, 4, none⟩ = some (.int .i64 cn) := hnew.cell 4
  clear hnew hkc
  go_region_held (fun W => W.cell? ⟨b, 0, none⟩ = some (.int .i64 to) ∧ W.cell? ⟨w.heap.size, 0, none⟩ = some (.int .i64 k) ∧ W.cell? ⟨w.heap.size, 1, none⟩ = some (.bool y) ∧ W.cell? ⟨w.heap.size, 2, none⟩ = some (.int .u64 m) ∧ W.cell? ⟨w.heap.size, 3, none⟩ = some (.string t) ∧ W.cell? ⟨w.heap.size, 4, none⟩ = some (.int .i64 cn)) (go_keep) ((go_at_call 17; refine (HP.out _).mono ?_; rintro e w4 ⟨rfl, k4⟩; have d := k4.cell (p := ⟨b, 0, none⟩) g0 (by simp); have d0 := k4.cell (p := ⟨w.heap.size, 0, none⟩) e0 (by simp); have d1 := k4.cell (p := ⟨w.heap.size, 1, none⟩) e1 (by simp); have d2 := k4.cell (p := ⟨w.heap.size, 2, none⟩) e2 (by simp); have d3 := k4.cell (p := ⟨w.heap.size, 3, none⟩) e3 (by simp); have d4 := k4.cell (p := ⟨w.heap.size, 4, none⟩) e4 (by simp)))
  have k24 := (Keeps.refl [] wc).drew.trans k4
  have H4 := Lib.hid (H3.out.keeps k24 (by simp) (by simp))
  have K4 := Lib.hid (K3.out.trans k24)
  clear g0 g1 g2 e0 e1 e2 e3 e4 k4 k24 d1 d2 d3 d4 K3 H3
  obtain ⟨g0, g1, g2⟩ := H4.out.cells
  have f2 := H4.out.blk.free 2
  have hb4 := H4.out.blk.lt
  have he4 : w.heap.size < w4.heap.size := World.block_lt_of_cell? w4 _ d0
  have hwb : base ≤ w4.heap.size := Nat.le_trans HB.out K4.out.size
  have hset : Keeps [b] w4 (w4.setCell ⟨b, 2, none⟩ (.bool false)) := (Keeps.refl _ _).set1 _
  have hne : w.heap.size ≠ b := by omega
  have hW5 : WrIn (w4.setCell ⟨b, 2, none⟩ (.bool false)) base b to (.slice (some ⟨g, 0, none⟩) (s.length + 1) cap) (⟨true, cc, cpt⟩ :: s) false := ⟨(H4.out.blk.set 2 (.bool false)).conv rfl, ownsRow_keeps H4.out.opn hset (fun i hi hm => H4.out.bo (by rw [List.mem_singleton] at hm; exact hm ▸ mem_blks.2 hi)), H4.out.bo⟩
  have d5 : (w4.setCell ⟨b, 2, none⟩ (.bool false)).cell? ⟨w.heap.size, 0, none⟩ = some (.int .i64 k) := hset.cell d0 (by simpa using hne)
  have H5 := Lib.hid hW5
  have K5 := Lib.hid ((K4.out.mono (G := [b]) (by simp)).trans hset)
  have hz5 : (w4.setCell ⟨b, 2, none⟩ (.bool false)).heap.size = w4.heap.size := by simp [World.setCell]
  clear hW5 hset
  go_wp2_with (at_builtin; go_must (refine app_box rfl _ _ rfl base (.slice none 0 0) [] rfl (OwnsStk.nil _ _ _) ⟨g, 0, none⟩ (s.length + 1) cap (⟨true, cc, cpt⟩ :: s) rfl rfl ?_ (by simp; omega) (by simp [World.setCell]; exact hwb) ?_))
  · exact World.ownsRow.cells H5.out.opn (g := g) rfl
  intro v6 w6 hown6 hk6 hb6
  obtain ⟨g6, c6, rfl, gb6, gl6, gr6, gm6, p0, p1, p2, pf⟩ := hown6.some_
  have hg6 : g6 = w4.heap.size := by
    rcases hb6 with h | h
    · simp [Value.ownBlock] at h
    · try rw [hz5] at h
      simpa [Value.ownBlock] using h
  rw [blks_nil] at hk6
  have hblk6 := H5.out.blk.keeps hk6 (by simp)
  have r1 := hblk6.cell 1
  have rf1 := hblk6.free 1
  have rb1 := hblk6.lt
  have d6 := hk6.cell d5 (by simp)
  have he6 : w.heap.size < w6.heap.size := World.block_lt_of_cell? w6 _ d6
  have hgb : g6 ≠ b := by omega
  have hbg : b ≠ g6 := by omega
  have hge : w.heap.size ≠ g6 := by omega
  have hge2 : g6 ≠ w.heap.size := by omega
  have hne2 : b ≠ w.heap.size := by omega
  have pf2 := pf (s.length * 3 + 2)
  have hszg : w.heap.size ≤ g6 := by
    have := K4.out.size
    omega
  unfold maxLen at gm6
  clear hg6
  simp only [List.getElem?_cons_succ, List.getElem?_cons_zero] at r1
  have hset7 : Keeps [b] w6 (w6.setCell ⟨b, 1, none⟩ (.slice (some ⟨g6, 0, none⟩) (s.length + 1) c6)) := (Keeps.refl _ _).set1 _
  have hown7 := ownsRow_keeps hown6 hset7 (fun i hi hm => by
    rw [List.mem_singleton] at hm
    simp only [Value.ownBlock, Option.some.injEq] at hi
    omega)
  have HFIN := Lib.hid (show WrIn ((w6.setCell ⟨b, 1, none⟩ (.slice (some ⟨g6, 0, none⟩) (s.length + 1) c6)).setCell ⟨g6, s.length * 3 + 2, none⟩ (.int .i64 (cpt + 1))) base b to (.slice (some ⟨g6, 0, none⟩) (s.length + 1) c6) (⟨true, cc, cpt + 1⟩ :: s) false from
    ⟨((hblk6.set 1 (.slice (some ⟨g6, 0, none⟩) (s.length + 1) c6)).conv rfl).other (by simpa using hbg) _, OwnsStk.setParts hown7 (cpt + 1), fun hm => by
      rw [mem_blks] at hm
      simp only [Value.ownBlock, Option.some.injEq] at hm
      omega⟩)
  have K7 := Lib.hid ((((K5.out.trans (hk6.mono (G := [b]) (by simp))).trans hset7).mono (G := b :: blks (.slice (some ⟨g, 0, none⟩) (s.length + 1) cap)) (fun i hi => by rw [List.mem_singleton] at hi; rw [hi]; exact List.mem_cons_self ..)).setCell (p := ⟨g6, s.length * 3 + 2, none⟩) (Or.inr hszg) (.int .i64 (cpt + 1)))
  have HSZ := Lib.hid hszg
  clear g0 g1 g2 f2 hown6 hk6 hb6 hszg hset7 hown7 hblk6 pf K5 H5 d5
  go_wp2_with fail
  go_ret2
  refine ⟨rfl, _, HFIN.out, K7.out, fun i hi => Or.inr ?_⟩
  rw [mem_blks] at hi
  simp only [Value.ownBlock, Option.some.injEq] at hi
  rw [← hi]
  exact HSZ.out

set_option maxHeartbeats 3200000 in
set_option maxRecDepth 100000 in
theorem wleaf_map_count_even {to : Int} (hto : to = 2 ∨ to = 3) (e : Ev) (hk : 0 ≤ e.kind ∧ e.kind ≤ 4) {bs : ByteArray} (hbs : bs.size ≤ 1000000)
    (HP : ∀ W, Calls Try.prog 17 #[.int .i64 to, e.val] W fun r w' => r = .returned (.tuple #[.string bs, .int .i64 0]) ∧ Keeps [] W w')
    {w : World} {base b : Nat} {ov : Value} {cc cpt : Int} {s : List Cont} (h : WrIn w base b to ov (⟨true, cc, cpt⟩ :: s) false) (hs : s.length ≤ 100) (hp0 : 0 ≤ cpt) (hp1 : cpt ≤ 3000000) (hr : 0 ≤ cc ∧ cc ≤ 1000000) (hr3 : cpt < 2 * cc) (hpar : cpt % 2 = 0) (hk3 : e.kind = 3) (hbase : base ≤ w.heap.size) :
    Calls Try.prog 8 #[.pointer (some ⟨b, 0, none⟩), e.val] w (WrPost w base b to ov bs (⟨true, cc, cpt + 1⟩ :: s) false) := by
  have HM := Lib.hid (fun W => may_yes e (Or.inl (by omega)) W)
  obtain ⟨g, cap, rfl, gb, gl, gr, gm, -, -, -, -⟩ := h.opn.some_
  obtain ⟨k, y, m, t, cn⟩ := e
  simp only [Ev.val, Ev.cells] at *
  obtain ⟨hr1, hr2⟩ := hr
  have hmod : cpt.tmod 2 = 0 := by rw [Int.tmod_eq_emod_of_nonneg hp0]; exact hpar
  clear hpar
  subst hk3
  have h1 : (to == 1) = false := by rcases hto with rfl | rfl <;> decide
  have h1' : (to != 1) = true := by rcases hto with rfl | rfl <;> decide
  have hcat : (⟨#[]⟩ : ByteArray) ++ bs = bs := ByteArray.empty_append
  have hsn : ((s.length : Int) + 1 == 0) = false := by simp; omega
  have HP := Lib.hid HP
  have H := Lib.hid h
  have HB := Lib.hid hbase
  have hbl := h.blk.lt
  unfold maxLen at gm
  clear h hto hk hbase
  go_enter Try.func8, Try.ntmps8
  have hnew := Has.new' w #[.int .i64 3, .bool y, .int .u64 m, .string t, .int .i64 cn] 36 rfl
  have k0 := (Keeps.refl [] w).alloc (.cells #[.int .i64 3, .bool y, .int .u64 m, .string t, .int .i64 cn] 36)
  obtain ⟨w1, hw1⟩ : ∃ w1, w.alloc (.cells #[.int .i64 3, .bool y, .int .u64 m, .string t, .int .i64 cn] 36) = w1 := ⟨_, rfl⟩
  have H1 := Lib.hid (H.out.keeps (k0) (by simp) (by simp))
  rw [hw1] at hnew k0 H1
  obtain ⟨g0, g1, g2⟩ := H1.out.cells
  have e0 : w1.cell? ⟨w.heap.size, 0, none⟩ = some (.int .i64 3) := hnew.cell 0
  have e1 : w1.cell? ⟨w.heap.size, 1, none⟩ = some (.bool y) := hnew.cell 1
  have e2 : w1.cell? ⟨w.heap.size, 2, none⟩ = some (.int .u64 m) := hnew.cell 2
  have e3 : w1.cell? ⟨w.heap.size, 3, none⟩ = some (.string t) := hnew.cell 3
  have e4 : w1.cell? ⟨w.heap.size, 4, none⟩ = some (.int .i64 cn) := hnew.cell 4
  have K0 := Lib.hid k0
  have HN := Lib.hid hnew
  clear hnew k0
  go_wp2_with fail
  refine (HM.out _).mono ?_
  rintro e w2 ⟨rfl, k2⟩
  have H2 := Lib.hid (H1.out.keeps k2 (by simp) (by simp))
  have hnew := HN.out.keeps k2 (by simp)
  have K2 := Lib.hid (K0.out.trans k2)
  clear g0 g1 g2 e0 e1 e2 e3 e4 hw1
  obtain ⟨g0, g1, g2⟩ := H2.out.cells
  obtain ⟨g', cap', he, -, gl2, -, -, q0, q1, q2, -⟩ := OwnsStk.some_ H2.out.opn
  simp only [Value.slice.injEq, Option.some.injEq, Addr.mk.injEq, and_true, true_and] at he
  obtain ⟨rfl, rfl⟩ := he
  have e0 : w2.cell? ⟨w.heap.size, 0, none⟩ = some (.int .i64 3) := hnew.cell 0
  have e1 : w2.cell? ⟨w.heap.size, 1, none⟩ = some (.bool y) := hnew.cell 1
  have e2 : w2.cell? ⟨w.heap.size, 2, none⟩ = some (.int .u64 m) := hnew.cell 2
  have e3 : w2.cell? ⟨w.heap.size, 3, none⟩ = some (.string t) := hnew.cell 3
  have e4 : w2.cell? ⟨w.heap.size, 4, none⟩ = some (.int .i64 cn) := hnew.cell 4
  have HN2 := Lib.hid hnew
  have hb2 := H2.out.blk.lt
  have he2 : w.heap.size < w2.heap.size := hnew.lt
  clear hnew k2 K0 HN H1
  go_wp2_with fail
  obtain ⟨wc, hwc⟩ : ∃ wc, w2.alloc (.cells #[.bool true, .int .i64 cc, .int .i64 cpt] 49) = wc := ⟨_, rfl⟩
  have hkc : Keeps [] w2 wc := by rw [← hwc]; exact (Keeps.refl _ _).alloc _
  rw [hwc]
  have H3 := Lib.hid (H2.out.keeps hkc (by simp) (by simp))
  have hnew := HN2.out.keeps hkc (by simp)
  have K3 := Lib.hid (K2.out.trans hkc)
  clear g0 g1 g2 q0 q1 q2 e0 e1 e2 e3 e4 hb2 he2 HN2 H2 K2 hwc
  obtain ⟨g0, g1, g2⟩ := H3.out.cells
  have e0 : wc.cell? ⟨w.heap.size, 0, none⟩ = some (.int .i64 3) := hnew.cell 0
  have e1 : wc.cell? ⟨w.heap.size, 1, none⟩ = some (.bool y) := hnew.cell 1
  have e2 : wc.cell? ⟨w.heap.size, 2, none⟩ = some (.int .u64 m) := hnew.cell 2
  have e3 : wc.cell? ⟨w.heap.size, 3, none⟩ = some (.string t) := hnew.cell 3
  have e4 : wc.cell? ⟨w.heap.size, 4, none⟩ = some (.int .i64 cn) := hnew.cell 4
  clear hnew hkc
  go_region_held (fun W => W.cell? ⟨b, 0, none⟩ = some (.int .i64 to) ∧ W.cell? ⟨w.heap.size, 0, none⟩ = some (.int .i64 3) ∧ W.cell? ⟨w.heap.size, 1, none⟩ = some (.bool y) ∧ W.cell? ⟨w.heap.size, 2, none⟩ = some (.int .u64 m) ∧ W.cell? ⟨w.heap.size, 3, none⟩ = some (.string t) ∧ W.cell? ⟨w.heap.size, 4, none⟩ = some (.int .i64 cn)) (go_keep) ((go_at_call 17; refine (HP.out _).mono ?_; rintro e w4 ⟨rfl, k4⟩; have d := k4.cell (p := ⟨b, 0, none⟩) g0 (by simp); have d0 := k4.cell (p := ⟨w.heap.size, 0, none⟩) e0 (by simp); have d1 := k4.cell (p := ⟨w.heap.size, 1, none⟩) e1 (by simp); have d2 := k4.cell (p := ⟨w.heap.size, 2, none⟩) e2 (by simp); have d3 := k4.cell (p := ⟨w.heap.size, 3, none⟩) e3 (by simp); have d4 := k4.cell (p := ⟨w.heap.size, 4, none⟩) e4 (by simp)))
  have k24 := (Keeps.refl [] wc).drew.trans k4
  have H4 := Lib.hid (H3.out.keeps k24 (by simp) (by simp))
  have K4 := Lib.hid (K3.out.trans k24)
  clear g0 g1 g2 e0 e1 e2 e3 e4 k4 k24 d1 d2 d3 d4 K3 H3
  obtain ⟨g0, g1, g2⟩ := H4.out.cells
  have f2 := H4.out.blk.free 2
  have hb4 := H4.out.blk.lt
  have he4 : w.heap.size < w4.heap.size := World.block_lt_of_cell? w4 _ d0
  have hwb : base ≤ w4.heap.size := Nat.le_trans HB.out K4.out.size
  have hset : Keeps [b] w4 (w4.setCell ⟨b, 2, none⟩ (.bool false)) := (Keeps.refl _ _).set1 _
  have hne : w.heap.size ≠ b := by omega
  have hW5 : WrIn (w4.setCell ⟨b, 2, none⟩ (.bool false)) base b to (.slice (some ⟨g, 0, none⟩) (s.length + 1) cap) (⟨true, cc, cpt⟩ :: s) false := ⟨(H4.out.blk.set 2 (.bool false)).conv rfl, ownsRow_keeps H4.out.opn hset (fun i hi hm => H4.out.bo (by rw [List.mem_singleton] at hm; exact hm ▸ mem_blks.2 hi)), H4.out.bo⟩
  have d5 : (w4.setCell ⟨b, 2, none⟩ (.bool false)).cell? ⟨w.heap.size, 0, none⟩ = some (.int .i64 3) := hset.cell d0 (by simpa using hne)
  have H5 := Lib.hid hW5
  have K5 := Lib.hid ((K4.out.mono (G := [b]) (by simp)).trans hset)
  have hz5 : (w4.setCell ⟨b, 2, none⟩ (.bool false)).heap.size = w4.heap.size := by simp [World.setCell]
  clear hW5 hset
  go_wp2_with (at_builtin; go_must (refine app_box rfl _ _ rfl base (.slice none 0 0) [] rfl (OwnsStk.nil _ _ _) ⟨g, 0, none⟩ (s.length + 1) cap (⟨true, cc, cpt⟩ :: s) rfl rfl ?_ (by simp; omega) (by simp [World.setCell]; exact hwb) ?_))
  · exact World.ownsRow.cells H5.out.opn (g := g) rfl
  intro v6 w6 hown6 hk6 hb6
  obtain ⟨g6, c6, rfl, gb6, gl6, gr6, gm6, p0, p1, p2, pf⟩ := hown6.some_
  have hg6 : g6 = w4.heap.size := by
    rcases hb6 with h | h
    · simp [Value.ownBlock] at h
    · try rw [hz5] at h
      simpa [Value.ownBlock] using h
  rw [blks_nil] at hk6
  have hblk6 := H5.out.blk.keeps hk6 (by simp)
  have r1 := hblk6.cell 1
  have rf1 := hblk6.free 1
  have rb1 := hblk6.lt
  have d6 := hk6.cell d5 (by simp)
  have he6 : w.heap.size < w6.heap.size := World.block_lt_of_cell? w6 _ d6
  have hgb : g6 ≠ b := by omega
  have hbg : b ≠ g6 := by omega
  have hge : w.heap.size ≠ g6 := by omega
  have hge2 : g6 ≠ w.heap.size := by omega
  have hne2 : b ≠ w.heap.size := by omega
  have pf2 := pf (s.length * 3 + 2)
  have hszg : w.heap.size ≤ g6 := by
    have := K4.out.size
    omega
  unfold maxLen at gm6
  clear hg6
  simp only [List.getElem?_cons_succ, List.getElem?_cons_zero] at r1
  have hset7 : Keeps [b] w6 (w6.setCell ⟨b, 1, none⟩ (.slice (some ⟨g6, 0, none⟩) (s.length + 1) c6)) := (Keeps.refl _ _).set1 _
  have hown7 := ownsRow_keeps hown6 hset7 (fun i hi hm => by
    rw [List.mem_singleton] at hm
    simp only [Value.ownBlock, Option.some.injEq] at hi
    omega)
  have HFIN := Lib.hid (show WrIn ((w6.setCell ⟨b, 1, none⟩ (.slice (some ⟨g6, 0, none⟩) (s.length + 1) c6)).setCell ⟨g6, s.length * 3 + 2, none⟩ (.int .i64 (cpt + 1))) base b to (.slice (some ⟨g6, 0, none⟩) (s.length + 1) c6) (⟨true, cc, cpt + 1⟩ :: s) false from
    ⟨((hblk6.set 1 (.slice (some ⟨g6, 0, none⟩) (s.length + 1) c6)).conv rfl).other (by simpa using hbg) _, OwnsStk.setParts hown7 (cpt + 1), fun hm => by
      rw [mem_blks] at hm
      simp only [Value.ownBlock, Option.some.injEq] at hm
      omega⟩)
  have K7 := Lib.hid ((((K5.out.trans (hk6.mono (G := [b]) (by simp))).trans hset7).mono (G := b :: blks (.slice (some ⟨g, 0, none⟩) (s.length + 1) cap)) (fun i hi => by rw [List.mem_singleton] at hi; rw [hi]; exact List.mem_cons_self ..)).setCell (p := ⟨g6, s.length * 3 + 2, none⟩) (Or.inr hszg) (.int .i64 (cpt + 1)))
  have HSZ := Lib.hid hszg
  clear g0 g1 g2 f2 hown6 hk6 hb6 hszg hset7 hown7 hblk6 pf K5 H5 d5
  go_wp2_with fail
  go_ret2
  refine ⟨rfl, _, HFIN.out, K7.out, fun i hi => Or.inr ?_⟩
  rw [mem_blks] at hi
  simp only [Value.ownBlock, Option.some.injEq] at hi
  rw [← hi]
  exact HSZ.out

end Go.Proofs.Ytdfdajedcgmbfaa
