/-
  truchmanref1.Writer.Step for CBOR, at the end of a container whose count is not known. Printed by wip/genopenco.py.
-/
import Derived.Test.YtdfdajedcgmbfaaWrEnd
namespace Go.Proofs.Ytdfdajedcgmbfaa
open Go.RowKit Go.Tru

set_option maxHeartbeats 3200000 in
set_option maxRecDepth 100000 in
theorem wo_end_arr {w : World} {base b : Nat} {ov : Value} {cc cpt : Int} {s : List Cont} (h : WrIn w base b 2 ov (⟨false, cc, cpt⟩ :: s) false) (hs : s.length ≤ 100) (hcn : cc < 0) (hr : 0 ≤ cpt ∧ cpt ≤ 3000000) (hbase : base ≤ w.heap.size) :
    Calls Try.prog 8 #[.pointer (some ⟨b, 0, none⟩), evEnd.val] w (WrPost w base b 2 ov ⟨#[255]⟩ s s.isEmpty) := by
  have HM := Lib.hid (fun W => may_yes evEnd (Or.inl (by decide)) W)
  obtain ⟨g, cap, rfl, gb, gl, gr, gm, -, -, -, -⟩ := h.opn.some_
  simp only [Ev.val, Ev.cells, evEnd, noText] at *
  obtain ⟨hr1, hr2⟩ := hr
  have hsn : ((s.length : Int) + 1 == 0) = false := by simp; omega
  have hs1 : ((s.length : Int) + 1 == 1) = s.isEmpty := by
    cases s with
    | nil => rfl
    | cons x r => simp; omega
  have hcc : cc < 0 := by omega
  have H := Lib.hid h
  have HB := Lib.hid hbase
  have hbl := h.blk.lt
  unfold maxLen at gm
  clear h hbase
  go_enter Try.func8, Try.ntmps8
  have hnew := Has.new' w #[.int .i64 7, .bool false, .int .u64 0, .string ⟨#[]⟩, .int .i64 0] 36 rfl
  have k0 := (Keeps.refl [] w).alloc (.cells #[.int .i64 7, .bool false, .int .u64 0, .string ⟨#[]⟩, .int .i64 0] 36)
  obtain ⟨w1, hw1'⟩ : ∃ w1, w.alloc (.cells #[.int .i64 7, .bool false, .int .u64 0, .string ⟨#[]⟩, .int .i64 0] 36) = w1 := ⟨_, rfl⟩
  have H1 := Lib.hid (H.out.keeps (k0) (by simp) (by simp))
  rw [hw1'] at hnew k0 H1
  obtain ⟨g0, g1, g2⟩ := H1.out.cells
  have e0 : w1.cell? ⟨w.heap.size, 0, none⟩ = some (.int .i64 7) := hnew.cell 0
  have e1 : w1.cell? ⟨w.heap.size, 1, none⟩ = some (.bool false) := hnew.cell 1
  have e2 : w1.cell? ⟨w.heap.size, 2, none⟩ = some (.int .u64 0) := hnew.cell 2
  have e3 : w1.cell? ⟨w.heap.size, 3, none⟩ = some (.string ⟨#[]⟩) := hnew.cell 3
  have e4 : w1.cell? ⟨w.heap.size, 4, none⟩ = some (.int .i64 0) := hnew.cell 4
  have K0 := Lib.hid k0
  have HN := Lib.hid hnew
  clear hnew k0
  go_wp2_with fail
  refine (HM.out _).mono ?_
  rintro e w2 ⟨rfl, k2⟩
  have H2 := Lib.hid (H1.out.keeps k2 (by simp) (by simp))
  have hnew := HN.out.keeps k2 (by simp)
  have K2 := Lib.hid (K0.out.trans k2)
  clear g0 g1 g2 e0 e1 e2 e3 e4 hw1'
  obtain ⟨g0, g1, g2⟩ := H2.out.cells
  obtain ⟨g', cap', he, -, gl2, -, -, q0, q1, q2, -⟩ := OwnsStk.some_ H2.out.opn
  simp only [Value.slice.injEq, Option.some.injEq, Addr.mk.injEq, and_true, true_and] at he
  obtain ⟨rfl, rfl⟩ := he
  have e0 : w2.cell? ⟨w.heap.size, 0, none⟩ = some (.int .i64 7) := hnew.cell 0
  have e1 : w2.cell? ⟨w.heap.size, 1, none⟩ = some (.bool false) := hnew.cell 1
  have e2 : w2.cell? ⟨w.heap.size, 2, none⟩ = some (.int .u64 0) := hnew.cell 2
  have e3 : w2.cell? ⟨w.heap.size, 3, none⟩ = some (.string ⟨#[]⟩) := hnew.cell 3
  have e4 : w2.cell? ⟨w.heap.size, 4, none⟩ = some (.int .i64 0) := hnew.cell 4
  have hb2 := H2.out.blk.lt
  have he2 : w.heap.size < w2.heap.size := hnew.lt
  have k3 := (Keeps.refl [] w2).alloc (.cells #[.bool false, .int .i64 cc, .int .i64 cpt] 49)
  obtain ⟨w3, hw3⟩ : ∃ w3, w2.alloc (.cells #[.bool false, .int .i64 cc, .int .i64 cpt] 49) = w3 := ⟨_, rfl⟩
  rw [hw3] at k3
  have H3 := Lib.hid (H2.out.keeps k3 (by simp) (by simp))
  have K3 := Lib.hid (K2.out.trans k3)
  have HW3 := Lib.hid hw3
  have hwb : base ≤ w3.heap.size := Nat.le_trans HB.out K3.out.size
  have hb7 : w2.heap.size < w3.heap.size := by rw [← hw3]; simp
  have b7 : w3.cell? ⟨w2.heap.size, 1, none⟩ = some (.int .i64 cc) := by rw [← hw3]; exact (Has.new' w2 #[.bool false, .int .i64 cc, .int .i64 cpt] 49 rfl).cell 1
  have b70 : w3.cell? ⟨w2.heap.size, 0, none⟩ = some (.bool false) := by rw [← hw3]; exact (Has.new' w2 #[.bool false, .int .i64 cc, .int .i64 cpt] 49 rfl).cell 0
  have hbne : w2.heap.size ≠ b := by omega
  have hbne2 : b ≠ w2.heap.size := by omega
  clear hnew k2 K0 HN H1 k3 hw3
  go_wp2_with (at_builtin; rw [HW3.out]; go_must (refine app_box rfl _ _ rfl base (.slice none 0 0) [] rfl (OwnsStk.nil _ _ _) ⟨g, 0, none⟩ s.length cap s rfl rfl ?_ (by simp; omega) hwb ?_))
  · first | exact World.ownsRow.cells (OwnsStk.pop H3.out.opn) (g := g) rfl | (intro j u hu; have h9 := World.ownsRow.cells (OwnsStk.pop H3.out.opn) (g := g) rfl j u hu; rw [show (⟨g, 0, none⟩ : Addr).add j = ⟨g, j, none⟩ from by unfold Addr.add; split <;> simp_all] at h9; exact h9)
  intro v6 w6 hown6 hk6 hb6
  rw [blks_nil] at hk6
  try rw [List.append_nil] at hown6
  have d7 := hk6.cell b7 (by simp)
  have d70 := hk6.cell b70 (by simp)
  have hz6 := hk6.size
  obtain ⟨o6, c6, rfl⟩ := hown6.shape
  obtain ⟨hW7, K7, hB7, r1, rf1, rb1⟩ := WrIn.put H3.out hown6 hk6 (fun m hm => by
    rcases hb6 with h | h
    · rw [h] at hm
      simp [Value.ownBlock] at hm
    · rw [h] at hm
      simp at hm
      omega)
  have r2 := (H3.out.blk.keeps hk6 (by simp)).cell 2
  have rf2 := (H3.out.blk.keeps hk6 (by simp)).free 2
  have r0 := (H3.out.blk.keeps hk6 (by simp)).cell 0
  simp only [List.getElem?_cons_succ, List.getElem?_cons_zero] at r0 r2
  have hW8 := Lib.hid (WrIn.fin hW7 s.isEmpty)
  have K8 := Lib.hid ((K3.out.mono (G := [b]) (by simp)).trans (K7.trans ((Keeps.refl [b] _).set1 (b := b) (i := 2) (.bool s.isEmpty))))
  have HB7 := Lib.hid (fun i hi => Nat.le_trans K3.out.size (hB7 i hi))
  clear hown6 hk6 hb6 hW7 K7 hB7 g0 g1 g2 q0 q1 q2 e0 e1 e2 e3 e4 b7 b70 H3 K3 H2 K2 HW3
  go_wp2_with fail
  all_goals
    go_ret2
    refine ⟨rfl, _, hW8.out, K8.out.mono (fun i hi => by rw [List.mem_singleton] at hi; rw [hi]; exact List.mem_cons_self ..), fun i hi => Or.inr (HB7.out i hi)⟩

set_option maxHeartbeats 3200000 in
set_option maxRecDepth 100000 in
theorem wo_end_map {w : World} {base b : Nat} {ov : Value} {cc cpt : Int} {s : List Cont} (h : WrIn w base b 2 ov (⟨true, cc, cpt⟩ :: s) false) (hs : s.length ≤ 100) (hcn : cc < 0) (hr : 0 ≤ cpt ∧ cpt ≤ 3000000) (hpar : cpt % 2 = 0) (hbase : base ≤ w.heap.size) :
    Calls Try.prog 8 #[.pointer (some ⟨b, 0, none⟩), evEnd.val] w (WrPost w base b 2 ov ⟨#[255]⟩ s s.isEmpty) := by
  have HM := Lib.hid (fun W => may_yes evEnd (Or.inl (by decide)) W)
  obtain ⟨g, cap, rfl, gb, gl, gr, gm, -, -, -, -⟩ := h.opn.some_
  simp only [Ev.val, Ev.cells, evEnd, noText] at *
  obtain ⟨hr1, hr2⟩ := hr
  have hmod : cpt.tmod 2 = 0 := by rw [Int.tmod_eq_emod_of_nonneg (by omega)]; exact hpar
  have hsn : ((s.length : Int) + 1 == 0) = false := by simp; omega
  have hs1 : ((s.length : Int) + 1 == 1) = s.isEmpty := by
    cases s with
    | nil => rfl
    | cons x r => simp; omega
  have hcc : cc < 0 := by omega
  have H := Lib.hid h
  have HB := Lib.hid hbase
  have hbl := h.blk.lt
  unfold maxLen at gm
  clear h hbase
  go_enter Try.func8, Try.ntmps8
  have hnew := Has.new' w #[.int .i64 7, .bool false, .int .u64 0, .string ⟨#[]⟩, .int .i64 0] 36 rfl
  have k0 := (Keeps.refl [] w).alloc (.cells #[.int .i64 7, .bool false, .int .u64 0, .string ⟨#[]⟩, .int .i64 0] 36)
  obtain ⟨w1, hw1'⟩ : ∃ w1, w.alloc (.cells #[.int .i64 7, .bool false, .int .u64 0, .string ⟨#[]⟩, .int .i64 0] 36) = w1 := ⟨_, rfl⟩
  have H1 := Lib.hid (H.out.keeps (k0) (by simp) (by simp))
  rw [hw1'] at hnew k0 H1
  obtain ⟨g0, g1, g2⟩ := H1.out.cells
  have e0 : w1.cell? ⟨w.heap.size, 0, none⟩ = some (.int .i64 7) := hnew.cell 0
  have e1 : w1.cell? ⟨w.heap.size, 1, none⟩ = some (.bool false) := hnew.cell 1
  have e2 : w1.cell? ⟨w.heap.size, 2, none⟩ = some (.int .u64 0) := hnew.cell 2
  have e3 : w1.cell? ⟨w.heap.size, 3, none⟩ = some (.string ⟨#[]⟩) := hnew.cell 3
  have e4 : w1.cell? ⟨w.heap.size, 4, none⟩ = some (.int .i64 0) := hnew.cell 4
  have K0 := Lib.hid k0
  have HN := Lib.hid hnew
  clear hnew k0
  go_wp2_with fail
  refine (HM.out _).mono ?_
  rintro e w2 ⟨rfl, k2⟩
  have H2 := Lib.hid (H1.out.keeps k2 (by simp) (by simp))
  have hnew := HN.out.keeps k2 (by simp)
  have K2 := Lib.hid (K0.out.trans k2)
  clear g0 g1 g2 e0 e1 e2 e3 e4 hw1'
  obtain ⟨g0, g1, g2⟩ := H2.out.cells
  obtain ⟨g', cap', he, -, gl2, -, -, q0, q1, q2, -⟩ := OwnsStk.some_ H2.out.opn
  simp only [Value.slice.injEq, Option.some.injEq, Addr.mk.injEq, and_true, true_and] at he
  obtain ⟨rfl, rfl⟩ := he
  have e0 : w2.cell? ⟨w.heap.size, 0, none⟩ = some (.int .i64 7) := hnew.cell 0
  have e1 : w2.cell? ⟨w.heap.size, 1, none⟩ = some (.bool false) := hnew.cell 1
  have e2 : w2.cell? ⟨w.heap.size, 2, none⟩ = some (.int .u64 0) := hnew.cell 2
  have e3 : w2.cell? ⟨w.heap.size, 3, none⟩ = some (.string ⟨#[]⟩) := hnew.cell 3
  have e4 : w2.cell? ⟨w.heap.size, 4, none⟩ = some (.int .i64 0) := hnew.cell 4
  have hb2 := H2.out.blk.lt
  have he2 : w.heap.size < w2.heap.size := hnew.lt
  have k3 := (Keeps.refl [] w2).alloc (.cells #[.bool true, .int .i64 cc, .int .i64 cpt] 49)
  obtain ⟨w3, hw3⟩ : ∃ w3, w2.alloc (.cells #[.bool true, .int .i64 cc, .int .i64 cpt] 49) = w3 := ⟨_, rfl⟩
  rw [hw3] at k3
  have H3 := Lib.hid (H2.out.keeps k3 (by simp) (by simp))
  have K3 := Lib.hid (K2.out.trans k3)
  have HW3 := Lib.hid hw3
  have hwb : base ≤ w3.heap.size := Nat.le_trans HB.out K3.out.size
  have hb7 : w2.heap.size < w3.heap.size := by rw [← hw3]; simp
  have b7 : w3.cell? ⟨w2.heap.size, 1, none⟩ = some (.int .i64 cc) := by rw [← hw3]; exact (Has.new' w2 #[.bool true, .int .i64 cc, .int .i64 cpt] 49 rfl).cell 1
  have b70 : w3.cell? ⟨w2.heap.size, 0, none⟩ = some (.bool true) := by rw [← hw3]; exact (Has.new' w2 #[.bool true, .int .i64 cc, .int .i64 cpt] 49 rfl).cell 0
  have hbne : w2.heap.size ≠ b := by omega
  have hbne2 : b ≠ w2.heap.size := by omega
  clear hnew k2 K0 HN H1 k3 hw3
  go_wp2_with (at_builtin; rw [HW3.out]; go_must (refine app_box rfl _ _ rfl base (.slice none 0 0) [] rfl (OwnsStk.nil _ _ _) ⟨g, 0, none⟩ s.length cap s rfl rfl ?_ (by simp; omega) hwb ?_))
  · first | exact World.ownsRow.cells (OwnsStk.pop H3.out.opn) (g := g) rfl | (intro j u hu; have h9 := World.ownsRow.cells (OwnsStk.pop H3.out.opn) (g := g) rfl j u hu; rw [show (⟨g, 0, none⟩ : Addr).add j = ⟨g, j, none⟩ from by unfold Addr.add; split <;> simp_all] at h9; exact h9)
  intro v6 w6 hown6 hk6 hb6
  rw [blks_nil] at hk6
  try rw [List.append_nil] at hown6
  have d7 := hk6.cell b7 (by simp)
  have d70 := hk6.cell b70 (by simp)
  have hz6 := hk6.size
  obtain ⟨o6, c6, rfl⟩ := hown6.shape
  obtain ⟨hW7, K7, hB7, r1, rf1, rb1⟩ := WrIn.put H3.out hown6 hk6 (fun m hm => by
    rcases hb6 with h | h
    · rw [h] at hm
      simp [Value.ownBlock] at hm
    · rw [h] at hm
      simp at hm
      omega)
  have r2 := (H3.out.blk.keeps hk6 (by simp)).cell 2
  have rf2 := (H3.out.blk.keeps hk6 (by simp)).free 2
  have r0 := (H3.out.blk.keeps hk6 (by simp)).cell 0
  simp only [List.getElem?_cons_succ, List.getElem?_cons_zero] at r0 r2
  have hW8 := Lib.hid (WrIn.fin hW7 s.isEmpty)
  have K8 := Lib.hid ((K3.out.mono (G := [b]) (by simp)).trans (K7.trans ((Keeps.refl [b] _).set1 (b := b) (i := 2) (.bool s.isEmpty))))
  have HB7 := Lib.hid (fun i hi => Nat.le_trans K3.out.size (hB7 i hi))
  clear hown6 hk6 hb6 hW7 K7 hB7 g0 g1 g2 q0 q1 q2 e0 e1 e2 e3 e4 b7 b70 H3 K3 H2 K2 HW3
  go_wp2_with fail
  all_goals
    go_ret2
    refine ⟨rfl, _, hW8.out, K8.out.mono (fun i hi => by rw [List.mem_singleton] at hi; rw [hi]; exact List.mem_cons_self ..), fun i hi => Or.inr (HB7.out i hi)⟩
end Go.Proofs.Ytdfdajedcgmbfaa
