/-
  truchmanref1.Writer.Step for CBOR, at the beginning of a container within another one, counts not known. Printed by wip/genopenco.py.
-/
import Derived.Test.YtdfdajedcgmbfaaWrOpenO0
namespace Go.Proofs.Ytdfdajedcgmbfaa
open Go.RowKit Go.Tru

set_option maxHeartbeats 6400000 in
set_option maxRecDepth 100000 in
theorem wo_open_arr_arr (x : Int) (hx : x = -1) {w : World} {base b : Nat} {ov : Value} {cc cpt : Int} {s : List Cont} (h : WrIn w base b 2 ov (⟨false, cc, cpt⟩ :: s) false) (hs : s.length ≤ 100) (hp0 : 0 ≤ cpt) (hp1 : cpt ≤ 3000000) (hr : -1 ≤ cc ∧ cc < 0) (hbase : base ≤ w.heap.size) :
    Calls Try.prog 8 #[.pointer (some ⟨b, 0, none⟩), (Ev.mk 5 false 0 noText x).val] w (WrPost w base b 2 ov (⟨#[159]⟩ : ByteArray) (⟨false, x, 0⟩ :: ⟨false, cc, cpt + 1⟩ :: s) false) := by
  have hw0 : IntKind.u64.wrap x = 18446744073709551615 := by rw [hx]; decide
  have hcat : (⟨#[]⟩ : ByteArray) ++ (⟨#[159]⟩ : ByteArray) = (⟨#[159]⟩ : ByteArray) := by exact ByteArray.empty_append
  have HM := Lib.hid (fun W => may_yes ⟨5, false, 0, noText, x⟩ (Or.inr ⟨Or.inl rfl, by simp only []; omega⟩) W)
  obtain ⟨g, cap, rfl, gb, gl, gr, gm, -, -, -, -⟩ := h.opn.some_
  simp only [Ev.val, Ev.cells, noText] at *
  obtain ⟨hr1, hr2⟩ := hr
  have hsn : ((s.length : Int) + 1 == 0) = false := by simp; omega
  have H := Lib.hid h
  have HB := Lib.hid hbase
  have hbl := h.blk.lt
  unfold maxLen at gm
  have hxn : x < 0 := by omega
  clear h hbase hx
  go_enter Try.func8, Try.ntmps8
  have hnew := Has.new' w #[.int .i64 5, .bool false, .int .u64 0, .string ⟨#[]⟩, .int .i64 x] 36 rfl
  have k0 := (Keeps.refl [] w).alloc (.cells #[.int .i64 5, .bool false, .int .u64 0, .string ⟨#[]⟩, .int .i64 x] 36)
  obtain ⟨w1, hw1'⟩ : ∃ w1, w.alloc (.cells #[.int .i64 5, .bool false, .int .u64 0, .string ⟨#[]⟩, .int .i64 x] 36) = w1 := ⟨_, rfl⟩
  have H1 := Lib.hid (H.out.keeps (k0) (by simp) (by simp))
  rw [hw1'] at hnew k0 H1
  obtain ⟨g0, g1, g2⟩ := H1.out.cells
  have e0 : w1.cell? ⟨w.heap.size, 0, none⟩ = some (.int .i64 5) := hnew.cell 0
  have e1 : w1.cell? ⟨w.heap.size, 1, none⟩ = some (.bool false) := hnew.cell 1
  have e2 : w1.cell? ⟨w.heap.size, 2, none⟩ = some (.int .u64 0) := hnew.cell 2
  have e3 : w1.cell? ⟨w.heap.size, 3, none⟩ = some (.string ⟨#[]⟩) := hnew.cell 3
  have e4 : w1.cell? ⟨w.heap.size, 4, none⟩ = some (.int .i64 x) := hnew.cell 4
  have K0 := Lib.hid k0
  have HN := Lib.hid hnew
  clear hnew k0
  go_wp2_with fail
  refine (HM.out _).mono ?_
  rintro e w2 ⟨rfl, k2⟩
  have H2 := Lib.hid (H1.out.keeps k2 (by simp) (by simp))
  have hnew := HN.out.keeps k2 (by simp)
  have K2 := Lib.hid (K0.out.trans k2)
  clear g0 g1 g2 e0 e1 e2 e3 e4 hw1'
  obtain ⟨g0, g1, g2⟩ := H2.out.cells
  obtain ⟨g', cap', he, -, gl2, -, -, q0, q1, q2, -⟩ := OwnsStk.some_ H2.out.opn
  simp only [Value.slice.injEq, Option.some.injEq, Addr.mk.injEq, and_true, true_and] at he
  obtain ⟨rfl, rfl⟩ := he
  have e0 : w2.cell? ⟨w.heap.size, 0, none⟩ = some (.int .i64 5) := hnew.cell 0
  have e1 : w2.cell? ⟨w.heap.size, 1, none⟩ = some (.bool false) := hnew.cell 1
  have e2 : w2.cell? ⟨w.heap.size, 2, none⟩ = some (.int .u64 0) := hnew.cell 2
  have e3 : w2.cell? ⟨w.heap.size, 3, none⟩ = some (.string ⟨#[]⟩) := hnew.cell 3
  have e4 : w2.cell? ⟨w.heap.size, 4, none⟩ = some (.int .i64 x) := hnew.cell 4
  have HN2 := Lib.hid hnew
  have hb2 := H2.out.blk.lt
  have he2 : w.heap.size < w2.heap.size := hnew.lt
  have k3 := ((Keeps.refl [] w2).alloc (.cells #[.bool false, .int .i64 cc, .int .i64 cpt] 49))
  obtain ⟨w3, hw3⟩ : ∃ w3, w2.alloc (.cells #[.bool false, .int .i64 cc, .int .i64 cpt] 49) = w3 := ⟨_, rfl⟩
  rw [hw3] at k3
  have H3 := Lib.hid (H2.out.keeps k3 (by simp) (by simp))
  have HN3 := Lib.hid (HN2.out.keeps k3 (by simp))
  have K3 := Lib.hid (K2.out.trans k3)
  have HW3 := Lib.hid hw3
  have hwb : base ≤ w3.heap.size := Nat.le_trans HB.out K3.out.size
  clear hnew k2 K0 HN H1 k3 hw3
  go_wp2_with (at_builtin; rw [HW3.out]; go_must (refine app_box rfl _ _ rfl base (.slice none 0 0) [] rfl (OwnsStk.nil _ _ _) ⟨g, 0, none⟩ (s.length + 1) cap (⟨false, cc, cpt⟩ :: s) rfl rfl ?_ (by simp; omega) hwb ?_))
  · first | exact World.ownsRow.cells H3.out.opn (g := g) rfl | (intro j u hu; have h9 := World.ownsRow.cells H3.out.opn (g := g) rfl j u hu; rw [show (⟨g, 0, none⟩ : Addr).add j = ⟨g, j, none⟩ from by unfold Addr.add; split <;> simp_all] at h9; exact h9)
  intro v6 w6 hown6 hk6 hb6
  obtain ⟨g6, c6, rfl, gb6, gl6, gr6, gm6, p0, p1, p2, pf⟩ := hown6.some_
  have hg6 : g6 = w3.heap.size := by
    rcases hb6 with h | h
    · simp [Value.ownBlock] at h
    · simpa [Value.ownBlock] using h
  rw [blks_nil] at hk6
  have hblk6 := H3.out.blk.keeps hk6 (by simp)
  have r1 := hblk6.cell 1
  have rf1 := hblk6.free 1
  have rb1 := hblk6.lt
  have hn6 := HN3.out.keeps hk6 (by simp)
  have d0 : w6.cell? ⟨w.heap.size, 0, none⟩ = some (.int .i64 5) := hn6.cell 0
  have d4 : w6.cell? ⟨w.heap.size, 4, none⟩ = some (.int .i64 x) := hn6.cell 4
  have he6 : w.heap.size < w6.heap.size := hn6.lt
  have h3b := H3.out.blk.lt
  have h3e := HN3.out.lt
  have hgb : g6 ≠ b := by omega
  have hbg : b ≠ g6 := by omega
  have hge : w.heap.size ≠ g6 := by omega
  have hge2 : g6 ≠ w.heap.size := by omega
  have hne2 : b ≠ w.heap.size := by omega
  have hne3 : w.heap.size ≠ b := by omega
  have pf2 := pf (s.length * 3 + 2)
  have hszg : w.heap.size ≤ g6 := by
    have := K3.out.size
    omega
  unfold maxLen at gm6
  clear hg6
  simp only [List.getElem?_cons_succ, List.getElem?_cons_zero] at r1
  have hset7 : Keeps [b] w6 (w6.setCell ⟨b, 1, none⟩ (.slice (some ⟨g6, 0, none⟩) (s.length + 1) c6)) := (Keeps.refl _ _).set1 _
  have hown7 := ownsRow_keeps hown6 hset7 (fun i hi hm => by
    rw [List.mem_singleton] at hm
    simp only [Value.ownBlock, Option.some.injEq] at hi
    omega)
  obtain ⟨w8, hw8⟩ : ∃ w8, (w6.setCell ⟨b, 1, none⟩ (.slice (some ⟨g6, 0, none⟩) (s.length + 1) c6)).setCell ⟨g6, s.length * 3 + 2, none⟩ (.int .i64 (cpt + 1)) = w8 := ⟨_, rfl⟩
  have HFIN := (show WrIn ((w6.setCell ⟨b, 1, none⟩ (.slice (some ⟨g6, 0, none⟩) (s.length + 1) c6)).setCell ⟨g6, s.length * 3 + 2, none⟩ (.int .i64 (cpt + 1))) base b 2 (.slice (some ⟨g6, 0, none⟩) (s.length + 1) c6) (⟨false, cc, cpt + 1⟩ :: s) false from
    ⟨((hblk6.set 1 (.slice (some ⟨g6, 0, none⟩) (s.length + 1) c6)).conv rfl).other (by simpa using hbg) _, OwnsStk.setParts hown7 (cpt + 1), fun hm => by
      rw [mem_blks] at hm
      simp only [Value.ownBlock, Option.some.injEq] at hm
      omega⟩)
  have K7 := ((((K3.out.mono (G := [b]) (by simp)).trans (hk6.mono (G := [b]) (by simp))).trans hset7).setCell (p := ⟨g6, s.length * 3 + 2, none⟩) (Or.inr hszg) (.int .i64 (cpt + 1)))
  have HN8 := ((hn6.other (by simpa using hne3) (p := ⟨b, 1, none⟩) (.slice (some ⟨g6, 0, none⟩) (s.length + 1) c6)).other (by simpa using hge) (p := ⟨g6, s.length * 3 + 2, none⟩) (.int .i64 (cpt + 1)))
  rw [hw8] at HFIN K7 HN8
  have HW8 := Lib.hid hw8
  replace HFIN := Lib.hid HFIN
  replace K7 := Lib.hid K7
  replace HN8 := Lib.hid HN8
  have HSZ := Lib.hid hszg
  clear g0 g1 g2 hown6 hk6 hb6 hszg hset7 hown7 hblk6 pf hw8 hn6 HN3 H3 K3 HN2 H2 K2
  go_wp2_with fail
  rw [HW8.out]
  clear r1 rf1 rb1 d0 d4 he6 h3b h3e p0 p1 p2 pf2 q0 q1 q2 e0 e1 e2 e3 e4
  obtain ⟨g0, g1, g2⟩ := HFIN.out.cells
  have f1 := HFIN.out.blk.free 1
  have hb8 := HFIN.out.blk.lt
  have he8 : w.heap.size < w8.heap.size := HN8.out.lt
  have hwb8 : base ≤ w8.heap.size := Nat.le_trans HB.out K7.out.size
  have HE := Lib.hid (fun (w' : World) (k : Keeps [b] w8 w') => show w'.cell? ⟨w.heap.size, 0, none⟩ = some (.int .i64 5) ∧ w'.cell? ⟨w.heap.size, 4, none⟩ = some (.int .i64 x) from ⟨k.cell (HN8.out.cell 0) (by simp; omega), k.cell (HN8.out.cell 4) (by simp; omega)⟩)
  refine wp_region_held_drew (S := fun w' => Keeps [b] w8 w') (by kernel_rfl) ((Keeps.refl [b] _).drew) (fun hHeld => ?_)
  have HH := Lib.hid hHeld
  clear hHeld
  refine wpAnyH_take (i := 0) (v := ?_) rfl (by kernel_rfl) (by kernel_rfl) (by kernel_rfl) (fun _ _ _ h => h) (Or.inl ⟨by rfl, ?_⟩) HH.out ?_
  rotate_left 1
  first | (intro w hSw; clear hSw; go_simp; done) | (intro w hSw; clear hSw; go_simp; with_reducible rfl)
  try simp only [List.getElem_toArray, List.getElem_cons_zero, Act.put, List.setIfInBounds_toArray, List.set_cons_zero, List.set_cons_succ]
  refine wpAnyH_take (i := 1) (v := ?_) rfl (by kernel_rfl) (by kernel_rfl) (by kernel_rfl) (fun _ _ _ h => h) (Or.inl ⟨by rfl, ?_⟩) HH.out ?_
  rotate_left 1
  first | (intro w hSw; clear hSw; go_simp; done) | (intro w hSw; clear hSw; go_simp; with_reducible rfl)
  try simp only [List.getElem_toArray, List.getElem_cons_zero, List.getElem_cons_succ, Act.put, List.setIfInBounds_toArray, List.set_cons_zero, List.set_cons_succ]
  refine wpAnyH_take (i := 2) (v := ?_) rfl (by kernel_rfl) (by kernel_rfl) (by kernel_rfl) (fun _ _ _ h => h) (Or.inl ⟨by rfl, ?_⟩) HH.out ?_
  rotate_left 1
  first | (intro w hSw; clear hSw; go_simp; done) | (intro w hSw; clear hSw; go_simp; with_reducible rfl)
  try simp only [List.getElem_toArray, List.getElem_cons_zero, List.getElem_cons_succ, Act.put, List.setIfInBounds_toArray, List.set_cons_zero, List.set_cons_succ]
  refine wpAnyH_take (i := 3) (v := ?_) rfl (by kernel_rfl) (by kernel_rfl) (by kernel_rfl) (fun _ _ _ h => h) (Or.inl ⟨by rfl, ?_⟩) HH.out ?_
  rotate_left 1
  first | (intro w hSw; clear hSw; go_simp; done) | (intro w hSw; clear hSw; go_simp; with_reducible rfl)
  try simp only [List.getElem_toArray, List.getElem_cons_zero, List.getElem_cons_succ, Act.put, List.setIfInBounds_toArray, List.set_cons_zero, List.set_cons_succ]
  refine wpAnyH_take (i := 6) (v := ?_) rfl (by kernel_rfl) (by kernel_rfl) (by kernel_rfl) (fun _ _ _ h => h) (Or.inl ⟨by rfl, ?_⟩) HH.out ?_
  rotate_left 1
  first | (intro w hSw; clear hSw; go_simp; done) | (intro w hSw; clear hSw; go_simp; with_reducible rfl)
  try simp only [List.getElem_toArray, List.getElem_cons_zero, List.getElem_cons_succ, Act.put, List.setIfInBounds_toArray, List.set_cons_zero, List.set_cons_succ]
  refine wpAnyH_take (i := 7) (v := ?_) rfl (by kernel_rfl) (by kernel_rfl) (by kernel_rfl) (fun _ _ _ h => h) (Or.inl ⟨by rfl, ?_⟩) HH.out ?_
  rotate_left 1
  first | (intro w hSw; have hSf := HE.out w hSw; clear hSw; go_simp; done) | (intro w hSw; have hSf := HE.out w hSw; clear hSw; go_simp; with_reducible rfl)
  try simp only [List.getElem_toArray, List.getElem_cons_zero, List.getElem_cons_succ, Act.put, List.setIfInBounds_toArray, List.set_cons_zero, List.set_cons_succ]
  refine wpAnyH_take (i := 8) (v := ?_) rfl (by kernel_rfl) (by kernel_rfl) (by kernel_rfl) (fun _ _ _ h => h) (Or.inl ⟨by rfl, ?_⟩) HH.out ?_
  rotate_left 1
  first | (intro w hSw; clear hSw; go_simp; done) | (intro w hSw; clear hSw; go_simp; with_reducible rfl)
  try simp only [List.getElem_toArray, List.getElem_cons_zero, List.getElem_cons_succ, Act.put, List.setIfInBounds_toArray, List.set_cons_zero, List.set_cons_succ]
  refine wpAnyH_take (i := 9) (v := ?_) rfl (by kernel_rfl) (by kernel_rfl) (by kernel_rfl) (fun _ _ _ h => h) (Or.inl ⟨by rfl, ?_⟩) HH.out ?_
  rotate_left 1
  first | (intro w hSw; clear hSw; go_simp; done) | (intro w hSw; clear hSw; go_simp; with_reducible rfl)
  try simp only [List.getElem_toArray, List.getElem_cons_zero, List.getElem_cons_succ, Act.put, List.setIfInBounds_toArray, List.set_cons_zero, List.set_cons_succ]
  refine wpAnyH_take (i := 10) (v := ?_) rfl (by kernel_rfl) (by kernel_rfl) (by kernel_rfl) (fun _ _ _ h => h) (Or.inl ⟨by rfl, ?_⟩) HH.out ?_
  rotate_left 1
  first | (intro w hSw; have hSf := HE.out w hSw; clear hSw; go_simp; done) | (intro w hSw; have hSf := HE.out w hSw; clear hSw; go_simp; with_reducible rfl)
  try simp only [List.getElem_toArray, List.getElem_cons_zero, List.getElem_cons_succ, Act.put, List.setIfInBounds_toArray, List.set_cons_zero, List.set_cons_succ]
  refine wpAnyH_take (i := 11) (v := ?_) rfl (by kernel_rfl) (by kernel_rfl) (by kernel_rfl) (fun _ _ _ h => h) (Or.inl ⟨by rfl, ?_⟩) HH.out ?_
  rotate_left 1
  first | (intro w hSw; clear hSw; go_simp; done) | (intro w hSw; clear hSw; go_simp; with_reducible rfl)
  try simp only [List.getElem_toArray, List.getElem_cons_zero, List.getElem_cons_succ, Act.put, List.setIfInBounds_toArray, List.set_cons_zero, List.set_cons_succ]
  refine wpAnyH_ready (rs := [4, 12]) (by kernel_rfl) (by simp) ?_
  refine AllReadyH.cons rfl (fun K hK => ?_) (AllReadyH.cons rfl (fun K hK => ?_) AllReadyH.nil)
  · go_simp
    refine hK.out _ _ HH.out (fun hHeld => ?_)
    clear hK K HH
    have HH := Lib.hid hHeld
    clear hHeld
    refine wpAnyH_ready (rs := [5, 12]) (by kernel_rfl) (by simp) ?_
    refine AllReadyH.cons rfl (fun K hK => ?_) (AllReadyH.cons rfl (fun K hK => ?_) AllReadyH.nil)
    · have ka : Keeps [] w8 _ := ((Keeps.refl [] w8).drew)
      have HA := HFIN.out.keeps ka (by simp) (by simp)
      refine wp_app_box _ _ rfl base (.slice none 0 0) [] rfl (OwnsStk.nil _ _ _) ⟨g6, 0, none⟩ (s.length + 1) c6 (⟨false, cc, cpt + 1⟩ :: s) rfl rfl (World.ownsRow.cells HA.opn (g := g6) rfl) (by simp; omega) (Nat.le_trans hwb8 ka.size) ?_
      intro v5 w5 hown5 hk5 hb5
      rw [blks_nil] at hk5
      rw [List.append_nil] at hown5
      replace hown5 : OwnsStk w5 base 49 v5 (⟨false, cc, cpt + 1⟩ :: s) := hown5
      have k5 : Keeps [] w8 w5 := ka.trans hk5
      obtain ⟨g5, c5, hv5, gb5, gl5, gr5, gm5, -, -, -, -⟩ := hown5.some_
      subst hv5
      have hg5 : w8.heap.size ≤ g5 := by
        rcases hb5 with h | h
        · simp [Value.ownBlock] at h
        · simp [Value.ownBlock] at h; omega
      refine hK.out _ _ (k5.mono (by simp)) (fun hHeld => ?_)
      replace hown5 := Lib.hid hown5
      replace k5 := Lib.hid k5
      clear hk5 hb5 ka HA
      clear hK K HH
      have HH := Lib.hid hHeld
      clear hHeld
      refine wpAnyH_ready (rs := [12]) (by kernel_rfl) (by simp) ?_
      refine AllReadyH.cons rfl (fun K hK => ?_) AllReadyH.nil
      go_simp
      refine hK.out _ _ (HH.out.alloc _) (fun hHeld => ?_)
      clear hK K HH
      have HH := Lib.hid hHeld
      clear hHeld
      refine wpAnyH_ready (rs := [13]) (by kernel_rfl) (by simp) ?_
      refine AllReadyH.cons rfl (fun K hK => ?_) AllReadyH.nil
      have kb : Keeps [] w5 _ := ((Keeps.refl [] w5).alloc (.cells #[.bool false, .int .i64 x, .int .i64 0] 49))
      have ho := ownsRow_keeps hown5.out kb (by simp)
      refine wp_app_box _ _ rfl base (.slice (some ⟨g5, 0, none⟩) (s.length + 1) c5) (⟨false, cc, cpt + 1⟩ :: s) rfl ho ⟨_, 0, none⟩ 1 1 [⟨false, x, 0⟩] rfl rfl (cells_new [.bool false, .int .i64 x, .int .i64 0] (by simp)) (by simp; omega) (by have h1 := k5.out.size; have h2 := kb.size; omega) ?_
      intro v6 w6 hown6 hk6 hb6
      replace hown6 : OwnsStk w6 base 49 v6 (⟨false, x, 0⟩ :: ⟨false, cc, cpt + 1⟩ :: s) := hown6
      have k58 := k5.out.size
      have kbs := kb.size
      have hK6 : Keeps [] w8 w6 := (k5.out.trans kb).trans' hk6 (fun i hi => Or.inr (by
        rw [mem_blks] at hi
        simp only [Value.ownBlock, Option.some.injEq] at hi
        omega))
      obtain ⟨z6, d6, hv6, gg6, hW6, K6, r1, rf1, rb1⟩ := WrIn.pushed HFIN.out hown6 hK6 (fun m hm => by
        rcases hb6 with h | h
        · rw [h] at hm
          simp only [Value.ownBlock, Option.some.injEq] at hm
          omega
        · rw [h] at hm
          simp at hm
          omega)
      subst hv6
      refine hK.out _ _ (hK6.mono (by simp)) (fun hHeld => ?_)
      replace hW6 := Lib.hid hW6
      replace K6 := Lib.hid (K7.out.trans K6)
      replace gg6 := Lib.hid (Nat.le_trans K7.out.size gg6)
      clear hown6 hk6 hb6 hK6 ho kb
      clear hK K HH
      have HH := Lib.hid hHeld
      clear hHeld
      refine wpAnyH_take (i := 14) (v := ?_) rfl (by kernel_rfl) (by kernel_rfl) (by kernel_rfl) (fun _ _ _ h => h) (Or.inl ⟨by rfl, ?_⟩) HH.out ?_
      rotate_left 1
      first | (intro w hSw; clear hSw; go_simp; done) | (intro w hSw; clear hSw; go_simp; with_reducible rfl)
      try simp only [List.getElem_toArray, List.getElem_cons_zero, List.getElem_cons_succ, Act.put, List.setIfInBounds_toArray, List.set_cons_zero, List.set_cons_succ]
      refine wpAnyH_take (i := 15) (v := ?_) rfl (by kernel_rfl) (by kernel_rfl) (by kernel_rfl) (fun _ _ _ h => h) (Or.inl ⟨by rfl, ?_⟩) HH.out ?_
      rotate_left 1
      first | (intro w hSw; clear hSw; go_simp; done) | (intro w hSw; clear hSw; go_simp; with_reducible rfl)
      try simp only [List.getElem_toArray, List.getElem_cons_zero, List.getElem_cons_succ, Act.put, List.setIfInBounds_toArray, List.set_cons_zero, List.set_cons_succ]
      refine wpAnyH_ready (rs := [16]) (by kernel_rfl) (by simp) ?_
      refine AllReadyH.cons rfl (fun K hK => ?_) AllReadyH.nil
      go_simp
      refine hK.out _ _ (HH.out.set1 _) (fun hHeld => ?_)
      clear hK K HH
      have HH := Lib.hid hHeld
      clear hHeld
      refine wpAnyH_done (by kernel_rfl) ?_ _
      go_wp2_with fail
      go_ret2
      refine ⟨rfl, _, hW6.out, K6.out.mono (fun i hi => by rw [List.mem_singleton] at hi; rw [hi]; exact List.mem_cons_self ..), fun i hi => Or.inr ?_⟩
      rw [mem_blks] at hi
      simp only [Value.ownBlock, Option.some.injEq] at hi
      rw [← hi]
      exact gg6.out
    · go_simp
      refine hK.out _ _ (HH.out.alloc _) (fun hHeld => ?_)
      clear hK K HH
      have HH := Lib.hid hHeld
      clear hHeld
      refine wpAnyH_ready (rs := [5]) (by kernel_rfl) (by simp) ?_
      refine AllReadyH.cons rfl (fun K hK => ?_) AllReadyH.nil
      have ka : Keeps [] w8 _ := (((Keeps.refl [] w8).drew).alloc (.cells #[.bool false, .int .i64 x, .int .i64 0] 49))
      have HA := HFIN.out.keeps ka (by simp) (by simp)
      have hbx := Has.new' w8.drew #[.bool false, .int .i64 x, .int .i64 0] 49 rfl
      refine wp_app_box _ _ rfl base (.slice none 0 0) [] rfl (OwnsStk.nil _ _ _) ⟨g6, 0, none⟩ (s.length + 1) c6 (⟨false, cc, cpt + 1⟩ :: s) rfl rfl (World.ownsRow.cells HA.opn (g := g6) rfl) (by simp; omega) (Nat.le_trans hwb8 ka.size) ?_
      intro v5 w5 hown5 hk5 hb5
      rw [blks_nil] at hk5
      rw [List.append_nil] at hown5
      replace hown5 : OwnsStk w5 base 49 v5 (⟨false, cc, cpt + 1⟩ :: s) := hown5
      have k5 : Keeps [] w8 w5 := ka.trans hk5
      have hbx5 := has_cells (hbx.keeps hk5 (by simp))
      replace hbx5 := Lib.hid hbx5
      obtain ⟨g5, c5, hv5, gb5, gl5, gr5, gm5, -, -, -, -⟩ := hown5.some_
      subst hv5
      have hg5 : w8.heap.size ≤ g5 := by
        rcases hb5 with h | h
        · simp [Value.ownBlock] at h
        · simp [Value.ownBlock] at h; omega
      refine hK.out _ _ (k5.mono (by simp)) (fun hHeld => ?_)
      replace hown5 := Lib.hid hown5
      replace k5 := Lib.hid k5
      clear hk5 hb5 ka HA hbx
      clear hK K HH
      have HH := Lib.hid hHeld
      clear hHeld
      refine wpAnyH_ready (rs := [13]) (by kernel_rfl) (by simp) ?_
      refine AllReadyH.cons rfl (fun K hK => ?_) AllReadyH.nil
      have kb : Keeps [] w5 _ := (Keeps.refl [] w5)
      have ho := ownsRow_keeps hown5.out kb (by simp)
      refine wp_app_box _ _ rfl base (.slice (some ⟨g5, 0, none⟩) (s.length + 1) c5) (⟨false, cc, cpt + 1⟩ :: s) rfl ho ⟨_, 0, none⟩ 1 1 [⟨false, x, 0⟩] rfl rfl hbx5.out (by simp; omega) (by have h1 := k5.out.size; have h2 := kb.size; omega) ?_
      intro v6 w6 hown6 hk6 hb6
      replace hown6 : OwnsStk w6 base 49 v6 (⟨false, x, 0⟩ :: ⟨false, cc, cpt + 1⟩ :: s) := hown6
      have k58 := k5.out.size
      have kbs := kb.size
      have hK6 : Keeps [] w8 w6 := (k5.out.trans kb).trans' hk6 (fun i hi => Or.inr (by
        rw [mem_blks] at hi
        simp only [Value.ownBlock, Option.some.injEq] at hi
        omega))
      obtain ⟨z6, d6, hv6, gg6, hW6, K6, r1, rf1, rb1⟩ := WrIn.pushed HFIN.out hown6 hK6 (fun m hm => by
        rcases hb6 with h | h
        · rw [h] at hm
          simp only [Value.ownBlock, Option.some.injEq] at hm
          omega
        · rw [h] at hm
          simp at hm
          omega)
      subst hv6
      refine hK.out _ _ (hK6.mono (by simp)) (fun hHeld => ?_)
      replace hW6 := Lib.hid hW6
      replace K6 := Lib.hid (K7.out.trans K6)
      replace gg6 := Lib.hid (Nat.le_trans K7.out.size gg6)
      clear hown6 hk6 hb6 hK6 ho kb
      clear hK K HH
      have HH := Lib.hid hHeld
      clear hHeld
      refine wpAnyH_take (i := 14) (v := ?_) rfl (by kernel_rfl) (by kernel_rfl) (by kernel_rfl) (fun _ _ _ h => h) (Or.inl ⟨by rfl, ?_⟩) HH.out ?_
      rotate_left 1
      first | (intro w hSw; clear hSw; go_simp; done) | (intro w hSw; clear hSw; go_simp; with_reducible rfl)
      try simp only [List.getElem_toArray, List.getElem_cons_zero, List.getElem_cons_succ, Act.put, List.setIfInBounds_toArray, List.set_cons_zero, List.set_cons_succ]
      refine wpAnyH_take (i := 15) (v := ?_) rfl (by kernel_rfl) (by kernel_rfl) (by kernel_rfl) (fun _ _ _ h => h) (Or.inl ⟨by rfl, ?_⟩) HH.out ?_
      rotate_left 1
      first | (intro w hSw; clear hSw; go_simp; done) | (intro w hSw; clear hSw; go_simp; with_reducible rfl)
      try simp only [List.getElem_toArray, List.getElem_cons_zero, List.getElem_cons_succ, Act.put, List.setIfInBounds_toArray, List.set_cons_zero, List.set_cons_succ]
      refine wpAnyH_ready (rs := [16]) (by kernel_rfl) (by simp) ?_
      refine AllReadyH.cons rfl (fun K hK => ?_) AllReadyH.nil
      go_simp
      refine hK.out _ _ (HH.out.set1 _) (fun hHeld => ?_)
      clear hK K HH
      have HH := Lib.hid hHeld
      clear hHeld
      refine wpAnyH_done (by kernel_rfl) ?_ _
      go_wp2_with fail
      go_ret2
      refine ⟨rfl, _, hW6.out, K6.out.mono (fun i hi => by rw [List.mem_singleton] at hi; rw [hi]; exact List.mem_cons_self ..), fun i hi => Or.inr ?_⟩
      rw [mem_blks] at hi
      simp only [Value.ownBlock, Option.some.injEq] at hi
      rw [← hi]
      exact gg6.out
  · go_simp
    refine hK.out _ _ (HH.out.alloc _) (fun hHeld => ?_)
    clear hK K HH
    have HH := Lib.hid hHeld
    clear hHeld
    refine wpAnyH_ready (rs := [4]) (by kernel_rfl) (by simp) ?_
    refine AllReadyH.cons rfl (fun K hK => ?_) AllReadyH.nil
    go_simp
    refine hK.out _ _ HH.out (fun hHeld => ?_)
    clear hK K HH
    have HH := Lib.hid hHeld
    clear hHeld
    refine wpAnyH_ready (rs := [5]) (by kernel_rfl) (by simp) ?_
    refine AllReadyH.cons rfl (fun K hK => ?_) AllReadyH.nil
    have ka : Keeps [] w8 _ := (((Keeps.refl [] w8).drew).alloc (.cells #[.bool false, .int .i64 x, .int .i64 0] 49))
    have HA := HFIN.out.keeps ka (by simp) (by simp)
    have hbx := Has.new' w8.drew #[.bool false, .int .i64 x, .int .i64 0] 49 rfl
    refine wp_app_box _ _ rfl base (.slice none 0 0) [] rfl (OwnsStk.nil _ _ _) ⟨g6, 0, none⟩ (s.length + 1) c6 (⟨false, cc, cpt + 1⟩ :: s) rfl rfl (World.ownsRow.cells HA.opn (g := g6) rfl) (by simp; omega) (Nat.le_trans hwb8 ka.size) ?_
    intro v5 w5 hown5 hk5 hb5
    rw [blks_nil] at hk5
    rw [List.append_nil] at hown5
    replace hown5 : OwnsStk w5 base 49 v5 (⟨false, cc, cpt + 1⟩ :: s) := hown5
    have k5 : Keeps [] w8 w5 := ka.trans hk5
    have hbx5 := has_cells (hbx.keeps hk5 (by simp))
    replace hbx5 := Lib.hid hbx5
    obtain ⟨g5, c5, hv5, gb5, gl5, gr5, gm5, -, -, -, -⟩ := hown5.some_
    subst hv5
    have hg5 : w8.heap.size ≤ g5 := by
      rcases hb5 with h | h
      · simp [Value.ownBlock] at h
      · simp [Value.ownBlock] at h; omega
    refine hK.out _ _ (k5.mono (by simp)) (fun hHeld => ?_)
    replace hown5 := Lib.hid hown5
    replace k5 := Lib.hid k5
    clear hk5 hb5 ka HA hbx
    clear hK K HH
    have HH := Lib.hid hHeld
    clear hHeld
    refine wpAnyH_ready (rs := [13]) (by kernel_rfl) (by simp) ?_
    refine AllReadyH.cons rfl (fun K hK => ?_) AllReadyH.nil
    have kb : Keeps [] w5 _ := (Keeps.refl [] w5)
    have ho := ownsRow_keeps hown5.out kb (by simp)
    refine wp_app_box _ _ rfl base (.slice (some ⟨g5, 0, none⟩) (s.length + 1) c5) (⟨false, cc, cpt + 1⟩ :: s) rfl ho ⟨_, 0, none⟩ 1 1 [⟨false, x, 0⟩] rfl rfl hbx5.out (by simp; omega) (by have h1 := k5.out.size; have h2 := kb.size; omega) ?_
    intro v6 w6 hown6 hk6 hb6
    replace hown6 : OwnsStk w6 base 49 v6 (⟨false, x, 0⟩ :: ⟨false, cc, cpt + 1⟩ :: s) := hown6
    have k58 := k5.out.size
    have kbs := kb.size
    have hK6 : Keeps [] w8 w6 := (k5.out.trans kb).trans' hk6 (fun i hi => Or.inr (by
      rw [mem_blks] at hi
      simp only [Value.ownBlock, Option.some.injEq] at hi
      omega))
    obtain ⟨z6, d6, hv6, gg6, hW6, K6, r1, rf1, rb1⟩ := WrIn.pushed HFIN.out hown6 hK6 (fun m hm => by
      rcases hb6 with h | h
      · rw [h] at hm
        simp only [Value.ownBlock, Option.some.injEq] at hm
        omega
      · rw [h] at hm
        simp at hm
        omega)
    subst hv6
    refine hK.out _ _ (hK6.mono (by simp)) (fun hHeld => ?_)
    replace hW6 := Lib.hid hW6
    replace K6 := Lib.hid (K7.out.trans K6)
    replace gg6 := Lib.hid (Nat.le_trans K7.out.size gg6)
    clear hown6 hk6 hb6 hK6 ho kb
    clear hK K HH
    have HH := Lib.hid hHeld
    clear hHeld
    refine wpAnyH_take (i := 14) (v := ?_) rfl (by kernel_rfl) (by kernel_rfl) (by kernel_rfl) (fun _ _ _ h => h) (Or.inl ⟨by rfl, ?_⟩) HH.out ?_
    rotate_left 1
    first | (intro w hSw; clear hSw; go_simp; done) | (intro w hSw; clear hSw; go_simp; with_reducible rfl)
    try simp only [List.getElem_toArray, List.getElem_cons_zero, List.getElem_cons_succ, Act.put, List.setIfInBounds_toArray, List.set_cons_zero, List.set_cons_succ]
    refine wpAnyH_take (i := 15) (v := ?_) rfl (by kernel_rfl) (by kernel_rfl) (by kernel_rfl) (fun _ _ _ h => h) (Or.inl ⟨by rfl, ?_⟩) HH.out ?_
    rotate_left 1
    first | (intro w hSw; clear hSw; go_simp; done) | (intro w hSw; clear hSw; go_simp; with_reducible rfl)
    try simp only [List.getElem_toArray, List.getElem_cons_zero, List.getElem_cons_succ, Act.put, List.setIfInBounds_toArray, List.set_cons_zero, List.set_cons_succ]
    refine wpAnyH_ready (rs := [16]) (by kernel_rfl) (by simp) ?_
    refine AllReadyH.cons rfl (fun K hK => ?_) AllReadyH.nil
    go_simp
    refine hK.out _ _ (HH.out.set1 _) (fun hHeld => ?_)
    clear hK K HH
    have HH := Lib.hid hHeld
    clear hHeld
    refine wpAnyH_done (by kernel_rfl) ?_ _
    go_wp2_with fail
    go_ret2
    refine ⟨rfl, _, hW6.out, K6.out.mono (fun i hi => by rw [List.mem_singleton] at hi; rw [hi]; exact List.mem_cons_self ..), fun i hi => Or.inr ?_⟩
    rw [mem_blks] at hi
    simp only [Value.ownBlock, Option.some.injEq] at hi
    rw [← hi]
    exact gg6.out

set_option maxHeartbeats 6400000 in
set_option maxRecDepth 100000 in
theorem wo_open_arr_map (x : Int) (hx : x = -1) {w : World} {base b : Nat} {ov : Value} {cc cpt : Int} {s : List Cont} (h : WrIn w base b 2 ov (⟨false, cc, cpt⟩ :: s) false) (hs : s.length ≤ 100) (hp0 : 0 ≤ cpt) (hp1 : cpt ≤ 3000000) (hr : -1 ≤ cc ∧ cc < 0) (hbase : base ≤ w.heap.size) :
    Calls Try.prog 8 #[.pointer (some ⟨b, 0, none⟩), (Ev.mk 6 false 0 noText x).val] w (WrPost w base b 2 ov (⟨#[191]⟩ : ByteArray) (⟨true, x, 0⟩ :: ⟨false, cc, cpt + 1⟩ :: s) false) := by
  have hw0 : IntKind.u64.wrap x = 18446744073709551615 := by rw [hx]; decide
  have hcat : (⟨#[]⟩ : ByteArray) ++ (⟨#[191]⟩ : ByteArray) = (⟨#[191]⟩ : ByteArray) := by exact ByteArray.empty_append
  have HM := Lib.hid (fun W => may_yes ⟨6, false, 0, noText, x⟩ (Or.inr ⟨Or.inr rfl, by simp only []; omega⟩) W)
  obtain ⟨g, cap, rfl, gb, gl, gr, gm, -, -, -, -⟩ := h.opn.some_
  simp only [Ev.val, Ev.cells, noText] at *
  obtain ⟨hr1, hr2⟩ := hr
  have hsn : ((s.length : Int) + 1 == 0) = false := by simp; omega
  have H := Lib.hid h
  have HB := Lib.hid hbase
  have hbl := h.blk.lt
  unfold maxLen at gm
  have hxn : x < 0 := by omega
  clear h hbase hx
  go_enter Try.func8, Try.ntmps8
  have hnew := Has.new' w #[.int .i64 6, .bool false, .int .u64 0, .string ⟨#[]⟩, .int .i64 x] 36 rfl
  have k0 := (Keeps.refl [] w).alloc (.cells #[.int .i64 6, .bool false, .int .u64 0, .string ⟨#[]⟩, .int .i64 x] 36)
  obtain ⟨w1, hw1'⟩ : ∃ w1, w.alloc (.cells #[.int .i64 6, .bool false, .int .u64 0, .string ⟨#[]⟩, .int .i64 x] 36) = w1 := ⟨_, rfl⟩
  have H1 := Lib.hid (H.out.keeps (k0) (by simp) (by simp))
  rw [hw1'] at hnew k0 H1
  obtain ⟨g0, g1, g2⟩ := H1.out.cells
  have e0 : w1.cell? ⟨w.heap.size, 0, none⟩ = some (.int .i64 6) := hnew.cell 0
  have e1 : w1.cell? ⟨w.heap.size, 1, none⟩ = some (.bool false) := hnew.cell 1
  have e2 : w1.cell? ⟨w.heap.size, 2, none⟩ = some (.int .u64 0) := hnew.cell 2
  have e3 : w1.cell? ⟨w.heap.size, 3, none⟩ = some (.string ⟨#[]⟩) := hnew.cell 3
  have e4 : w1.cell? ⟨w.heap.size, 4, none⟩ = some (.int .i64 x) := hnew.cell 4
  have K0 := Lib.hid k0
  have HN := Lib.hid hnew
  clear hnew k0
  go_wp2_with fail
  refine (HM.out _).mono ?_
  rintro e w2 ⟨rfl, k2⟩
  have H2 := Lib.hid (H1.out.keeps k2 (by simp) (by simp))
  have hnew := HN.out.keeps k2 (by simp)
  have K2 := Lib.hid (K0.out.trans k2)
  clear g0 g1 g2 e0 e1 e2 e3 e4 hw1'
  obtain ⟨g0, g1, g2⟩ := H2.out.cells
  obtain ⟨g', cap', he, -, gl2, -, -, q0, q1, q2, -⟩ := OwnsStk.some_ H2.out.opn
  simp only [Value.slice.injEq, Option.some.injEq, Addr.mk.injEq, and_true, true_and] at he
  obtain ⟨rfl, rfl⟩ := he
  have e0 : w2.cell? ⟨w.heap.size, 0, none⟩ = some (.int .i64 6) := hnew.cell 0
  have e1 : w2.cell? ⟨w.heap.size, 1, none⟩ = some (.bool false) := hnew.cell 1
  have e2 : w2.cell? ⟨w.heap.size, 2, none⟩ = some (.int .u64 0) := hnew.cell 2
  have e3 : w2.cell? ⟨w.heap.size, 3, none⟩ = some (.string ⟨#[]⟩) := hnew.cell 3
  have e4 : w2.cell? ⟨w.heap.size, 4, none⟩ = some (.int .i64 x) := hnew.cell 4
  have HN2 := Lib.hid hnew
  have hb2 := H2.out.blk.lt
  have he2 : w.heap.size < w2.heap.size := hnew.lt
  have k3 := ((Keeps.refl [] w2).alloc (.cells #[.bool false, .int .i64 cc, .int .i64 cpt] 49))
  obtain ⟨w3, hw3⟩ : ∃ w3, w2.alloc (.cells #[.bool false, .int .i64 cc, .int .i64 cpt] 49) = w3 := ⟨_, rfl⟩
  rw [hw3] at k3
  have H3 := Lib.hid (H2.out.keeps k3 (by simp) (by simp))
  have HN3 := Lib.hid (HN2.out.keeps k3 (by simp))
  have K3 := Lib.hid (K2.out.trans k3)
  have HW3 := Lib.hid hw3
  have hwb : base ≤ w3.heap.size := Nat.le_trans HB.out K3.out.size
  clear hnew k2 K0 HN H1 k3 hw3
  go_wp2_with (at_builtin; rw [HW3.out]; go_must (refine app_box rfl _ _ rfl base (.slice none 0 0) [] rfl (OwnsStk.nil _ _ _) ⟨g, 0, none⟩ (s.length + 1) cap (⟨false, cc, cpt⟩ :: s) rfl rfl ?_ (by simp; omega) hwb ?_))
  · first | exact World.ownsRow.cells H3.out.opn (g := g) rfl | (intro j u hu; have h9 := World.ownsRow.cells H3.out.opn (g := g) rfl j u hu; rw [show (⟨g, 0, none⟩ : Addr).add j = ⟨g, j, none⟩ from by unfold Addr.add; split <;> simp_all] at h9; exact h9)
  intro v6 w6 hown6 hk6 hb6
  obtain ⟨g6, c6, rfl, gb6, gl6, gr6, gm6, p0, p1, p2, pf⟩ := hown6.some_
  have hg6 : g6 = w3.heap.size := by
    rcases hb6 with h | h
    · simp [Value.ownBlock] at h
    · simpa [Value.ownBlock] using h
  rw [blks_nil] at hk6
  have hblk6 := H3.out.blk.keeps hk6 (by simp)
  have r1 := hblk6.cell 1
  have rf1 := hblk6.free 1
  have rb1 := hblk6.lt
  have hn6 := HN3.out.keeps hk6 (by simp)
  have d0 : w6.cell? ⟨w.heap.size, 0, none⟩ = some (.int .i64 6) := hn6.cell 0
  have d4 : w6.cell? ⟨w.heap.size, 4, none⟩ = some (.int .i64 x) := hn6.cell 4
  have he6 : w.heap.size < w6.heap.size := hn6.lt
  have h3b := H3.out.blk.lt
  have h3e := HN3.out.lt
  have hgb : g6 ≠ b := by omega
  have hbg : b ≠ g6 := by omega
  have hge : w.heap.size ≠ g6 := by omega
  have hge2 : g6 ≠ w.heap.size := by omega
  have hne2 : b ≠ w.heap.size := by omega
  have hne3 : w.heap.size ≠ b := by omega
  have pf2 := pf (s.length * 3 + 2)
  have hszg : w.heap.size ≤ g6 := by
    have := K3.out.size
    omega
  unfold maxLen at gm6
  clear hg6
  simp only [List.getElem?_cons_succ, List.getElem?_cons_zero] at r1
  have hset7 : Keeps [b] w6 (w6.setCell ⟨b, 1, none⟩ (.slice (some ⟨g6, 0, none⟩) (s.length + 1) c6)) := (Keeps.refl _ _).set1 _
  have hown7 := ownsRow_keeps hown6 hset7 (fun i hi hm => by
    rw [List.mem_singleton] at hm
    simp only [Value.ownBlock, Option.some.injEq] at hi
    omega)
  obtain ⟨w8, hw8⟩ : ∃ w8, (w6.setCell ⟨b, 1, none⟩ (.slice (some ⟨g6, 0, none⟩) (s.length + 1) c6)).setCell ⟨g6, s.length * 3 + 2, none⟩ (.int .i64 (cpt + 1)) = w8 := ⟨_, rfl⟩
  have HFIN := (show WrIn ((w6.setCell ⟨b, 1, none⟩ (.slice (some ⟨g6, 0, none⟩) (s.length + 1) c6)).setCell ⟨g6, s.length * 3 + 2, none⟩ (.int .i64 (cpt + 1))) base b 2 (.slice (some ⟨g6, 0, none⟩) (s.length + 1) c6) (⟨false, cc, cpt + 1⟩ :: s) false from
    ⟨((hblk6.set 1 (.slice (some ⟨g6, 0, none⟩) (s.length + 1) c6)).conv rfl).other (by simpa using hbg) _, OwnsStk.setParts hown7 (cpt + 1), fun hm => by
      rw [mem_blks] at hm
      simp only [Value.ownBlock, Option.some.injEq] at hm
      omega⟩)
  have K7 := ((((K3.out.mono (G := [b]) (by simp)).trans (hk6.mono (G := [b]) (by simp))).trans hset7).setCell (p := ⟨g6, s.length * 3 + 2, none⟩) (Or.inr hszg) (.int .i64 (cpt + 1)))
  have HN8 := ((hn6.other (by simpa using hne3) (p := ⟨b, 1, none⟩) (.slice (some ⟨g6, 0, none⟩) (s.length + 1) c6)).other (by simpa using hge) (p := ⟨g6, s.length * 3 + 2, none⟩) (.int .i64 (cpt + 1)))
  rw [hw8] at HFIN K7 HN8
  have HW8 := Lib.hid hw8
  replace HFIN := Lib.hid HFIN
  replace K7 := Lib.hid K7
  replace HN8 := Lib.hid HN8
  have HSZ := Lib.hid hszg
  clear g0 g1 g2 hown6 hk6 hb6 hszg hset7 hown7 hblk6 pf hw8 hn6 HN3 H3 K3 HN2 H2 K2
  go_wp2_with fail
  rw [HW8.out]
  clear r1 rf1 rb1 d0 d4 he6 h3b h3e p0 p1 p2 pf2 q0 q1 q2 e0 e1 e2 e3 e4
  obtain ⟨g0, g1, g2⟩ := HFIN.out.cells
  have f1 := HFIN.out.blk.free 1
  have hb8 := HFIN.out.blk.lt
  have he8 : w.heap.size < w8.heap.size := HN8.out.lt
  have hwb8 : base ≤ w8.heap.size := Nat.le_trans HB.out K7.out.size
  have HE := Lib.hid (fun (w' : World) (k : Keeps [b] w8 w') => show w'.cell? ⟨w.heap.size, 0, none⟩ = some (.int .i64 6) ∧ w'.cell? ⟨w.heap.size, 4, none⟩ = some (.int .i64 x) from ⟨k.cell (HN8.out.cell 0) (by simp; omega), k.cell (HN8.out.cell 4) (by simp; omega)⟩)
  refine wp_region_held_drew (S := fun w' => Keeps [b] w8 w') (by kernel_rfl) ((Keeps.refl [b] _).drew) (fun hHeld => ?_)
  have HH := Lib.hid hHeld
  clear hHeld
  refine wpAnyH_take (i := 0) (v := ?_) rfl (by kernel_rfl) (by kernel_rfl) (by kernel_rfl) (fun _ _ _ h => h) (Or.inl ⟨by rfl, ?_⟩) HH.out ?_
  rotate_left 1
  first | (intro w hSw; clear hSw; go_simp; done) | (intro w hSw; clear hSw; go_simp; with_reducible rfl)
  try simp only [List.getElem_toArray, List.getElem_cons_zero, Act.put, List.setIfInBounds_toArray, List.set_cons_zero, List.set_cons_succ]
  refine wpAnyH_take (i := 1) (v := ?_) rfl (by kernel_rfl) (by kernel_rfl) (by kernel_rfl) (fun _ _ _ h => h) (Or.inl ⟨by rfl, ?_⟩) HH.out ?_
  rotate_left 1
  first | (intro w hSw; clear hSw; go_simp; done) | (intro w hSw; clear hSw; go_simp; with_reducible rfl)
  try simp only [List.getElem_toArray, List.getElem_cons_zero, List.getElem_cons_succ, Act.put, List.setIfInBounds_toArray, List.set_cons_zero, List.set_cons_succ]
  refine wpAnyH_take (i := 2) (v := ?_) rfl (by kernel_rfl) (by kernel_rfl) (by kernel_rfl) (fun _ _ _ h => h) (Or.inl ⟨by rfl, ?_⟩) HH.out ?_
  rotate_left 1
  first | (intro w hSw; clear hSw; go_simp; done) | (intro w hSw; clear hSw; go_simp; with_reducible rfl)
  try simp only [List.getElem_toArray, List.getElem_cons_zero, List.getElem_cons_succ, Act.put, List.setIfInBounds_toArray, List.set_cons_zero, List.set_cons_succ]
  refine wpAnyH_take (i := 3) (v := ?_) rfl (by kernel_rfl) (by kernel_rfl) (by kernel_rfl) (fun _ _ _ h => h) (Or.inl ⟨by rfl, ?_⟩) HH.out ?_
  rotate_left 1
  first | (intro w hSw; clear hSw; go_simp; done) | (intro w hSw; clear hSw; go_simp; with_reducible rfl)
  try simp only [List.getElem_toArray, List.getElem_cons_zero, List.getElem_cons_succ, Act.put, List.setIfInBounds_toArray, List.set_cons_zero, List.set_cons_succ]
  refine wpAnyH_take (i := 6) (v := ?_) rfl (by kernel_rfl) (by kernel_rfl) (by kernel_rfl) (fun _ _ _ h => h) (Or.inl ⟨by rfl, ?_⟩) HH.out ?_
  rotate_left 1
  first | (intro w hSw; clear hSw; go_simp; done) | (intro w hSw; clear hSw; go_simp; with_reducible rfl)
  try simp only [List.getElem_toArray, List.getElem_cons_zero, List.getElem_cons_succ, Act.put, List.setIfInBounds_toArray, List.set_cons_zero, List.set_cons_succ]
  refine wpAnyH_take (i := 7) (v := ?_) rfl (by kernel_rfl) (by kernel_rfl) (by kernel_rfl) (fun _ _ _ h => h) (Or.inl ⟨by rfl, ?_⟩) HH.out ?_
  rotate_left 1
  first | (intro w hSw; have hSf := HE.out w hSw; clear hSw; go_simp; done) | (intro w hSw; have hSf := HE.out w hSw; clear hSw; go_simp; with_reducible rfl)
  try simp only [List.getElem_toArray, List.getElem_cons_zero, List.getElem_cons_succ, Act.put, List.setIfInBounds_toArray, List.set_cons_zero, List.set_cons_succ]
  refine wpAnyH_take (i := 8) (v := ?_) rfl (by kernel_rfl) (by kernel_rfl) (by kernel_rfl) (fun _ _ _ h => h) (Or.inl ⟨by rfl, ?_⟩) HH.out ?_
  rotate_left 1
  first | (intro w hSw; clear hSw; go_simp; done) | (intro w hSw; clear hSw; go_simp; with_reducible rfl)
  try simp only [List.getElem_toArray, List.getElem_cons_zero, List.getElem_cons_succ, Act.put, List.setIfInBounds_toArray, List.set_cons_zero, List.set_cons_succ]
  refine wpAnyH_take (i := 9) (v := ?_) rfl (by kernel_rfl) (by kernel_rfl) (by kernel_rfl) (fun _ _ _ h => h) (Or.inl ⟨by rfl, ?_⟩) HH.out ?_
  rotate_left 1
  first | (intro w hSw; clear hSw; go_simp; done) | (intro w hSw; clear hSw; go_simp; with_reducible rfl)
  try simp only [List.getElem_toArray, List.getElem_cons_zero, List.getElem_cons_succ, Act.put, List.setIfInBounds_toArray, List.set_cons_zero, List.set_cons_succ]
  refine wpAnyH_take (i := 10) (v := ?_) rfl (by kernel_rfl) (by kernel_rfl) (by kernel_rfl) (fun _ _ _ h => h) (Or.inl ⟨by rfl, ?_⟩) HH.out ?_
  rotate_left 1
  first | (intro w hSw; have hSf := HE.out w hSw; clear hSw; go_simp; done) | (intro w hSw; have hSf := HE.out w hSw; clear hSw; go_simp; with_reducible rfl)
  try simp only [List.getElem_toArray, List.getElem_cons_zero, List.getElem_cons_succ, Act.put, List.setIfInBounds_toArray, List.set_cons_zero, List.set_cons_succ]
  refine wpAnyH_take (i := 11) (v := ?_) rfl (by kernel_rfl) (by kernel_rfl) (by kernel_rfl) (fun _ _ _ h => h) (Or.inl ⟨by rfl, ?_⟩) HH.out ?_
  rotate_left 1
  first | (intro w hSw; clear hSw; go_simp; done) | (intro w hSw; clear hSw; go_simp; with_reducible rfl)
  try simp only [List.getElem_toArray, List.getElem_cons_zero, List.getElem_cons_succ, Act.put, List.setIfInBounds_toArray, List.set_cons_zero, List.set_cons_succ]
  refine wpAnyH_ready (rs := [4, 12]) (by kernel_rfl) (by simp) ?_
  refine AllReadyH.cons rfl (fun K hK => ?_) (AllReadyH.cons rfl (fun K hK => ?_) AllReadyH.nil)
  · go_simp
    refine hK.out _ _ HH.out (fun hHeld => ?_)
    clear hK K HH
    have HH := Lib.hid hHeld
    clear hHeld
    refine wpAnyH_ready (rs := [5, 12]) (by kernel_rfl) (by simp) ?_
    refine AllReadyH.cons rfl (fun K hK => ?_) (AllReadyH.cons rfl (fun K hK => ?_) AllReadyH.nil)
    · have ka : Keeps [] w8 _ := ((Keeps.refl [] w8).drew)
      have HA := HFIN.out.keeps ka (by simp) (by simp)
      refine wp_app_box _ _ rfl base (.slice none 0 0) [] rfl (OwnsStk.nil _ _ _) ⟨g6, 0, none⟩ (s.length + 1) c6 (⟨false, cc, cpt + 1⟩ :: s) rfl rfl (World.ownsRow.cells HA.opn (g := g6) rfl) (by simp; omega) (Nat.le_trans hwb8 ka.size) ?_
      intro v5 w5 hown5 hk5 hb5
      rw [blks_nil] at hk5
      rw [List.append_nil] at hown5
      replace hown5 : OwnsStk w5 base 49 v5 (⟨false, cc, cpt + 1⟩ :: s) := hown5
      have k5 : Keeps [] w8 w5 := ka.trans hk5
      obtain ⟨g5, c5, hv5, gb5, gl5, gr5, gm5, -, -, -, -⟩ := hown5.some_
      subst hv5
      have hg5 : w8.heap.size ≤ g5 := by
        rcases hb5 with h | h
        · simp [Value.ownBlock] at h
        · simp [Value.ownBlock] at h; omega
      refine hK.out _ _ (k5.mono (by simp)) (fun hHeld => ?_)
      replace hown5 := Lib.hid hown5
      replace k5 := Lib.hid k5
      clear hk5 hb5 ka HA
      clear hK K HH
      have HH := Lib.hid hHeld
      clear hHeld
      refine wpAnyH_ready (rs := [12]) (by kernel_rfl) (by simp) ?_
      refine AllReadyH.cons rfl (fun K hK => ?_) AllReadyH.nil
      go_simp
      refine hK.out _ _ (HH.out.alloc _) (fun hHeld => ?_)
      clear hK K HH
      have HH := Lib.hid hHeld
      clear hHeld
      refine wpAnyH_ready (rs := [13]) (by kernel_rfl) (by simp) ?_
      refine AllReadyH.cons rfl (fun K hK => ?_) AllReadyH.nil
      have kb : Keeps [] w5 _ := ((Keeps.refl [] w5).alloc (.cells #[.bool true, .int .i64 x, .int .i64 0] 49))
      have ho := ownsRow_keeps hown5.out kb (by simp)
      refine wp_app_box _ _ rfl base (.slice (some ⟨g5, 0, none⟩) (s.length + 1) c5) (⟨false, cc, cpt + 1⟩ :: s) rfl ho ⟨_, 0, none⟩ 1 1 [⟨true, x, 0⟩] rfl rfl (cells_new [.bool true, .int .i64 x, .int .i64 0] (by simp)) (by simp; omega) (by have h1 := k5.out.size; have h2 := kb.size; omega) ?_
      intro v6 w6 hown6 hk6 hb6
      replace hown6 : OwnsStk w6 base 49 v6 (⟨true, x, 0⟩ :: ⟨false, cc, cpt + 1⟩ :: s) := hown6
      have k58 := k5.out.size
      have kbs := kb.size
      have hK6 : Keeps [] w8 w6 := (k5.out.trans kb).trans' hk6 (fun i hi => Or.inr (by
        rw [mem_blks] at hi
        simp only [Value.ownBlock, Option.some.injEq] at hi
        omega))
      obtain ⟨z6, d6, hv6, gg6, hW6, K6, r1, rf1, rb1⟩ := WrIn.pushed HFIN.out hown6 hK6 (fun m hm => by
        rcases hb6 with h | h
        · rw [h] at hm
          simp only [Value.ownBlock, Option.some.injEq] at hm
          omega
        · rw [h] at hm
          simp at hm
          omega)
      subst hv6
      refine hK.out _ _ (hK6.mono (by simp)) (fun hHeld => ?_)
      replace hW6 := Lib.hid hW6
      replace K6 := Lib.hid (K7.out.trans K6)
      replace gg6 := Lib.hid (Nat.le_trans K7.out.size gg6)
      clear hown6 hk6 hb6 hK6 ho kb
      clear hK K HH
      have HH := Lib.hid hHeld
      clear hHeld
      refine wpAnyH_take (i := 14) (v := ?_) rfl (by kernel_rfl) (by kernel_rfl) (by kernel_rfl) (fun _ _ _ h => h) (Or.inl ⟨by rfl, ?_⟩) HH.out ?_
      rotate_left 1
      first | (intro w hSw; clear hSw; go_simp; done) | (intro w hSw; clear hSw; go_simp; with_reducible rfl)
      try simp only [List.getElem_toArray, List.getElem_cons_zero, List.getElem_cons_succ, Act.put, List.setIfInBounds_toArray, List.set_cons_zero, List.set_cons_succ]
      refine wpAnyH_take (i := 15) (v := ?_) rfl (by kernel_rfl) (by kernel_rfl) (by kernel_rfl) (fun _ _ _ h => h) (Or.inl ⟨by rfl, ?_⟩) HH.out ?_
      rotate_left 1
      first | (intro w hSw; clear hSw; go_simp; done) | (intro w hSw; clear hSw; go_simp; with_reducible rfl)
      try simp only [List.getElem_toArray, List.getElem_cons_zero, List.getElem_cons_succ, Act.put, List.setIfInBounds_toArray, List.set_cons_zero, List.set_cons_succ]
      refine wpAnyH_ready (rs := [16]) (by kernel_rfl) (by simp) ?_
      refine AllReadyH.cons rfl (fun K hK => ?_) AllReadyH.nil
      go_simp
      refine hK.out _ _ (HH.out.set1 _) (fun hHeld => ?_)
      clear hK K HH
      have HH := Lib.hid hHeld
      clear hHeld
      refine wpAnyH_done (by kernel_rfl) ?_ _
      go_wp2_with fail
      go_ret2
      refine ⟨rfl, _, hW6.out, K6.out.mono (fun i hi => by rw [List.mem_singleton] at hi; rw [hi]; exact List.mem_cons_self ..), fun i hi => Or.inr ?_⟩
      rw [mem_blks] at hi
      simp only [Value.ownBlock, Option.some.injEq] at hi
      rw [← hi]
      exact gg6.out
    · go_simp
      refine hK.out _ _ (HH.out.alloc _) (fun hHeld => ?_)
      clear hK K HH
      have HH := Lib.hid hHeld
      clear hHeld
      refine wpAnyH_ready (rs := [5]) (by kernel_rfl) (by simp) ?_
      refine AllReadyH.cons rfl (fun K hK => ?_) AllReadyH.nil
      have ka : Keeps [] w8 _ := (((Keeps.refl [] w8).drew).alloc (.cells #[.bool true, .int .i64 x, .int .i64 0] 49))
      have HA := HFIN.out.keeps ka (by simp) (by simp)
      have hbx := Has.new' w8.drew #[.bool true, .int .i64 x, .int .i64 0] 49 rfl
      refine wp_app_box _ _ rfl base (.slice none 0 0) [] rfl (OwnsStk.nil _ _ _) ⟨g6, 0, none⟩ (s.length + 1) c6 (⟨false, cc, cpt + 1⟩ :: s) rfl rfl (World.ownsRow.cells HA.opn (g := g6) rfl) (by simp; omega) (Nat.le_trans hwb8 ka.size) ?_
      intro v5 w5 hown5 hk5 hb5
      rw [blks_nil] at hk5
      rw [List.append_nil] at hown5
      replace hown5 : OwnsStk w5 base 49 v5 (⟨false, cc, cpt + 1⟩ :: s) := hown5
      have k5 : Keeps [] w8 w5 := ka.trans hk5
      have hbx5 := has_cells (hbx.keeps hk5 (by simp))
      replace hbx5 := Lib.hid hbx5
      obtain ⟨g5, c5, hv5, gb5, gl5, gr5, gm5, -, -, -, -⟩ := hown5.some_
      subst hv5
      have hg5 : w8.heap.size ≤ g5 := by
        rcases hb5 with h | h
        · simp [Value.ownBlock] at h
        · simp [Value.ownBlock] at h; omega
      refine hK.out _ _ (k5.mono (by simp)) (fun hHeld => ?_)
      replace hown5 := Lib.hid hown5
      replace k5 := Lib.hid k5
      clear hk5 hb5 ka HA hbx
      clear hK K HH
      have HH := Lib.hid hHeld
      clear hHeld
      refine wpAnyH_ready (rs := [13]) (by kernel_rfl) (by simp) ?_
      refine AllReadyH.cons rfl (fun K hK => ?_) AllReadyH.nil
      have kb : Keeps [] w5 _ := (Keeps.refl [] w5)
      have ho := ownsRow_keeps hown5.out kb (by simp)
      refine wp_app_box _ _ rfl base (.slice (some ⟨g5, 0, none⟩) (s.length + 1) c5) (⟨false, cc, cpt + 1⟩ :: s) rfl ho ⟨_, 0, none⟩ 1 1 [⟨true, x, 0⟩] rfl rfl hbx5.out (by simp; omega) (by have h1 := k5.out.size; have h2 := kb.size; omega) ?_
      intro v6 w6 hown6 hk6 hb6
      replace hown6 : OwnsStk w6 base 49 v6 (⟨true, x, 0⟩ :: ⟨false, cc, cpt + 1⟩ :: s) := hown6
      have k58 := k5.out.size
      have kbs := kb.size
      have hK6 : Keeps [] w8 w6 := (k5.out.trans kb).trans' hk6 (fun i hi => Or.inr (by
        rw [mem_blks] at hi
        simp only [Value.ownBlock, Option.some.injEq] at hi
        omega))
      obtain ⟨z6, d6, hv6, gg6, hW6, K6, r1, rf1, rb1⟩ := WrIn.pushed HFIN.out hown6 hK6 (fun m hm => by
        rcases hb6 with h | h
        · rw [h] at hm
          simp only [Value.ownBlock, Option.some.injEq] at hm
          omega
        · rw [h] at hm
          simp at hm
          omega)
      subst hv6
      refine hK.out _ _ (hK6.mono (by simp)) (fun hHeld => ?_)
      replace hW6 := Lib.hid hW6
      replace K6 := Lib.hid (K7.out.trans K6)
      replace gg6 := Lib.hid (Nat.le_trans K7.out.size gg6)
      clear hown6 hk6 hb6 hK6 ho kb
      clear hK K HH
      have HH := Lib.hid hHeld
      clear hHeld
      refine wpAnyH_take (i := 14) (v := ?_) rfl (by kernel_rfl) (by kernel_rfl) (by kernel_rfl) (fun _ _ _ h => h) (Or.inl ⟨by rfl, ?_⟩) HH.out ?_
      rotate_left 1
      first | (intro w hSw; clear hSw; go_simp; done) | (intro w hSw; clear hSw; go_simp; with_reducible rfl)
      try simp only [List.getElem_toArray, List.getElem_cons_zero, List.getElem_cons_succ, Act.put, List.setIfInBounds_toArray, List.set_cons_zero, List.set_cons_succ]
      refine wpAnyH_take (i := 15) (v := ?_) rfl (by kernel_rfl) (by kernel_rfl) (by kernel_rfl) (fun _ _ _ h => h) (Or.inl ⟨by rfl, ?_⟩) HH.out ?_
      rotate_left 1
      first | (intro w hSw; clear hSw; go_simp; done) | (intro w hSw; clear hSw; go_simp; with_reducible rfl)
      try simp only [List.getElem_toArray, List.getElem_cons_zero, List.getElem_cons_succ, Act.put, List.setIfInBounds_toArray, List.set_cons_zero, List.set_cons_succ]
      refine wpAnyH_ready (rs := [16]) (by kernel_rfl) (by simp) ?_
      refine AllReadyH.cons rfl (fun K hK => ?_) AllReadyH.nil
      go_simp
      refine hK.out _ _ (HH.out.set1 _) (fun hHeld => ?_)
      clear hK K HH
      have HH := Lib.hid hHeld
      clear hHeld
      refine wpAnyH_done (by kernel_rfl) ?_ _
      go_wp2_with fail
      go_ret2
      refine ⟨rfl, _, hW6.out, K6.out.mono (fun i hi => by rw [List.mem_singleton] at hi; rw [hi]; exact List.mem_cons_self ..), fun i hi => Or.inr ?_⟩
      rw [mem_blks] at hi
      simp only [Value.ownBlock, Option.some.injEq] at hi
      rw [← hi]
      exact gg6.out
  · go_simp
    refine hK.out _ _ (HH.out.alloc _) (fun hHeld => ?_)
    clear hK K HH
    have HH := Lib.hid hHeld
    clear hHeld
    refine wpAnyH_ready (rs := [4]) (by kernel_rfl) (by simp) ?_
    refine AllReadyH.cons rfl (fun K hK => ?_) AllReadyH.nil
    go_simp
    refine hK.out _ _ HH.out (fun hHeld => ?_)
    clear hK K HH
    have HH := Lib.hid hHeld
    clear hHeld
    refine wpAnyH_ready (rs := [5]) (by kernel_rfl) (by simp) ?_
    refine AllReadyH.cons rfl (fun K hK => ?_) AllReadyH.nil
    have ka : Keeps [] w8 _ := (((Keeps.refl [] w8).drew).alloc (.cells #[.bool true, .int .i64 x, .int .i64 0] 49))
    have HA := HFIN.out.keeps ka (by simp) (by simp)
    have hbx := Has.new' w8.drew #[.bool true, .int .i64 x, .int .i64 0] 49 rfl
    refine wp_app_box _ _ rfl base (.slice none 0 0) [] rfl (OwnsStk.nil _ _ _) ⟨g6, 0, none⟩ (s.length + 1) c6 (⟨false, cc, cpt + 1⟩ :: s) rfl rfl (World.ownsRow.cells HA.opn (g := g6) rfl) (by simp; omega) (Nat.le_trans hwb8 ka.size) ?_
    intro v5 w5 hown5 hk5 hb5
    rw [blks_nil] at hk5
    rw [List.append_nil] at hown5
    replace hown5 : OwnsStk w5 base 49 v5 (⟨false, cc, cpt + 1⟩ :: s) := hown5
    have k5 : Keeps [] w8 w5 := ka.trans hk5
    have hbx5 := has_cells (hbx.keeps hk5 (by simp))
    replace hbx5 := Lib.hid hbx5
    obtain ⟨g5, c5, hv5, gb5, gl5, gr5, gm5, -, -, -, -⟩ := hown5.some_
    subst hv5
    have hg5 : w8.heap.size ≤ g5 := by
      rcases hb5 with h | h
      · simp [Value.ownBlock] at h
      · simp [Value.ownBlock] at h; omega
    refine hK.out _ _ (k5.mono (by simp)) (fun hHeld => ?_)
    replace hown5 := Lib.hid hown5
    replace k5 := Lib.hid k5
    clear hk5 hb5 ka HA hbx
    clear hK K HH
    have HH := Lib.hid hHeld
    clear hHeld
    refine wpAnyH_ready (rs := [13]) (by kernel_rfl) (by simp) ?_
    refine AllReadyH.cons rfl (fun K hK => ?_) AllReadyH.nil
    have kb : Keeps [] w5 _ := (Keeps.refl [] w5)
    have ho := ownsRow_keeps hown5.out kb (by simp)
    refine wp_app_box _ _ rfl base (.slice (some ⟨g5, 0, none⟩) (s.length + 1) c5) (⟨false, cc, cpt + 1⟩ :: s) rfl ho ⟨_, 0, none⟩ 1 1 [⟨true, x, 0⟩] rfl rfl hbx5.out (by simp; omega) (by have h1 := k5.out.size; have h2 := kb.size; omega) ?_
    intro v6 w6 hown6 hk6 hb6
    replace hown6 : OwnsStk w6 base 49 v6 (⟨true, x, 0⟩ :: ⟨false, cc, cpt + 1⟩ :: s) := hown6
    have k58 := k5.out.size
    have kbs := kb.size
    have hK6 : Keeps [] w8 w6 := (k5.out.trans kb).trans' hk6 (fun i hi => Or.inr (by
      rw [mem_blks] at hi
      simp only [Value.ownBlock, Option.some.injEq] at hi
      omega))
    obtain ⟨z6, d6, hv6, gg6, hW6, K6, r1, rf1, rb1⟩ := WrIn.pushed HFIN.out hown6 hK6 (fun m hm => by
      rcases hb6 with h | h
      · rw [h] at hm
        simp only [Value.ownBlock, Option.some.injEq] at hm
        omega
      · rw [h] at hm
        simp at hm
        omega)
    subst hv6
    refine hK.out _ _ (hK6.mono (by simp)) (fun hHeld => ?_)
    replace hW6 := Lib.hid hW6
    replace K6 := Lib.hid (K7.out.trans K6)
    replace gg6 := Lib.hid (Nat.le_trans K7.out.size gg6)
    clear hown6 hk6 hb6 hK6 ho kb
    clear hK K HH
    have HH := Lib.hid hHeld
    clear hHeld
    refine wpAnyH_take (i := 14) (v := ?_) rfl (by kernel_rfl) (by kernel_rfl) (by kernel_rfl) (fun _ _ _ h => h) (Or.inl ⟨by rfl, ?_⟩) HH.out ?_
    rotate_left 1
    first | (intro w hSw; clear hSw; go_simp; done) | (intro w hSw; clear hSw; go_simp; with_reducible rfl)
    try simp only [List.getElem_toArray, List.getElem_cons_zero, List.getElem_cons_succ, Act.put, List.setIfInBounds_toArray, List.set_cons_zero, List.set_cons_succ]
    refine wpAnyH_take (i := 15) (v := ?_) rfl (by kernel_rfl) (by kernel_rfl) (by kernel_rfl) (fun _ _ _ h => h) (Or.inl ⟨by rfl, ?_⟩) HH.out ?_
    rotate_left 1
    first | (intro w hSw; clear hSw; go_simp; done) | (intro w hSw; clear hSw; go_simp; with_reducible rfl)
    try simp only [List.getElem_toArray, List.getElem_cons_zero, List.getElem_cons_succ, Act.put, List.setIfInBounds_toArray, List.set_cons_zero, List.set_cons_succ]
    refine wpAnyH_ready (rs := [16]) (by kernel_rfl) (by simp) ?_
    refine AllReadyH.cons rfl (fun K hK => ?_) AllReadyH.nil
    go_simp
    refine hK.out _ _ (HH.out.set1 _) (fun hHeld => ?_)
    clear hK K HH
    have HH := Lib.hid hHeld
    clear hHeld
    refine wpAnyH_done (by kernel_rfl) ?_ _
    go_wp2_with fail
    go_ret2
    refine ⟨rfl, _, hW6.out, K6.out.mono (fun i hi => by rw [List.mem_singleton] at hi; rw [hi]; exact List.mem_cons_self ..), fun i hi => Or.inr ?_⟩
    rw [mem_blks] at hi
    simp only [Value.ownBlock, Option.some.injEq] at hi
    rw [← hi]
    exact gg6.out
end Go.Proofs.Ytdfdajedcgmbfaa
