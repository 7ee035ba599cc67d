/-
  truchmanref1.Writer.Step at the beginning of a container that stands alone: CBOR.
-/
import Derived.Test.YtdfdajedcgmbfaaWrPush
import Derived.Test.YtdfdajedcgmbfaaWrPlainC
import Derived.Deep.RegionHeld3
import Derived.Deep.Cut
namespace Go.Proofs.Ytdfdajedcgmbfaa
open Go.RowKit Go.Tru

set_option maxHeartbeats 3200000 in
set_option maxRecDepth 100000 in
theorem wopen0_arr (n : Nat) (hn : n < 16) {w : World} {base b : Nat} (h : WrIn w base b 2 (.slice none 0 0) [] false) (hbase : base ≤ w.heap.size) :
    Calls Try.prog 8 #[.pointer (some ⟨b, 0, none⟩), (evArr n).val] w (WrPost w base b 2 (.slice none 0 0) (bytesOf (headB 4 n)) [⟨false, n, 0⟩] false) := by
  have HH := Lib.hid (fun W => head_any 4 n (by omega) (by omega) W)
  have hsz : (bytesOf (headB 4 n)).size ≤ 9 := by rw [bytesOf_sz]; exact (headB_len 4 n).2
  obtain ⟨x, hx⟩ : ∃ x : Int, (n : Int) = x := ⟨_, rfl⟩
  have x0 : 0 ≤ x := by omega
  have x16 : x < 16 := by omega
  have hw0 : IntKind.u64.wrap x = x := by rw [IntKind.wrap_u64]; omega
  have hcat : (⟨#[]⟩ : ByteArray) ++ bytesOf (headB 4 n) = bytesOf (headB 4 n) := ByteArray.empty_append
  obtain ⟨s0, hs0⟩ : ∃ s0, bytesOf (headB 4 n) = s0 := ⟨_, rfl⟩
  rw [hs0] at HH hcat hsz ⊢
  have HM := Lib.hid (fun W => may_yes ⟨5, false, 0, noText, x⟩ (Or.inr ⟨Or.inl rfl, by simp only []; omega⟩) W)
  simp only [Ev.val, Ev.cells, evArr, noText, hx] at *
  have H := Lib.hid h
  have HB := Lib.hid hbase
  have hbl := h.blk.lt
  clear h hbase hx hs0 hn
  go_enter Try.func8, Try.ntmps8
  have hnew := Has.new' w #[.int .i64 5, .bool false, .int .u64 0, .string ⟨#[]⟩, .int .i64 x] 36 rfl
  have k0 := (Keeps.refl [] w).alloc (.cells #[.int .i64 5, .bool false, .int .u64 0, .string ⟨#[]⟩, .int .i64 x] 36)
  obtain ⟨w1, hw1'⟩ : ∃ w1, w.alloc (.cells #[.int .i64 5, .bool false, .int .u64 0, .string ⟨#[]⟩, .int .i64 x] 36) = w1 := ⟨_, rfl⟩
  have H1 := Lib.hid (H.out.keeps (k0) (by simp) (by simp [blks_nil]))
  rw [hw1'] at hnew k0 H1
  obtain ⟨g0, g1, g2⟩ := H1.out.cells
  have e0 : w1.cell? ⟨w.heap.size, 0, none⟩ = some (.int .i64 5) := hnew.cell 0
  have e1 : w1.cell? ⟨w.heap.size, 1, none⟩ = some (.bool false) := hnew.cell 1
  have e2 : w1.cell? ⟨w.heap.size, 2, none⟩ = some (.int .u64 0) := hnew.cell 2
  have e3 : w1.cell? ⟨w.heap.size, 3, none⟩ = some (.string ⟨#[]⟩) := hnew.cell 3
  have e4 : w1.cell? ⟨w.heap.size, 4, none⟩ = some (.int .i64 x) := hnew.cell 4
  have K0 := Lib.hid k0
  have HN := Lib.hid hnew
  clear hnew k0
  go_wp2_with fail
  refine (HM.out _).mono ?_
  rintro e w2 ⟨rfl, k2⟩
  have H2 := Lib.hid (H1.out.keeps k2 (by simp) (by simp [blks_nil]))
  have hnew := HN.out.keeps k2 (by simp)
  have K2 := Lib.hid (K0.out.trans k2)
  clear g0 g1 g2 e0 e1 e2 e3 e4 hw1'
  obtain ⟨g0, g1, g2⟩ := H2.out.cells
  have e0 : w2.cell? ⟨w.heap.size, 0, none⟩ = some (.int .i64 5) := hnew.cell 0
  have e1 : w2.cell? ⟨w.heap.size, 1, none⟩ = some (.bool false) := hnew.cell 1
  have e2 : w2.cell? ⟨w.heap.size, 2, none⟩ = some (.int .u64 0) := hnew.cell 2
  have e3 : w2.cell? ⟨w.heap.size, 3, none⟩ = some (.string ⟨#[]⟩) := hnew.cell 3
  have e4 : w2.cell? ⟨w.heap.size, 4, none⟩ = some (.int .i64 x) := hnew.cell 4
  have hb2 := H2.out.blk.lt
  have he2 : w.heap.size < w2.heap.size := hnew.lt
  have HN2 := Lib.hid hnew
  clear hnew k2 K0 HN H1
  go_wp2_with fail
  refine (HH.out _).mono ?_
  rintro e w3 ⟨rfl, k3⟩
  have H3 := Lib.hid (H2.out.keeps k3 (by simp) (by simp [blks_nil]))
  have hnew := HN2.out.keeps k3 (by simp)
  have K3 := Lib.hid (K2.out.trans k3)
  clear g0 g1 g2 e0 e1 e2 e3 e4 hb2 he2 k3 HN2 H2 K2 HH
  obtain ⟨g0, g1, g2⟩ := H3.out.cells
  have f1 := H3.out.blk.free 1
  have e0 : w3.cell? ⟨w.heap.size, 0, none⟩ = some (.int .i64 5) := hnew.cell 0
  have e4 : w3.cell? ⟨w.heap.size, 4, none⟩ = some (.int .i64 x) := hnew.cell 4
  have hb3 := H3.out.blk.lt
  have he3 : w.heap.size < w3.heap.size := hnew.lt
  clear hnew
  go_wp2_with fail
  have hsz3 : base ≤ w3.heap.size := Nat.le_trans HB.out K3.out.size
  have HE := Lib.hid (fun (w' : World) (k : Keeps [b] w3 w') => show w'.cell? ⟨w.heap.size, 0, none⟩ = some (.int .i64 5) ∧ w'.cell? ⟨w.heap.size, 4, none⟩ = some (.int .i64 x) from ⟨k.cell e0 (by simp; omega), k.cell e4 (by simp; omega)⟩)
  clear e0 e4
  refine wp_region_held_drew (S := fun w' => Keeps [b] w3 w') (by kernel_rfl) ((Keeps.refl [b] _).drew) (fun hHeld => ?_)
  have HH := Lib.hid hHeld
  clear hHeld
  refine wpAnyH_take (i := 0) (v := ?_) rfl (by kernel_rfl) (by kernel_rfl) (by kernel_rfl) (fun _ _ _ h => h) (Or.inl ⟨by rfl, ?_⟩) HH.out ?_
  rotate_left 1
  first | (intro w hSw; clear hSw; go_simp; done) | (intro w hSw; clear hSw; go_simp; with_reducible rfl)
  try simp only [List.getElem_toArray, List.getElem_cons_zero, Act.put, List.setIfInBounds_toArray, List.set_cons_zero, List.set_cons_succ]
  refine wpAnyH_take (i := 1) (v := ?_) rfl (by kernel_rfl) (by kernel_rfl) (by kernel_rfl) (fun _ _ _ h => h) (Or.inl ⟨by rfl, ?_⟩) HH.out ?_
  rotate_left 1
  first | (intro w hSw; clear hSw; go_simp; done) | (intro w hSw; clear hSw; go_simp; with_reducible rfl)
  try simp only [List.getElem_toArray, List.getElem_cons_zero, List.getElem_cons_succ, Act.put, List.setIfInBounds_toArray, List.set_cons_zero, List.set_cons_succ]
  refine wpAnyH_take (i := 2) (v := ?_) rfl (by kernel_rfl) (by kernel_rfl) (by kernel_rfl) (fun _ _ _ h => h) (Or.inl ⟨by rfl, ?_⟩) HH.out ?_
  rotate_left 1
  first | (intro w hSw; clear hSw; go_simp; done) | (intro w hSw; clear hSw; go_simp; with_reducible rfl)
  try simp only [List.getElem_toArray, List.getElem_cons_zero, List.getElem_cons_succ, Act.put, List.setIfInBounds_toArray, List.set_cons_zero, List.set_cons_succ]
  refine wpAnyH_take (i := 3) (v := ?_) rfl (by kernel_rfl) (by kernel_rfl) (by kernel_rfl) (fun _ _ _ h => h) (Or.inl ⟨by rfl, ?_⟩) HH.out ?_
  rotate_left 1
  first | (intro w hSw; clear hSw; go_simp; done) | (intro w hSw; clear hSw; go_simp; with_reducible rfl)
  try simp only [List.getElem_toArray, List.getElem_cons_zero, List.getElem_cons_succ, Act.put, List.setIfInBounds_toArray, List.set_cons_zero, List.set_cons_succ]
  refine wpAnyH_take (i := 6) (v := ?_) rfl (by kernel_rfl) (by kernel_rfl) (by kernel_rfl) (fun _ _ _ h => h) (Or.inl ⟨by rfl, ?_⟩) HH.out ?_
  rotate_left 1
  first | (intro w hSw; clear hSw; go_simp; done) | (intro w hSw; clear hSw; go_simp; with_reducible rfl)
  try simp only [List.getElem_toArray, List.getElem_cons_zero, List.getElem_cons_succ, Act.put, List.setIfInBounds_toArray, List.set_cons_zero, List.set_cons_succ]
  refine wpAnyH_take (i := 7) (v := ?_) rfl (by kernel_rfl) (by kernel_rfl) (by kernel_rfl) (fun _ _ _ h => h) (Or.inl ⟨by rfl, ?_⟩) HH.out ?_
  rotate_left 1
  first | (intro w hSw; have hSf := HE.out w hSw; clear hSw; go_simp; done) | (intro w hSw; have hSf := HE.out w hSw; clear hSw; go_simp; with_reducible rfl)
  try simp only [List.getElem_toArray, List.getElem_cons_zero, List.getElem_cons_succ, Act.put, List.setIfInBounds_toArray, List.set_cons_zero, List.set_cons_succ]
  refine wpAnyH_take (i := 8) (v := ?_) rfl (by kernel_rfl) (by kernel_rfl) (by kernel_rfl) (fun _ _ _ h => h) (Or.inl ⟨by rfl, ?_⟩) HH.out ?_
  rotate_left 1
  first | (intro w hSw; clear hSw; go_simp; done) | (intro w hSw; clear hSw; go_simp; with_reducible rfl)
  try simp only [List.getElem_toArray, List.getElem_cons_zero, List.getElem_cons_succ, Act.put, List.setIfInBounds_toArray, List.set_cons_zero, List.set_cons_succ]
  refine wpAnyH_take (i := 9) (v := ?_) rfl (by kernel_rfl) (by kernel_rfl) (by kernel_rfl) (fun _ _ _ h => h) (Or.inl ⟨by rfl, ?_⟩) HH.out ?_
  rotate_left 1
  first | (intro w hSw; clear hSw; go_simp; done) | (intro w hSw; clear hSw; go_simp; with_reducible rfl)
  try simp only [List.getElem_toArray, List.getElem_cons_zero, List.getElem_cons_succ, Act.put, List.setIfInBounds_toArray, List.set_cons_zero, List.set_cons_succ]
  refine wpAnyH_take (i := 10) (v := ?_) rfl (by kernel_rfl) (by kernel_rfl) (by kernel_rfl) (fun _ _ _ h => h) (Or.inl ⟨by rfl, ?_⟩) HH.out ?_
  rotate_left 1
  first | (intro w hSw; have hSf := HE.out w hSw; clear hSw; go_simp; done) | (intro w hSw; have hSf := HE.out w hSw; clear hSw; go_simp; with_reducible rfl)
  try simp only [List.getElem_toArray, List.getElem_cons_zero, List.getElem_cons_succ, Act.put, List.setIfInBounds_toArray, List.set_cons_zero, List.set_cons_succ]
  refine wpAnyH_take (i := 11) (v := ?_) rfl (by kernel_rfl) (by kernel_rfl) (by kernel_rfl) (fun _ _ _ h => h) (Or.inl ⟨by rfl, ?_⟩) HH.out ?_
  rotate_left 1
  first | (intro w hSw; clear hSw; go_simp; done) | (intro w hSw; clear hSw; go_simp; with_reducible rfl)
  try simp only [List.getElem_toArray, List.getElem_cons_zero, List.getElem_cons_succ, Act.put, List.setIfInBounds_toArray, List.set_cons_zero, List.set_cons_succ]
  refine wpAnyH_ready (rs := [4, 12]) (by kernel_rfl) (by simp) ?_
  refine AllReadyH.cons rfl (fun K hK => ?_) (AllReadyH.cons rfl (fun K hK => ?_) AllReadyH.nil)
  · go_simp
    refine hK.out _ _ HH.out (fun hHeld => ?_)
    clear hK K HH
    have HH := Lib.hid hHeld
    clear hHeld
    refine wpAnyH_take (i := 5) (v := ?_) rfl (by kernel_rfl) (by kernel_rfl) (by kernel_rfl) (fun _ _ _ h => h) (Or.inl ⟨by rfl, ?_⟩) HH.out ?_
    rotate_left 1
    first | (intro w hSw; clear hSw; go_simp; done) | (intro w hSw; clear hSw; go_simp; with_reducible rfl)
    try simp only [List.getElem_toArray, List.getElem_cons_zero, List.getElem_cons_succ, Act.put, List.setIfInBounds_toArray, List.set_cons_zero, List.set_cons_succ]
    refine wpAnyH_ready (rs := [12]) (by kernel_rfl) (by simp) ?_
    refine AllReadyH.cons rfl (fun K hK => ?_) AllReadyH.nil
    go_simp
    refine hK.out _ _ (HH.out.alloc _) (fun hHeld => ?_)
    clear hK K HH
    have HH := Lib.hid hHeld
    clear hHeld
    refine wpAnyH_ready (rs := [13]) (by kernel_rfl) (by simp) ?_
    refine AllReadyH.cons rfl (fun K hK => ?_) AllReadyH.nil
    refine wp_app_box _ _ rfl base (.slice none 0 0) [] rfl (OwnsStk.nil _ _ _) ⟨_, 0, none⟩ 1 1 [⟨false, x, 0⟩] rfl rfl (cells_new [.bool false, .int .i64 x, .int .i64 0] (by simp)) (by simp) (by simp; omega) ?_
    intro v6 w6 hown6 hk6 hb6
    rw [blks_nil] at hk6
    replace hown6 : OwnsStk w6 base 49 v6 [⟨false, x, 0⟩] := hown6
    have hK6 : Keeps [] w3 w6 := ((Keeps.refl [] w3).drew.alloc (.cells #[.bool false, .int .i64 x, .int .i64 0] 49)).trans hk6
    obtain ⟨g6, c6, hv6, gg6, hW6, K6, r1, rf1, rb1⟩ := WrIn.pushed H3.out hown6 hK6 (fun m hm => by rcases hb6 with h | h <;> rw [h] at hm <;> simp [Value.ownBlock] at hm; omega)
    subst hv6
    refine hK.out _ _ (hK6.mono (by simp)) (fun hHeld => ?_)
    replace hW6 := Lib.hid hW6
    replace K6 := Lib.hid ((K3.out.mono (G := [b]) (by simp)).trans K6)
    replace gg6 := Lib.hid (Nat.le_trans K3.out.size gg6)
    clear hown6 hk6 hb6 hK6
    clear hK K HH
    have HH := Lib.hid hHeld
    clear hHeld
    refine wpAnyH_take (i := 14) (v := ?_) rfl (by kernel_rfl) (by kernel_rfl) (by kernel_rfl) (fun _ _ _ h => h) (Or.inl ⟨by rfl, ?_⟩) HH.out ?_
    rotate_left 1
    first | (intro w hSw; clear hSw; go_simp; done) | (intro w hSw; clear hSw; go_simp; with_reducible rfl)
    try simp only [List.getElem_toArray, List.getElem_cons_zero, List.getElem_cons_succ, Act.put, List.setIfInBounds_toArray, List.set_cons_zero, List.set_cons_succ]
    refine wpAnyH_take (i := 15) (v := ?_) rfl (by kernel_rfl) (by kernel_rfl) (by kernel_rfl) (fun _ _ _ h => h) (Or.inl ⟨by rfl, ?_⟩) HH.out ?_
    rotate_left 1
    first | (intro w hSw; clear hSw; go_simp; done) | (intro w hSw; clear hSw; go_simp; with_reducible rfl)
    try simp only [List.getElem_toArray, List.getElem_cons_zero, List.getElem_cons_succ, Act.put, List.setIfInBounds_toArray, List.set_cons_zero, List.set_cons_succ]
    refine wpAnyH_ready (rs := [16]) (by kernel_rfl) (by simp) ?_
    refine AllReadyH.cons rfl (fun K hK => ?_) AllReadyH.nil
    go_simp
    refine hK.out _ _ (HH.out.set1 _) (fun hHeld => ?_)
    clear hK K HH
    have HH := Lib.hid hHeld
    clear hHeld
    refine wpAnyH_done (by kernel_rfl) ?_ _
    go_wp2_with fail
    go_ret2
    refine ⟨rfl, _, hW6.out, K6.out.mono (fun i hi => by rw [List.mem_singleton] at hi; rw [hi]; exact List.mem_cons_self ..), fun i hi => Or.inr ?_⟩
    rw [mem_blks] at hi
    simp only [Value.ownBlock, Option.some.injEq] at hi
    rw [← hi]
    exact gg6.out
  · go_simp
    refine hK.out _ _ (HH.out.alloc _) (fun hHeld => ?_)
    clear hK K HH
    have HH := Lib.hid hHeld
    clear hHeld
    refine wpAnyH_ready (rs := [4]) (by kernel_rfl) (by simp) ?_
    refine AllReadyH.cons rfl (fun K hK => ?_) AllReadyH.nil
    go_simp
    refine hK.out _ _ HH.out (fun hHeld => ?_)
    clear hK K HH
    have HH := Lib.hid hHeld
    clear hHeld
    refine wpAnyH_take (i := 5) (v := ?_) rfl (by kernel_rfl) (by kernel_rfl) (by kernel_rfl) (fun _ _ _ h => h) (Or.inl ⟨by rfl, ?_⟩) HH.out ?_
    rotate_left 1
    first | (intro w hSw; clear hSw; go_simp; done) | (intro w hSw; clear hSw; go_simp; with_reducible rfl)
    try simp only [List.getElem_toArray, List.getElem_cons_zero, List.getElem_cons_succ, Act.put, List.setIfInBounds_toArray, List.set_cons_zero, List.set_cons_succ]
    refine wpAnyH_ready (rs := [13]) (by kernel_rfl) (by simp) ?_
    refine AllReadyH.cons rfl (fun K hK => ?_) AllReadyH.nil
    refine wp_app_box _ _ rfl base (.slice none 0 0) [] rfl (OwnsStk.nil _ _ _) ⟨_, 0, none⟩ 1 1 [⟨false, x, 0⟩] rfl rfl (cells_new [.bool false, .int .i64 x, .int .i64 0] (by simp)) (by simp) (by simp; omega) ?_
    intro v6 w6 hown6 hk6 hb6
    rw [blks_nil] at hk6
    replace hown6 : OwnsStk w6 base 49 v6 [⟨false, x, 0⟩] := hown6
    have hK6 : Keeps [] w3 w6 := ((Keeps.refl [] w3).drew.alloc (.cells #[.bool false, .int .i64 x, .int .i64 0] 49)).trans hk6
    obtain ⟨g6, c6, hv6, gg6, hW6, K6, r1, rf1, rb1⟩ := WrIn.pushed H3.out hown6 hK6 (fun m hm => by rcases hb6 with h | h <;> rw [h] at hm <;> simp [Value.ownBlock] at hm; omega)
    subst hv6
    refine hK.out _ _ (hK6.mono (by simp)) (fun hHeld => ?_)
    replace hW6 := Lib.hid hW6
    replace K6 := Lib.hid ((K3.out.mono (G := [b]) (by simp)).trans K6)
    replace gg6 := Lib.hid (Nat.le_trans K3.out.size gg6)
    clear hown6 hk6 hb6 hK6
    clear hK K HH
    have HH := Lib.hid hHeld
    clear hHeld
    refine wpAnyH_take (i := 14) (v := ?_) rfl (by kernel_rfl) (by kernel_rfl) (by kernel_rfl) (fun _ _ _ h => h) (Or.inl ⟨by rfl, ?_⟩) HH.out ?_
    rotate_left 1
    first | (intro w hSw; clear hSw; go_simp; done) | (intro w hSw; clear hSw; go_simp; with_reducible rfl)
    try simp only [List.getElem_toArray, List.getElem_cons_zero, List.getElem_cons_succ, Act.put, List.setIfInBounds_toArray, List.set_cons_zero, List.set_cons_succ]
    refine wpAnyH_take (i := 15) (v := ?_) rfl (by kernel_rfl) (by kernel_rfl) (by kernel_rfl) (fun _ _ _ h => h) (Or.inl ⟨by rfl, ?_⟩) HH.out ?_
    rotate_left 1
    first | (intro w hSw; clear hSw; go_simp; done) | (intro w hSw; clear hSw; go_simp; with_reducible rfl)
    try simp only [List.getElem_toArray, List.getElem_cons_zero, List.getElem_cons_succ, Act.put, List.setIfInBounds_toArray, List.set_cons_zero, List.set_cons_succ]
    refine wpAnyH_ready (rs := [16]) (by kernel_rfl) (by simp) ?_
    refine AllReadyH.cons rfl (fun K hK => ?_) AllReadyH.nil
    go_simp
    refine hK.out _ _ (HH.out.set1 _) (fun hHeld => ?_)
    clear hK K HH
    have HH := Lib.hid hHeld
    clear hHeld
    refine wpAnyH_done (by kernel_rfl) ?_ _
    go_wp2_with fail
    go_ret2
    refine ⟨rfl, _, hW6.out, K6.out.mono (fun i hi => by rw [List.mem_singleton] at hi; rw [hi]; exact List.mem_cons_self ..), fun i hi => Or.inr ?_⟩
    rw [mem_blks] at hi
    simp only [Value.ownBlock, Option.some.injEq] at hi
    rw [← hi]
    exact gg6.out
set_option maxHeartbeats 3200000 in
set_option maxRecDepth 100000 in
theorem wopen0_map (n : Nat) (hn : n < 16) {w : World} {base b : Nat} (h : WrIn w base b 2 (.slice none 0 0) [] false) (hbase : base ≤ w.heap.size) :
    Calls Try.prog 8 #[.pointer (some ⟨b, 0, none⟩), (evMap n).val] w (WrPost w base b 2 (.slice none 0 0) (bytesOf (headB 5 n)) [⟨true, n, 0⟩] false) := by
  have HH := Lib.hid (fun W => head_any 5 n (by omega) (by omega) W)
  have hsz : (bytesOf (headB 5 n)).size ≤ 9 := by rw [bytesOf_sz]; exact (headB_len 5 n).2
  obtain ⟨x, hx⟩ : ∃ x : Int, (n : Int) = x := ⟨_, rfl⟩
  have x0 : 0 ≤ x := by omega
  have x16 : x < 16 := by omega
  have hw0 : IntKind.u64.wrap x = x := by rw [IntKind.wrap_u64]; omega
  have hcat : (⟨#[]⟩ : ByteArray) ++ bytesOf (headB 5 n) = bytesOf (headB 5 n) := ByteArray.empty_append
  obtain ⟨s0, hs0⟩ : ∃ s0, bytesOf (headB 5 n) = s0 := ⟨_, rfl⟩
  rw [hs0] at HH hcat hsz ⊢
  have HM := Lib.hid (fun W => may_yes ⟨6, false, 0, noText, x⟩ (Or.inr ⟨Or.inr rfl, by simp only []; omega⟩) W)
  simp only [Ev.val, Ev.cells, evMap, noText, hx] at *
  have H := Lib.hid h
  have HB := Lib.hid hbase
  have hbl := h.blk.lt
  clear h hbase hx hs0 hn
  go_enter Try.func8, Try.ntmps8
  have hnew := Has.new' w #[.int .i64 6, .bool false, .int .u64 0, .string ⟨#[]⟩, .int .i64 x] 36 rfl
  have k0 := (Keeps.refl [] w).alloc (.cells #[.int .i64 6, .bool false, .int .u64 0, .string ⟨#[]⟩, .int .i64 x] 36)
  obtain ⟨w1, hw1'⟩ : ∃ w1, w.alloc (.cells #[.int .i64 6, .bool false, .int .u64 0, .string ⟨#[]⟩, .int .i64 x] 36) = w1 := ⟨_, rfl⟩
  have H1 := Lib.hid (H.out.keeps (k0) (by simp) (by simp [blks_nil]))
  rw [hw1'] at hnew k0 H1
  obtain ⟨g0, g1, g2⟩ := H1.out.cells
  have e0 : w1.cell? ⟨w.heap.size, 0, none⟩ = some (.int .i64 6) := hnew.cell 0
  have e1 : w1.cell? ⟨w.heap.size, 1, none⟩ = some (.bool false) := hnew.cell 1
  have e2 : w1.cell? ⟨w.heap.size, 2, none⟩ = some (.int .u64 0) := hnew.cell 2
  have e3 : w1.cell? ⟨w.heap.size, 3, none⟩ = some (.string ⟨#[]⟩) := hnew.cell 3
  have e4 : w1.cell? ⟨w.heap.size, 4, none⟩ = some (.int .i64 x) := hnew.cell 4
  have K0 := Lib.hid k0
  have HN := Lib.hid hnew
  clear hnew k0
  go_wp2_with fail
  refine (HM.out _).mono ?_
  rintro e w2 ⟨rfl, k2⟩
  have H2 := Lib.hid (H1.out.keeps k2 (by simp) (by simp [blks_nil]))
  have hnew := HN.out.keeps k2 (by simp)
  have K2 := Lib.hid (K0.out.trans k2)
  clear g0 g1 g2 e0 e1 e2 e3 e4 hw1'
  obtain ⟨g0, g1, g2⟩ := H2.out.cells
  have e0 : w2.cell? ⟨w.heap.size, 0, none⟩ = some (.int .i64 6) := hnew.cell 0
  have e1 : w2.cell? ⟨w.heap.size, 1, none⟩ = some (.bool false) := hnew.cell 1
  have e2 : w2.cell? ⟨w.heap.size, 2, none⟩ = some (.int .u64 0) := hnew.cell 2
  have e3 : w2.cell? ⟨w.heap.size, 3, none⟩ = some (.string ⟨#[]⟩) := hnew.cell 3
  have e4 : w2.cell? ⟨w.heap.size, 4, none⟩ = some (.int .i64 x) := hnew.cell 4
  have hb2 := H2.out.blk.lt
  have he2 : w.heap.size < w2.heap.size := hnew.lt
  have HN2 := Lib.hid hnew
  clear hnew k2 K0 HN H1
  go_wp2_with fail
  refine (HH.out _).mono ?_
  rintro e w3 ⟨rfl, k3⟩
  have H3 := Lib.hid (H2.out.keeps k3 (by simp) (by simp [blks_nil]))
  have hnew := HN2.out.keeps k3 (by simp)
  have K3 := Lib.hid (K2.out.trans k3)
  clear g0 g1 g2 e0 e1 e2 e3 e4 hb2 he2 k3 HN2 H2 K2 HH
  obtain ⟨g0, g1, g2⟩ := H3.out.cells
  have f1 := H3.out.blk.free 1
  have e0 : w3.cell? ⟨w.heap.size, 0, none⟩ = some (.int .i64 6) := hnew.cell 0
  have e4 : w3.cell? ⟨w.heap.size, 4, none⟩ = some (.int .i64 x) := hnew.cell 4
  have hb3 := H3.out.blk.lt
  have he3 : w.heap.size < w3.heap.size := hnew.lt
  clear hnew
  go_wp2_with fail
  have hsz3 : base ≤ w3.heap.size := Nat.le_trans HB.out K3.out.size
  have HE := Lib.hid (fun (w' : World) (k : Keeps [b] w3 w') => show w'.cell? ⟨w.heap.size, 0, none⟩ = some (.int .i64 6) ∧ w'.cell? ⟨w.heap.size, 4, none⟩ = some (.int .i64 x) from ⟨k.cell e0 (by simp; omega), k.cell e4 (by simp; omega)⟩)
  clear e0 e4
  refine wp_region_held_drew (S := fun w' => Keeps [b] w3 w') (by kernel_rfl) ((Keeps.refl [b] _).drew) (fun hHeld => ?_)
  have HH := Lib.hid hHeld
  clear hHeld
  refine wpAnyH_take (i := 0) (v := ?_) rfl (by kernel_rfl) (by kernel_rfl) (by kernel_rfl) (fun _ _ _ h => h) (Or.inl ⟨by rfl, ?_⟩) HH.out ?_
  rotate_left 1
  first | (intro w hSw; clear hSw; go_simp; done) | (intro w hSw; clear hSw; go_simp; with_reducible rfl)
  try simp only [List.getElem_toArray, List.getElem_cons_zero, Act.put, List.setIfInBounds_toArray, List.set_cons_zero, List.set_cons_succ]
  refine wpAnyH_take (i := 1) (v := ?_) rfl (by kernel_rfl) (by kernel_rfl) (by kernel_rfl) (fun _ _ _ h => h) (Or.inl ⟨by rfl, ?_⟩) HH.out ?_
  rotate_left 1
  first | (intro w hSw; clear hSw; go_simp; done) | (intro w hSw; clear hSw; go_simp; with_reducible rfl)
  try simp only [List.getElem_toArray, List.getElem_cons_zero, List.getElem_cons_succ, Act.put, List.setIfInBounds_toArray, List.set_cons_zero, List.set_cons_succ]
  refine wpAnyH_take (i := 2) (v := ?_) rfl (by kernel_rfl) (by kernel_rfl) (by kernel_rfl) (fun _ _ _ h => h) (Or.inl ⟨by rfl, ?_⟩) HH.out ?_
  rotate_left 1
  first | (intro w hSw; clear hSw; go_simp; done) | (intro w hSw; clear hSw; go_simp; with_reducible rfl)
  try simp only [List.getElem_toArray, List.getElem_cons_zero, List.getElem_cons_succ, Act.put, List.setIfInBounds_toArray, List.set_cons_zero, List.set_cons_succ]
  refine wpAnyH_take (i := 3) (v := ?_) rfl (by kernel_rfl) (by kernel_rfl) (by kernel_rfl) (fun _ _ _ h => h) (Or.inl ⟨by rfl, ?_⟩) HH.out ?_
  rotate_left 1
  first | (intro w hSw; clear hSw; go_simp; done) | (intro w hSw; clear hSw; go_simp; with_reducible rfl)
  try simp only [List.getElem_toArray, List.getElem_cons_zero, List.getElem_cons_succ, Act.put, List.setIfInBounds_toArray, List.set_cons_zero, List.set_cons_succ]
  refine wpAnyH_take (i := 6) (v := ?_) rfl (by kernel_rfl) (by kernel_rfl) (by kernel_rfl) (fun _ _ _ h => h) (Or.inl ⟨by rfl, ?_⟩) HH.out ?_
  rotate_left 1
  first | (intro w hSw; clear hSw; go_simp; done) | (intro w hSw; clear hSw; go_simp; with_reducible rfl)
  try simp only [List.getElem_toArray, List.getElem_cons_zero, List.getElem_cons_succ, Act.put, List.setIfInBounds_toArray, List.set_cons_zero, List.set_cons_succ]
  refine wpAnyH_take (i := 7) (v := ?_) rfl (by kernel_rfl) (by kernel_rfl) (by kernel_rfl) (fun _ _ _ h => h) (Or.inl ⟨by rfl, ?_⟩) HH.out ?_
  rotate_left 1
  first | (intro w hSw; have hSf := HE.out w hSw; clear hSw; go_simp; done) | (intro w hSw; have hSf := HE.out w hSw; clear hSw; go_simp; with_reducible rfl)
  try simp only [List.getElem_toArray, List.getElem_cons_zero, List.getElem_cons_succ, Act.put, List.setIfInBounds_toArray, List.set_cons_zero, List.set_cons_succ]
  refine wpAnyH_take (i := 8) (v := ?_) rfl (by kernel_rfl) (by kernel_rfl) (by kernel_rfl) (fun _ _ _ h => h) (Or.inl ⟨by rfl, ?_⟩) HH.out ?_
  rotate_left 1
  first | (intro w hSw; clear hSw; go_simp; done) | (intro w hSw; clear hSw; go_simp; with_reducible rfl)
  try simp only [List.getElem_toArray, List.getElem_cons_zero, List.getElem_cons_succ, Act.put, List.setIfInBounds_toArray, List.set_cons_zero, List.set_cons_succ]
  refine wpAnyH_take (i := 9) (v := ?_) rfl (by kernel_rfl) (by kernel_rfl) (by kernel_rfl) (fun _ _ _ h => h) (Or.inl ⟨by rfl, ?_⟩) HH.out ?_
  rotate_left 1
  first | (intro w hSw; clear hSw; go_simp; done) | (intro w hSw; clear hSw; go_simp; with_reducible rfl)
  try simp only [List.getElem_toArray, List.getElem_cons_zero, List.getElem_cons_succ, Act.put, List.setIfInBounds_toArray, List.set_cons_zero, List.set_cons_succ]
  refine wpAnyH_take (i := 10) (v := ?_) rfl (by kernel_rfl) (by kernel_rfl) (by kernel_rfl) (fun _ _ _ h => h) (Or.inl ⟨by rfl, ?_⟩) HH.out ?_
  rotate_left 1
  first | (intro w hSw; have hSf := HE.out w hSw; clear hSw; go_simp; done) | (intro w hSw; have hSf := HE.out w hSw; clear hSw; go_simp; with_reducible rfl)
  try simp only [List.getElem_toArray, List.getElem_cons_zero, List.getElem_cons_succ, Act.put, List.setIfInBounds_toArray, List.set_cons_zero, List.set_cons_succ]
  refine wpAnyH_take (i := 11) (v := ?_) rfl (by kernel_rfl) (by kernel_rfl) (by kernel_rfl) (fun _ _ _ h => h) (Or.inl ⟨by rfl, ?_⟩) HH.out ?_
  rotate_left 1
  first | (intro w hSw; clear hSw; go_simp; done) | (intro w hSw; clear hSw; go_simp; with_reducible rfl)
  try simp only [List.getElem_toArray, List.getElem_cons_zero, List.getElem_cons_succ, Act.put, List.setIfInBounds_toArray, List.set_cons_zero, List.set_cons_succ]
  refine wpAnyH_ready (rs := [4, 12]) (by kernel_rfl) (by simp) ?_
  refine AllReadyH.cons rfl (fun K hK => ?_) (AllReadyH.cons rfl (fun K hK => ?_) AllReadyH.nil)
  · go_simp
    refine hK.out _ _ HH.out (fun hHeld => ?_)
    clear hK K HH
    have HH := Lib.hid hHeld
    clear hHeld
    refine wpAnyH_take (i := 5) (v := ?_) rfl (by kernel_rfl) (by kernel_rfl) (by kernel_rfl) (fun _ _ _ h => h) (Or.inl ⟨by rfl, ?_⟩) HH.out ?_
    rotate_left 1
    first | (intro w hSw; clear hSw; go_simp; done) | (intro w hSw; clear hSw; go_simp; with_reducible rfl)
    try simp only [List.getElem_toArray, List.getElem_cons_zero, List.getElem_cons_succ, Act.put, List.setIfInBounds_toArray, List.set_cons_zero, List.set_cons_succ]
    refine wpAnyH_ready (rs := [12]) (by kernel_rfl) (by simp) ?_
    refine AllReadyH.cons rfl (fun K hK => ?_) AllReadyH.nil
    go_simp
    refine hK.out _ _ (HH.out.alloc _) (fun hHeld => ?_)
    clear hK K HH
    have HH := Lib.hid hHeld
    clear hHeld
    refine wpAnyH_ready (rs := [13]) (by kernel_rfl) (by simp) ?_
    refine AllReadyH.cons rfl (fun K hK => ?_) AllReadyH.nil
    refine wp_app_box _ _ rfl base (.slice none 0 0) [] rfl (OwnsStk.nil _ _ _) ⟨_, 0, none⟩ 1 1 [⟨true, x, 0⟩] rfl rfl (cells_new [.bool true, .int .i64 x, .int .i64 0] (by simp)) (by simp) (by simp; omega) ?_
    intro v6 w6 hown6 hk6 hb6
    rw [blks_nil] at hk6
    replace hown6 : OwnsStk w6 base 49 v6 [⟨true, x, 0⟩] := hown6
    have hK6 : Keeps [] w3 w6 := ((Keeps.refl [] w3).drew.alloc (.cells #[.bool true, .int .i64 x, .int .i64 0] 49)).trans hk6
    obtain ⟨g6, c6, hv6, gg6, hW6, K6, r1, rf1, rb1⟩ := WrIn.pushed H3.out hown6 hK6 (fun m hm => by rcases hb6 with h | h <;> rw [h] at hm <;> simp [Value.ownBlock] at hm; omega)
    subst hv6
    refine hK.out _ _ (hK6.mono (by simp)) (fun hHeld => ?_)
    replace hW6 := Lib.hid hW6
    replace K6 := Lib.hid ((K3.out.mono (G := [b]) (by simp)).trans K6)
    replace gg6 := Lib.hid (Nat.le_trans K3.out.size gg6)
    clear hown6 hk6 hb6 hK6
    clear hK K HH
    have HH := Lib.hid hHeld
    clear hHeld
    refine wpAnyH_take (i := 14) (v := ?_) rfl (by kernel_rfl) (by kernel_rfl) (by kernel_rfl) (fun _ _ _ h => h) (Or.inl ⟨by rfl, ?_⟩) HH.out ?_
    rotate_left 1
    first | (intro w hSw; clear hSw; go_simp; done) | (intro w hSw; clear hSw; go_simp; with_reducible rfl)
    try simp only [List.getElem_toArray, List.getElem_cons_zero, List.getElem_cons_succ, Act.put, List.setIfInBounds_toArray, List.set_cons_zero, List.set_cons_succ]
    refine wpAnyH_take (i := 15) (v := ?_) rfl (by kernel_rfl) (by kernel_rfl) (by kernel_rfl) (fun _ _ _ h => h) (Or.inl ⟨by rfl, ?_⟩) HH.out ?_
    rotate_left 1
    first | (intro w hSw; clear hSw; go_simp; done) | (intro w hSw; clear hSw; go_simp; with_reducible rfl)
    try simp only [List.getElem_toArray, List.getElem_cons_zero, List.getElem_cons_succ, Act.put, List.setIfInBounds_toArray, List.set_cons_zero, List.set_cons_succ]
    refine wpAnyH_ready (rs := [16]) (by kernel_rfl) (by simp) ?_
    refine AllReadyH.cons rfl (fun K hK => ?_) AllReadyH.nil
    go_simp
    refine hK.out _ _ (HH.out.set1 _) (fun hHeld => ?_)
    clear hK K HH
    have HH := Lib.hid hHeld
    clear hHeld
    refine wpAnyH_done (by kernel_rfl) ?_ _
    go_wp2_with fail
    go_ret2
    refine ⟨rfl, _, hW6.out, K6.out.mono (fun i hi => by rw [List.mem_singleton] at hi; rw [hi]; exact List.mem_cons_self ..), fun i hi => Or.inr ?_⟩
    rw [mem_blks] at hi
    simp only [Value.ownBlock, Option.some.injEq] at hi
    rw [← hi]
    exact gg6.out
  · go_simp
    refine hK.out _ _ (HH.out.alloc _) (fun hHeld => ?_)
    clear hK K HH
    have HH := Lib.hid hHeld
    clear hHeld
    refine wpAnyH_ready (rs := [4]) (by kernel_rfl) (by simp) ?_
    refine AllReadyH.cons rfl (fun K hK => ?_) AllReadyH.nil
    go_simp
    refine hK.out _ _ HH.out (fun hHeld => ?_)
    clear hK K HH
    have HH := Lib.hid hHeld
    clear hHeld
    refine wpAnyH_take (i := 5) (v := ?_) rfl (by kernel_rfl) (by kernel_rfl) (by kernel_rfl) (fun _ _ _ h => h) (Or.inl ⟨by rfl, ?_⟩) HH.out ?_
    rotate_left 1
    first | (intro w hSw; clear hSw; go_simp; done) | (intro w hSw; clear hSw; go_simp; with_reducible rfl)
    try simp only [List.getElem_toArray, List.getElem_cons_zero, List.getElem_cons_succ, Act.put, List.setIfInBounds_toArray, List.set_cons_zero, List.set_cons_succ]
    refine wpAnyH_ready (rs := [13]) (by kernel_rfl) (by simp) ?_
    refine AllReadyH.cons rfl (fun K hK => ?_) AllReadyH.nil
    refine wp_app_box _ _ rfl base (.slice none 0 0) [] rfl (OwnsStk.nil _ _ _) ⟨_, 0, none⟩ 1 1 [⟨true, x, 0⟩] rfl rfl (cells_new [.bool true, .int .i64 x, .int .i64 0] (by simp)) (by simp) (by simp; omega) ?_
    intro v6 w6 hown6 hk6 hb6
    rw [blks_nil] at hk6
    replace hown6 : OwnsStk w6 base 49 v6 [⟨true, x, 0⟩] := hown6
    have hK6 : Keeps [] w3 w6 := ((Keeps.refl [] w3).drew.alloc (.cells #[.bool true, .int .i64 x, .int .i64 0] 49)).trans hk6
    obtain ⟨g6, c6, hv6, gg6, hW6, K6, r1, rf1, rb1⟩ := WrIn.pushed H3.out hown6 hK6 (fun m hm => by rcases hb6 with h | h <;> rw [h] at hm <;> simp [Value.ownBlock] at hm; omega)
    subst hv6
    refine hK.out _ _ (hK6.mono (by simp)) (fun hHeld => ?_)
    replace hW6 := Lib.hid hW6
    replace K6 := Lib.hid ((K3.out.mono (G := [b]) (by simp)).trans K6)
    replace gg6 := Lib.hid (Nat.le_trans K3.out.size gg6)
    clear hown6 hk6 hb6 hK6
    clear hK K HH
    have HH := Lib.hid hHeld
    clear hHeld
    refine wpAnyH_take (i := 14) (v := ?_) rfl (by kernel_rfl) (by kernel_rfl) (by kernel_rfl) (fun _ _ _ h => h) (Or.inl ⟨by rfl, ?_⟩) HH.out ?_
    rotate_left 1
    first | (intro w hSw; clear hSw; go_simp; done) | (intro w hSw; clear hSw; go_simp; with_reducible rfl)
    try simp only [List.getElem_toArray, List.getElem_cons_zero, List.getElem_cons_succ, Act.put, List.setIfInBounds_toArray, List.set_cons_zero, List.set_cons_succ]
    refine wpAnyH_take (i := 15) (v := ?_) rfl (by kernel_rfl) (by kernel_rfl) (by kernel_rfl) (fun _ _ _ h => h) (Or.inl ⟨by rfl, ?_⟩) HH.out ?_
    rotate_left 1
    first | (intro w hSw; clear hSw; go_simp; done) | (intro w hSw; clear hSw; go_simp; with_reducible rfl)
    try simp only [List.getElem_toArray, List.getElem_cons_zero, List.getElem_cons_succ, Act.put, List.setIfInBounds_toArray, List.set_cons_zero, List.set_cons_succ]
    refine wpAnyH_ready (rs := [16]) (by kernel_rfl) (by simp) ?_
    refine AllReadyH.cons rfl (fun K hK => ?_) AllReadyH.nil
    go_simp
    refine hK.out _ _ (HH.out.set1 _) (fun hHeld => ?_)
    clear hK K HH
    have HH := Lib.hid hHeld
    clear hHeld
    refine wpAnyH_done (by kernel_rfl) ?_ _
    go_wp2_with fail
    go_ret2
    refine ⟨rfl, _, hW6.out, K6.out.mono (fun i hi => by rw [List.mem_singleton] at hi; rw [hi]; exact List.mem_cons_self ..), fun i hi => Or.inr ?_⟩
    rw [mem_blks] at hi
    simp only [Value.ownBlock, Option.some.injEq] at hi
    rw [← hi]
    exact gg6.out

end Go.Proofs.Ytdfdajedcgmbfaa
