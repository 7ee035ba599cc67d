/-
  stage.Stage's close: its contract.
-/
import Derived.Test.YtmhkgfddlkdmgaaStageHold
import Derived.Deep.RegionHeld
namespace Go.Proofs.Ytmhkgfddlkdmgaa
open Go.RowKit Go.Tru

theorem set_same {l : List Ev} {i : Nat} {p : Ev} (h : l[i]? = some p) : l.set i p = l := by
  apply List.ext_getElem?
  intro j
  by_cases e : i = j
  · subst e
    rw [List.getElem?_set_self (List.getElem?_eq_some_iff.1 h).1, h]
  · rw [List.getElem?_set_ne e]

set_option maxHeartbeats 1600000 in
set_option maxRecDepth 100000 in
theorem close_any (s : St) (c : StC) (r : List StC) (hop : s.open_ = c :: r) (w : World) (base b : Nat) (hv ov : Value) (h : StIn w base b hv ov s) (hf : s.Fit) (he : s.e = 0) (hbase : base ≤ w.heap.size) :
    Calls Try.prog 15 #[.pointer (some ⟨b, 0, none⟩)] w fun rr w' => ∃ v, rr = .returned (.tuple #[v, .int .i64 (s.close c r).2.1]) ∧ OwnsAny w' base v (s.close c r).1 ∧ StPost w base b hv ov (s.close c r).2.2 w' := by
  obtain ⟨⟨p, hp1, hp2, hp3⟩, hc1, hc2⟩ := hf.opens c (by rw [hop]; exact List.mem_cons_self ..)
  obtain ⟨m, n, hn, hpp, hpc⟩ := clear_open hp2 hp3
  have hat : c.at_ < s.held.length := (List.getElem?_eq_some_iff.1 hp1).1
  have hlen : s.held.length ≤ 2000 := by have := hf.size; have := hf.lim; omega
  have hrl : r.length + 1 ≤ 2000 := by have := hf.cnt; rw [hop] at this; simp only [List.length_cons] at this; omega
  obtain ⟨g, cap, rfl, gl, gr, gm, gc, gf⟩ := OwnsAny.some_ h.held (by intro e; rw [e] at hat; simp at hat)
  have hopn := h.opn
  rw [hop] at hopn
  obtain ⟨og, ocap, rfl, ob, ol, orr, om, oc1, oc2, of⟩ := OwnsOpn.some_ hopn
  obtain ⟨g0, g1, g2, g3, g4⟩ := st_facts h.blk
  obtain ⟨f0, f1, f2, f3, f4⟩ := st_free h.blk
  have hbl := h.base_lt
  have H := Lib.hid h
  have HF := Lib.hid hf
  have HE := Lib.hid he
  have HOP := Lib.hid hop
  have HP1 := Lib.hid hp1
  have HPP := Lib.hid hpp
  have HPC := Lib.hid hpc
  have HP2 := Lib.hid hp2
  have HGC := Lib.hid gc
  have HGF := Lib.hid gf
  have HOPN := Lib.hid hopn
  have oat : (c.at_ : Int) < (s.held.length : Int) := by omega
  unfold maxLen at gm om
  clear h hf he hop hp1 hpp hpc hp2 gc gf hopn of
  go_enter Try.func15, Try.ntmps15
  go_wp2_with fail
  obtain ⟨w2, hw2⟩ : ∃ w2, w2 = (w.setCell ⟨b, 3, none⟩ (.slice (some ⟨og, 0, none⟩) r.length ocap)).alloc (.cells #[.int .i64 (c.at_ : Int), .int .i64 c.parts] 66) := ⟨_, rfl⟩
  have hso := H.out.setOpn (OwnsOpn.pop HOPN.out) (Or.inl rfl)
  have hs2 : StIn w2 base b (.slice (some ⟨g, 0, none⟩) s.held.length cap) (.slice (some ⟨og, 0, none⟩) r.length ocap) { s with open_ := r } := by rw [hw2]; exact hso.1.keep0 ((Keeps.refl [] _).alloc _)
  have hsub := hso.2
  have hk2 : Keeps (stBlks b (.slice (some ⟨g, 0, none⟩) s.held.length cap) (.slice (some ⟨og, 0, none⟩) (r.length + 1) ocap)) w w2 := by rw [hw2]; exact ((Keeps.refl _ _).setCell (Or.inl (show b ∈ stBlks b _ _ from List.mem_cons_self ..)) _).alloc _
  have hcc : Has w2 w.heap.size c.cells 66 := by rw [hw2]; exact Has.new' _ _ _ (by simp [World.setCell])
  have hsz : w2.heap.size = w.heap.size + 1 := by rw [hw2]; simp [World.setCell]
  rw [← hw2]
  clear hw2 hso
  have HS2 := Lib.hid hs2
  have HK2 := Lib.hid hk2
  have HSUB := Lib.hid hsub
  have HCC := Lib.hid hcc
  have HSZ := Lib.hid hsz
  have HL3 := Lib.hid (fun (w' : World) (k : Keeps [] w2 w') => st_facts (hs2.blk.keeps k (by simp)))
  have HL5 := Lib.hid (fun (w' : World) (k : Keeps [] w2 w') => show w'.cell? ⟨w.heap.size, 0, none⟩ = some (.int .i64 (c.at_ : Int)) ∧ w'.cell? ⟨w.heap.size, 1, none⟩ = some (.int .i64 c.parts) from ⟨(hcc.keeps k (by simp)).cell 0, (hcc.keeps k (by simp)).cell 1⟩)
  have hgc : w2.cell? ⟨g, c.at_, none⟩ = some (.iface 43 (.agg #[.bool m, .int .i64 n])) := by
    obtain ⟨g', cap', e1, _, _, _, e2, _⟩ := OwnsAny.some_ hs2.held (by intro e; simp only [] at e; rw [e] at hat; simp at hat)
    simp only [Value.slice.injEq, Option.some.injEq, Addr.mk.injEq, and_true] at e1
    obtain ⟨rfl, _⟩ := e1
    rw [e2 c.at_ p HP1.out, HPP.out]
  have HL7 := Lib.hid (fun (w' : World) (k : Keeps [] w2 w') => k.cell hgc (by simp))
  clear hs2 hk2 hsub hcc hsz hgc g0 g1 g2 g3 g4 f0 f1 f2 f3 f4 oc1 oc2
  refine wp_region_held_drew (S := fun w' => Keeps [] w2 w') (by kernel_rfl) ((Keeps.refl [] _).drew) (fun hHeld => ?_)
  have HH := Lib.hid hHeld
  clear hHeld
  refine wpAnyH_take (i := 0) (v := ?_) rfl (by kernel_rfl) (by kernel_rfl) (by kernel_rfl) (fun _ _ _ h => h) (Or.inl ⟨by rfl, ?_⟩) HH.out ?_
  rotate_left 1
  first | (intro w hSw; clear hSw; go_simp; done) | (intro w hSw; clear hSw; go_simp; with_reducible rfl)
  try simp only [List.getElem_toArray, List.getElem_cons_zero, Act.put, List.setIfInBounds_toArray, List.set_cons_zero, List.set_cons_succ]
  refine wpAnyH_take (i := 1) (v := ?_) rfl (by kernel_rfl) (by kernel_rfl) (by kernel_rfl) (fun _ _ _ h => h) (Or.inl ⟨by rfl, ?_⟩) HH.out ?_
  rotate_left 1
  first | (intro w hSw; clear hSw; go_simp; done) | (intro w hSw; clear hSw; go_simp; with_reducible rfl)
  try simp only [List.getElem_toArray, List.getElem_cons_zero, List.getElem_cons_succ, Act.put, List.setIfInBounds_toArray, List.set_cons_zero, List.set_cons_succ]
  refine wpAnyH_take (i := 2) (v := ?_) rfl (by kernel_rfl) (by kernel_rfl) (by kernel_rfl) (fun _ _ _ h => h) (Or.inl ⟨by rfl, ?_⟩) HH.out ?_
  rotate_left 1
  first | (intro w hSw; clear hSw; go_simp; done) | (intro w hSw; clear hSw; go_simp; with_reducible rfl)
  try simp only [List.getElem_toArray, List.getElem_cons_zero, List.getElem_cons_succ, Act.put, List.setIfInBounds_toArray, List.set_cons_zero, List.set_cons_succ]
  refine wpAnyH_take (i := 3) (v := ?_) rfl (by kernel_rfl) (by kernel_rfl) (by kernel_rfl) (fun _ _ _ h => h) (Or.inl ⟨by rfl, ?_⟩) HH.out ?_
  rotate_left 1
  first | (intro w hSw; have hSf := HL3.out w hSw; clear hSw; go_simp; done) | (intro w hSw; have hSf := HL3.out w hSw; clear hSw; go_simp; with_reducible rfl)
  try simp only [List.getElem_toArray, List.getElem_cons_zero, List.getElem_cons_succ, Act.put, List.setIfInBounds_toArray, List.set_cons_zero, List.set_cons_succ]
  refine wpAnyH_take (i := 4) (v := ?_) rfl (by kernel_rfl) (by kernel_rfl) (by kernel_rfl) (fun _ _ _ h => h) (Or.inl ⟨by rfl, ?_⟩) HH.out ?_
  rotate_left 1
  first | (intro w hSw; clear hSw; go_simp; done) | (intro w hSw; clear hSw; go_simp; with_reducible rfl)
  try simp only [List.getElem_toArray, List.getElem_cons_zero, List.getElem_cons_succ, Act.put, List.setIfInBounds_toArray, List.set_cons_zero, List.set_cons_succ]
  refine wpAnyH_take (i := 5) (v := ?_) rfl (by kernel_rfl) (by kernel_rfl) (by kernel_rfl) (fun _ _ _ h => h) (Or.inl ⟨by rfl, ?_⟩) HH.out ?_
  rotate_left 1
  first | (intro w hSw; have hSf := HL5.out w hSw; clear hSw; go_simp; done) | (intro w hSw; have hSf := HL5.out w hSw; clear hSw; go_simp; with_reducible rfl)
  try simp only [List.getElem_toArray, List.getElem_cons_zero, List.getElem_cons_succ, Act.put, List.setIfInBounds_toArray, List.set_cons_zero, List.set_cons_succ]
  refine wpAnyH_take (i := 6) (v := ?_) rfl (by kernel_rfl) (by kernel_rfl) (by kernel_rfl) (fun _ _ _ h => h) (Or.inl ⟨by rfl, ?_⟩) HH.out ?_
  rotate_left 1
  first | (intro w hSw; clear hSw; go_simp; done) | (intro w hSw; clear hSw; go_simp; with_reducible rfl)
  try simp only [List.getElem_toArray, List.getElem_cons_zero, List.getElem_cons_succ, Act.put, List.setIfInBounds_toArray, List.set_cons_zero, List.set_cons_succ]
  refine wpAnyH_take (i := 7) (v := ?_) rfl (by kernel_rfl) (by kernel_rfl) (by kernel_rfl) (fun _ _ _ h => h) (Or.inl ⟨by rfl, ?_⟩) HH.out ?_
  rotate_left 1
  first | (intro w hSw; have hSf := HL7.out w hSw; clear hSw; go_simp; done) | (intro w hSw; have hSf := HL7.out w hSw; clear hSw; go_simp; with_reducible rfl)
  try simp only [List.getElem_toArray, List.getElem_cons_zero, List.getElem_cons_succ, Act.put, List.setIfInBounds_toArray, List.set_cons_zero, List.set_cons_succ]
  refine wpAnyH_take (i := 8) (v := ?_) rfl (by kernel_rfl) (by kernel_rfl) (by kernel_rfl) (fun _ _ _ h => h) (Or.inl ⟨by rfl, ?_⟩) HH.out ?_
  rotate_left 1
  first | (intro w hSw; clear hSw; go_simp; done) | (intro w hSw; clear hSw; go_simp; with_reducible rfl)
  try simp only [List.getElem_toArray, List.getElem_cons_zero, List.getElem_cons_succ, Act.put, List.setIfInBounds_toArray, List.set_cons_zero, List.set_cons_succ]
  refine wpAnyH_take (i := 9) (v := ?_) rfl (by kernel_rfl) (by kernel_rfl) (by kernel_rfl) (fun _ _ _ h => h) (Or.inl ⟨by rfl, ?_⟩) HH.out ?_
  rotate_left 1
  first | (intro w hSw; clear hSw; go_simp; done) | (intro w hSw; clear hSw; go_simp; with_reducible rfl)
  try simp only [List.getElem_toArray, List.getElem_cons_zero, List.getElem_cons_succ, Act.put, List.setIfInBounds_toArray, List.set_cons_zero, List.set_cons_succ]
  refine wpAnyH_take (i := 10) (v := ?_) rfl (by kernel_rfl) (by kernel_rfl) (by kernel_rfl) (fun _ _ _ h => h) (Or.inl ⟨by rfl, ?_⟩) HH.out ?_
  rotate_left 1
  first | (intro w hSw; clear hSw; go_simp; done) | (intro w hSw; clear hSw; go_simp; with_reducible rfl)
  try simp only [List.getElem_toArray, List.getElem_cons_zero, List.getElem_cons_succ, Act.put, List.setIfInBounds_toArray, List.set_cons_zero, List.set_cons_succ]
  refine wpAnyH_take (i := 11) (v := ?_) rfl (by kernel_rfl) (by kernel_rfl) (by kernel_rfl) (fun _ _ _ h => h) (Or.inl ⟨by rfl, ?_⟩) HH.out ?_
  rotate_left 1
  first | (intro w hSw; clear hSw; go_simp; done) | (intro w hSw; clear hSw; go_simp; with_reducible rfl)
  try simp only [List.getElem_toArray, List.getElem_cons_zero, List.getElem_cons_succ, Act.put, List.setIfInBounds_toArray, List.set_cons_zero, List.set_cons_succ]
  refine wpAnyH_ready (rs := [12]) (by kernel_rfl) (by simp) ?_
  refine AllReadyH.cons rfl (fun K hK => ?_) AllReadyH.nil
  go_simp
  refine hK.out _ _ (by first | exact HH.out.alloc _ | exact (Keeps.refl [] _).drew.alloc _ | exact ((Keeps.refl [] _).alloc _).drew | exact HH.out.setCell (Or.inr (by simp)) _) (fun hHeld => ?_)
  clear hK K HH
  have HH := Lib.hid hHeld
  clear hHeld
  refine wpAnyH_ready (rs := [13]) (by kernel_rfl) (by simp) ?_
  refine AllReadyH.cons rfl (fun K hK => ?_) AllReadyH.nil
  go_simp
  refine hK.out _ _ (by first | exact HH.out.alloc _ | exact (Keeps.refl [] _).drew.alloc _ | exact ((Keeps.refl [] _).alloc _).drew | exact HH.out.setCell (Or.inr (by simp)) _) (fun hHeld => ?_)
  clear hK K HH
  have HH := Lib.hid hHeld
  clear hHeld
  refine wpAnyH_take (i := 14) (v := ?_) rfl (by kernel_rfl) (by kernel_rfl) (by kernel_rfl) (fun _ _ _ h => h) (Or.inl ⟨by rfl, ?_⟩) HH.out ?_
  rotate_left 1
  first | (intro w hSw; clear hSw; go_simp; done) | (intro w hSw; clear hSw; go_simp; with_reducible rfl)
  try simp only [List.getElem_toArray, List.getElem_cons_zero, List.getElem_cons_succ, Act.put, List.setIfInBounds_toArray, List.set_cons_zero, List.set_cons_succ]
  refine wpAnyH_done (by kernel_rfl) ?_ _
  obtain ⟨c0, c1⟩ := HL5.out w2 (Keeps.refl _ _)
  obtain ⟨g0, g1, g2, g3, g4⟩ := HL3.out w2 (Keeps.refl _ _)
  obtain ⟨f0, f1, f2, f3, f4⟩ := st_free HS2.out.blk
  have hlt2 : w.heap.size < w2.heap.size := by rw [HSZ.out]; omega
  have hbl2 : b < w2.heap.size := by omega
  have hgl2 : g < w2.heap.size := by omega
  by_cases hneg : n < 0
  · cases m
    · go_wp2_with fail
      obtain ⟨w3, hw3⟩ : ∃ w3, w3 = (w2.alloc (.cells #[.bool false, .int .i64 c.parts] 43)).drew := ⟨_, rfl⟩
      have hk23 : Keeps [] w2 w3 := by rw [hw3]; exact ((Keeps.refl [] _).alloc _).drew
      have hxx : Has w3 w2.heap.size [.bool false, .int .i64 c.parts] 43 := by rw [hw3]; exact Has.new' _ _ _ rfl
      have hsz3 : w2.heap.size < w3.heap.size := by rw [hw3]; simp
      rw [← hw3]
      clear hw3 c0 c1 g0 g1 g2 g3 g4 f0 f1 f2 f3 f4
      have hgb : b ≠ g := fun e => HS2.out.bh (by rw [mem_blks, e]; rfl)
      have HS3 := Lib.hid (HS2.out.keep0 hk23)
      have HM3 := Lib.hid (fun (w' : World) (k : Keeps [g] w3 w') => st_facts (HS3.out.blk.keeps k (by simpa using hgb)))
      have HM5 := Lib.hid (fun (w' : World) (k : Keeps [g] w3 w') => show w'.cell? ⟨w.heap.size, 0, none⟩ = some (.int .i64 (c.at_ : Int)) from ((HCC.out.keeps hk23 (by simp)).keeps k (by simp; omega)).cell 0)
      have HM6 := Lib.hid (fun (w' : World) (k : Keeps [g] w3 w') => show w'.cell? ⟨w2.heap.size, 0, none⟩ = some (.bool false) ∧ w'.cell? ⟨w2.heap.size, 1, none⟩ = some (.int .i64 c.parts) from ⟨(hxx.keeps k (by simp; omega)).cell 0, (hxx.keeps k (by simp; omega)).cell 1⟩)
      have hcell3 : w3.cell? ⟨g, c.at_, none⟩ = some (.iface 43 (.agg #[.bool false, .int .i64 n])) := HL7.out w3 hk23
      have hfree3 : w3.frozen? ⟨g, c.at_, none⟩ = false := by
        obtain ⟨g', cap', e1, _, _, _, _, e2⟩ := OwnsAny.some_ HS3.out.held (by intro e; simp only [] at e; rw [e] at hat; simp at hat)
        simp only [Value.slice.injEq, Option.some.injEq, Addr.mk.injEq, and_true] at e1
        obtain ⟨rfl, _⟩ := e1
        exact e2 _
      have hq : p.counted c.parts = evArr c.parts := by
        have e := HPC.out
        simp only [Cont.of, Cont.mk.injEq] at e
        have hk : p.kind = 5 ∨ p.kind = 6 := by simpa [isOpen] using hp3
        rcases HP2.out with rfl | ⟨b, rfl⟩ | ⟨n, m, rfl⟩ | ⟨s, rfl⟩ | ⟨s, rfl⟩ | ⟨k, hk, rfl⟩ | ⟨k, hk, rfl⟩ | rfl
        all_goals first
          | (simp [evNull, evBool, evInt, evText, evBytes, evEnd] at hk; done)
          | (simp [evArr, evMap] at e; done)
          | (have e2 := e.2.1; simp only [evArr] at e2; subst e2; simp [Ev.counted, Ev.loose, evArr, hneg])
      have hset : heldSet s.held c.at_ c.parts = s.held.set c.at_ (evArr c.parts) := by
        unfold heldSet
        rw [HP1.out, ← hq]
      have HSET := Lib.hid hset
      have K23 := Lib.hid hk23
      have hsp : (evArr c.parts).part = .iface 43 (.agg #[.bool false, .int .i64 c.parts]) := part_arr _
      clear hk23 hxx hq hset
      go_wp2_with fail
      refine wp_region_held_drew (S := fun w' => Keeps [g] w3 w') (by kernel_rfl) ((Keeps.refl [g] _).drew) (fun hHeld => ?_)
      have HH := Lib.hid hHeld
      clear hHeld
      refine wpAnyH_take (i := 0) (v := ?_) rfl (by kernel_rfl) (by kernel_rfl) (by kernel_rfl) (fun _ _ _ h => h) (Or.inl ⟨by rfl, ?_⟩) HH.out ?_
      rotate_left 1
      first | (intro w hSw; clear hSw; go_simp; done) | (intro w hSw; clear hSw; go_simp; with_reducible rfl)
      try simp only [List.getElem_toArray, List.getElem_cons_zero, Act.put, List.setIfInBounds_toArray, List.set_cons_zero, List.set_cons_succ]
      refine wpAnyH_take (i := 1) (v := ?_) rfl (by kernel_rfl) (by kernel_rfl) (by kernel_rfl) (fun _ _ _ h => h) (Or.inl ⟨by rfl, ?_⟩) HH.out ?_
      rotate_left 1
      first | (intro w hSw; clear hSw; go_simp; done) | (intro w hSw; clear hSw; go_simp; with_reducible rfl)
      try simp only [List.getElem_toArray, List.getElem_cons_zero, List.getElem_cons_succ, Act.put, List.setIfInBounds_toArray, List.set_cons_zero, List.set_cons_succ]
      refine wpAnyH_take (i := 2) (v := ?_) rfl (by kernel_rfl) (by kernel_rfl) (by kernel_rfl) (fun _ _ _ h => h) (Or.inl ⟨by rfl, ?_⟩) HH.out ?_
      rotate_left 1
      first | (intro w hSw; clear hSw; go_simp; done) | (intro w hSw; clear hSw; go_simp; with_reducible rfl)
      try simp only [List.getElem_toArray, List.getElem_cons_zero, List.getElem_cons_succ, Act.put, List.setIfInBounds_toArray, List.set_cons_zero, List.set_cons_succ]
      refine wpAnyH_take (i := 3) (v := ?_) rfl (by kernel_rfl) (by kernel_rfl) (by kernel_rfl) (fun _ _ _ h => h) (Or.inl ⟨by rfl, ?_⟩) HH.out ?_
      rotate_left 1
      first | (intro w hSw; have hSf := HM3.out w hSw; clear hSw; go_simp; done) | (intro w hSw; have hSf := HM3.out w hSw; clear hSw; go_simp; with_reducible rfl)
      try simp only [List.getElem_toArray, List.getElem_cons_zero, List.getElem_cons_succ, Act.put, List.setIfInBounds_toArray, List.set_cons_zero, List.set_cons_succ]
      refine wpAnyH_take (i := 4) (v := ?_) rfl (by kernel_rfl) (by kernel_rfl) (by kernel_rfl) (fun _ _ _ h => h) (Or.inl ⟨by rfl, ?_⟩) HH.out ?_
      rotate_left 1
      first | (intro w hSw; clear hSw; go_simp; done) | (intro w hSw; clear hSw; go_simp; with_reducible rfl)
      try simp only [List.getElem_toArray, List.getElem_cons_zero, List.getElem_cons_succ, Act.put, List.setIfInBounds_toArray, List.set_cons_zero, List.set_cons_succ]
      refine wpAnyH_take (i := 5) (v := ?_) rfl (by kernel_rfl) (by kernel_rfl) (by kernel_rfl) (fun _ _ _ h => h) (Or.inl ⟨by rfl, ?_⟩) HH.out ?_
      rotate_left 1
      first | (intro w hSw; have hSf := HM5.out w hSw; clear hSw; go_simp; done) | (intro w hSw; have hSf := HM5.out w hSw; clear hSw; go_simp; with_reducible rfl)
      try simp only [List.getElem_toArray, List.getElem_cons_zero, List.getElem_cons_succ, Act.put, List.setIfInBounds_toArray, List.set_cons_zero, List.set_cons_succ]
      refine wpAnyH_take (i := 6) (v := ?_) rfl (by kernel_rfl) (by kernel_rfl) (by kernel_rfl) (fun _ _ _ h => h) (Or.inl ⟨by rfl, ?_⟩) HH.out ?_
      rotate_left 1
      first | (intro w hSw; have hSf := HM6.out w hSw; clear hSw; go_simp; done) | (intro w hSw; have hSf := HM6.out w hSw; clear hSw; go_simp; with_reducible rfl)
      try simp only [List.getElem_toArray, List.getElem_cons_zero, List.getElem_cons_succ, Act.put, List.setIfInBounds_toArray, List.set_cons_zero, List.set_cons_succ]
      refine wpAnyH_take (i := 7) (v := ?_) rfl (by kernel_rfl) (by kernel_rfl) (by kernel_rfl) (fun _ _ _ h => h) (Or.inl ⟨by rfl, ?_⟩) HH.out ?_
      rotate_left 1
      first | (intro w hSw; clear hSw; go_simp; done) | (intro w hSw; clear hSw; go_simp; with_reducible rfl)
      try simp only [List.getElem_toArray, List.getElem_cons_zero, List.getElem_cons_succ, Act.put, List.setIfInBounds_toArray, List.set_cons_zero, List.set_cons_succ]
      refine wpAnyH_take (i := 8) (v := ?_) rfl (by kernel_rfl) (by kernel_rfl) (by kernel_rfl) (fun _ _ _ h => h) (Or.inl ⟨by rfl, ?_⟩) HH.out ?_
      rotate_left 1
      first | (intro w hSw; clear hSw; go_simp; done) | (intro w hSw; clear hSw; go_simp; with_reducible rfl)
      try simp only [List.getElem_toArray, List.getElem_cons_zero, List.getElem_cons_succ, Act.put, List.setIfInBounds_toArray, List.set_cons_zero, List.set_cons_succ]
      refine wpAnyH_ready (rs := [9]) (by kernel_rfl) (by simp) ?_
      refine AllReadyH.cons rfl (fun K hK => ?_) AllReadyH.nil
      go_simp
      refine hK.out _ _ (by first | exact HH.out.alloc _ | exact (Keeps.refl [g] _).drew.alloc _ | exact ((Keeps.refl [g] _).alloc _).drew | exact HH.out.set1 _) (fun hHeld => ?_)
      clear hK K HH
      have HH := Lib.hid hHeld
      clear hHeld
      refine wpAnyH_done (by kernel_rfl) ?_ _
      
      have hxs := StIn.setAt (s := { s with open_ := r }) HS3.out c.at_ (evArr c.parts)
      rw [hsp] at hxs
      have hx0 : StIn (w3.setCell ⟨g, c.at_, none⟩ (.iface 43 (.agg #[.bool false, .int .i64 c.parts]))).drew base b (.slice (some ⟨g, 0, none⟩) s.held.length cap) (.slice (some ⟨og, 0, none⟩) r.length ocap) { s with open_ := r, held := heldSet s.held c.at_ c.parts } := by
        rw [HSET.out]; exact hxs.keep0 (Keeps.refl [] _).drew
      have hkx : Keeps (stBlks b (.slice (some ⟨g, 0, none⟩) s.held.length cap) (.slice (some ⟨og, 0, none⟩) (r.length + 1) ocap)) w (w3.setCell ⟨g, c.at_, none⟩ (.iface 43 (.agg #[.bool false, .int .i64 c.parts]))).drew :=
        ((HK2.out.trans (K23.out.mono (by simp))).setCell (Or.inl (show g ∈ stBlks b _ _ from List.mem_cons_of_mem _ (List.mem_append_left _ (by rw [mem_blks]; rfl)))) _).drew
      clear hxs hcell3 hfree3 hsp
      have SX := Lib.hid (fun i (hi : i ∈ stBlks b (.slice (some ⟨g, 0, none⟩) s.held.length cap) (.slice (some ⟨og, 0, none⟩) r.length ocap)) => (Or.inl (HSUB.out i hi) : i ∈ stBlks b (.slice (some ⟨g, 0, none⟩) s.held.length cap) (.slice (some ⟨og, 0, none⟩) (r.length + 1) ocap) ∨ w.heap.size ≤ i))
      obtain ⟨g0, g1, g2, g3, g4⟩ := st_facts hx0.blk
      obtain ⟨f0, f1, f2, f3, f4⟩ := st_free hx0.blk
      have hbx := hkx.size
      have HX := Lib.hid hx0
      have KX := Lib.hid hkx
      clear hx0 hkx
      cases r with
      | nil =>
        go_wp2_with (at_builtin; go_must (refine app_any rfl _ _ rfl base _ (heldSet s.held c.at_ c.parts) rfl (ownsRow_keeps HX.out.held ((Keeps.refl [] _).alloc _) (by simp)) ⟨_, 0, none⟩ 1 1 [evEnd] rfl rfl (new_part rfl (by first | (simp; done) | simp [World.setCell])) (by rw [heldSet_len]; omega) (Nat.le_trans hbase (KX.out.alloc _).size) ?_))
        intro v4 w4 hown4 hk4 _hnil hblk4
        obtain ⟨o4, c4, hv4⟩ := OwnsAny.shape hown4
        rw [List.length_append, List.length_singleton, heldSet_len] at hv4
        subst hv4
        have hout := close_out HX.out hown4 (((Keeps.refl _ _).alloc _).trans hk4) (hblk4.imp id (fun h => ⟨_, h, by simp⟩))
        have hb4 := (HX.out.blk.alloc _).keeps hk4 HX.out.bh
        obtain ⟨g0, g1, g2, g3, g4⟩ := st_facts hb4
        obtain ⟨f0, f1, f2, f3, f4⟩ := st_free hb4
        have HOUT := Lib.hid hout
        clear hout hb4 hown4 hk4 _hnil hblk4
        go_wp2_with fail
        go_ret2
        exact ⟨_, rfl, HOUT.out.1, StPost.trans KX.out SX.out HOUT.out.2⟩
      | cons c' r' =>
        have hhold := hold_any { s with open_ := c' :: r', held := heldSet s.held c.at_ c.parts } evEnd (Or.inr (Or.inr (Or.inr (Or.inr (Or.inr (Or.inr (Or.inr rfl))))))) (by decide) _ base b _ _ HX.out ⟨HE.out, by have := HF.out.size; have := HF.out.lim; simp only []; omega, HF.out.lim, by simp only [heldSet_len]; omega, by omega⟩
        rw [part_end] at hhold
        have HHO := Lib.hid hhold
        clear hhold
        go_wp2_with fail
        refine HHO.out.mono ?_
        rintro e w5 ⟨rfl, hpost⟩
        have HPO := Lib.hid hpost
        clear hpost
        go_wp2_with fail
        go_ret2
        exact ⟨_, rfl, OwnsAny.nil _ _, StPost.trans KX.out SX.out HPO.out⟩
    · go_wp2_with fail
      obtain ⟨w3, hw3⟩ : ∃ w3, w3 = (w2.alloc (.cells #[.bool true, .int .i64 (c.parts / 2)] 43)).drew := ⟨_, rfl⟩
      have hk23 : Keeps [] w2 w3 := by rw [hw3]; exact ((Keeps.refl [] _).alloc _).drew
      have hxx : Has w3 w2.heap.size [.bool true, .int .i64 (c.parts / 2)] 43 := by rw [hw3]; exact Has.new' _ _ _ rfl
      have hsz3 : w2.heap.size < w3.heap.size := by rw [hw3]; simp
      rw [← hw3]
      clear hw3 c0 c1 g0 g1 g2 g3 g4 f0 f1 f2 f3 f4
      have hgb : b ≠ g := fun e => HS2.out.bh (by rw [mem_blks, e]; rfl)
      have HS3 := Lib.hid (HS2.out.keep0 hk23)
      have HM3 := Lib.hid (fun (w' : World) (k : Keeps [g] w3 w') => st_facts (HS3.out.blk.keeps k (by simpa using hgb)))
      have HM5 := Lib.hid (fun (w' : World) (k : Keeps [g] w3 w') => show w'.cell? ⟨w.heap.size, 0, none⟩ = some (.int .i64 (c.at_ : Int)) from ((HCC.out.keeps hk23 (by simp)).keeps k (by simp; omega)).cell 0)
      have HM6 := Lib.hid (fun (w' : World) (k : Keeps [g] w3 w') => show w'.cell? ⟨w2.heap.size, 0, none⟩ = some (.bool true) ∧ w'.cell? ⟨w2.heap.size, 1, none⟩ = some (.int .i64 (c.parts / 2)) from ⟨(hxx.keeps k (by simp; omega)).cell 0, (hxx.keeps k (by simp; omega)).cell 1⟩)
      have hcell3 : w3.cell? ⟨g, c.at_, none⟩ = some (.iface 43 (.agg #[.bool true, .int .i64 n])) := HL7.out w3 hk23
      have hfree3 : w3.frozen? ⟨g, c.at_, none⟩ = false := by
        obtain ⟨g', cap', e1, _, _, _, _, e2⟩ := OwnsAny.some_ HS3.out.held (by intro e; simp only [] at e; rw [e] at hat; simp at hat)
        simp only [Value.slice.injEq, Option.some.injEq, Addr.mk.injEq, and_true] at e1
        obtain ⟨rfl, _⟩ := e1
        exact e2 _
      have hq : p.counted c.parts = evMap (c.parts / 2) := by
        have e := HPC.out
        simp only [Cont.of, Cont.mk.injEq] at e
        have hk : p.kind = 5 ∨ p.kind = 6 := by simpa [isOpen] using hp3
        rcases HP2.out with rfl | ⟨b, rfl⟩ | ⟨n, m, rfl⟩ | ⟨s, rfl⟩ | ⟨s, rfl⟩ | ⟨k, hk, rfl⟩ | ⟨k, hk, rfl⟩ | rfl
        all_goals first
          | (simp [evNull, evBool, evInt, evText, evBytes, evEnd] at hk; done)
          | (simp [evArr, evMap] at e; done)
          | (have e2 := e.2.1; simp only [evMap] at e2; subst e2; simp [Ev.counted, Ev.loose, evMap, hneg])
      have hset : heldSet s.held c.at_ c.parts = s.held.set c.at_ (evMap (c.parts / 2)) := by
        unfold heldSet
        rw [HP1.out, ← hq]
      have HSET := Lib.hid hset
      have K23 := Lib.hid hk23
      have hsp : (evMap (c.parts / 2)).part = .iface 43 (.agg #[.bool true, .int .i64 (c.parts / 2)]) := part_map _
      clear hk23 hxx hq hset
      go_wp2_with fail
      refine wp_region_held_drew (S := fun w' => Keeps [g] w3 w') (by kernel_rfl) ((Keeps.refl [g] _).drew) (fun hHeld => ?_)
      have HH := Lib.hid hHeld
      clear hHeld
      refine wpAnyH_take (i := 0) (v := ?_) rfl (by kernel_rfl) (by kernel_rfl) (by kernel_rfl) (fun _ _ _ h => h) (Or.inl ⟨by rfl, ?_⟩) HH.out ?_
      rotate_left 1
      first | (intro w hSw; clear hSw; go_simp; done) | (intro w hSw; clear hSw; go_simp; with_reducible rfl)
      try simp only [List.getElem_toArray, List.getElem_cons_zero, Act.put, List.setIfInBounds_toArray, List.set_cons_zero, List.set_cons_succ]
      refine wpAnyH_take (i := 1) (v := ?_) rfl (by kernel_rfl) (by kernel_rfl) (by kernel_rfl) (fun _ _ _ h => h) (Or.inl ⟨by rfl, ?_⟩) HH.out ?_
      rotate_left 1
      first | (intro w hSw; clear hSw; go_simp; done) | (intro w hSw; clear hSw; go_simp; with_reducible rfl)
      try simp only [List.getElem_toArray, List.getElem_cons_zero, List.getElem_cons_succ, Act.put, List.setIfInBounds_toArray, List.set_cons_zero, List.set_cons_succ]
      refine wpAnyH_take (i := 2) (v := ?_) rfl (by kernel_rfl) (by kernel_rfl) (by kernel_rfl) (fun _ _ _ h => h) (Or.inl ⟨by rfl, ?_⟩) HH.out ?_
      rotate_left 1
      first | (intro w hSw; clear hSw; go_simp; done) | (intro w hSw; clear hSw; go_simp; with_reducible rfl)
      try simp only [List.getElem_toArray, List.getElem_cons_zero, List.getElem_cons_succ, Act.put, List.setIfInBounds_toArray, List.set_cons_zero, List.set_cons_succ]
      refine wpAnyH_take (i := 3) (v := ?_) rfl (by kernel_rfl) (by kernel_rfl) (by kernel_rfl) (fun _ _ _ h => h) (Or.inl ⟨by rfl, ?_⟩) HH.out ?_
      rotate_left 1
      first | (intro w hSw; have hSf := HM3.out w hSw; clear hSw; go_simp; done) | (intro w hSw; have hSf := HM3.out w hSw; clear hSw; go_simp; with_reducible rfl)
      try simp only [List.getElem_toArray, List.getElem_cons_zero, List.getElem_cons_succ, Act.put, List.setIfInBounds_toArray, List.set_cons_zero, List.set_cons_succ]
      refine wpAnyH_take (i := 4) (v := ?_) rfl (by kernel_rfl) (by kernel_rfl) (by kernel_rfl) (fun _ _ _ h => h) (Or.inl ⟨by rfl, ?_⟩) HH.out ?_
      rotate_left 1
      first | (intro w hSw; clear hSw; go_simp; done) | (intro w hSw; clear hSw; go_simp; with_reducible rfl)
      try simp only [List.getElem_toArray, List.getElem_cons_zero, List.getElem_cons_succ, Act.put, List.setIfInBounds_toArray, List.set_cons_zero, List.set_cons_succ]
      refine wpAnyH_take (i := 5) (v := ?_) rfl (by kernel_rfl) (by kernel_rfl) (by kernel_rfl) (fun _ _ _ h => h) (Or.inl ⟨by rfl, ?_⟩) HH.out ?_
      rotate_left 1
      first | (intro w hSw; have hSf := HM5.out w hSw; clear hSw; go_simp; done) | (intro w hSw; have hSf := HM5.out w hSw; clear hSw; go_simp; with_reducible rfl)
      try simp only [List.getElem_toArray, List.getElem_cons_zero, List.getElem_cons_succ, Act.put, List.setIfInBounds_toArray, List.set_cons_zero, List.set_cons_succ]
      refine wpAnyH_take (i := 6) (v := ?_) rfl (by kernel_rfl) (by kernel_rfl) (by kernel_rfl) (fun _ _ _ h => h) (Or.inl ⟨by rfl, ?_⟩) HH.out ?_
      rotate_left 1
      first | (intro w hSw; have hSf := HM6.out w hSw; clear hSw; go_simp; done) | (intro w hSw; have hSf := HM6.out w hSw; clear hSw; go_simp; with_reducible rfl)
      try simp only [List.getElem_toArray, List.getElem_cons_zero, List.getElem_cons_succ, Act.put, List.setIfInBounds_toArray, List.set_cons_zero, List.set_cons_succ]
      refine wpAnyH_take (i := 7) (v := ?_) rfl (by kernel_rfl) (by kernel_rfl) (by kernel_rfl) (fun _ _ _ h => h) (Or.inl ⟨by rfl, ?_⟩) HH.out ?_
      rotate_left 1
      first | (intro w hSw; clear hSw; go_simp; done) | (intro w hSw; clear hSw; go_simp; with_reducible rfl)
      try simp only [List.getElem_toArray, List.getElem_cons_zero, List.getElem_cons_succ, Act.put, List.setIfInBounds_toArray, List.set_cons_zero, List.set_cons_succ]
      refine wpAnyH_take (i := 8) (v := ?_) rfl (by kernel_rfl) (by kernel_rfl) (by kernel_rfl) (fun _ _ _ h => h) (Or.inl ⟨by rfl, ?_⟩) HH.out ?_
      rotate_left 1
      first | (intro w hSw; clear hSw; go_simp; done) | (intro w hSw; clear hSw; go_simp; with_reducible rfl)
      try simp only [List.getElem_toArray, List.getElem_cons_zero, List.getElem_cons_succ, Act.put, List.setIfInBounds_toArray, List.set_cons_zero, List.set_cons_succ]
      refine wpAnyH_ready (rs := [9]) (by kernel_rfl) (by simp) ?_
      refine AllReadyH.cons rfl (fun K hK => ?_) AllReadyH.nil
      go_simp
      refine hK.out _ _ (by first | exact HH.out.alloc _ | exact (Keeps.refl [g] _).drew.alloc _ | exact ((Keeps.refl [g] _).alloc _).drew | exact HH.out.set1 _) (fun hHeld => ?_)
      clear hK K HH
      have HH := Lib.hid hHeld
      clear hHeld
      refine wpAnyH_done (by kernel_rfl) ?_ _
      
      have hxs := StIn.setAt (s := { s with open_ := r }) HS3.out c.at_ (evMap (c.parts / 2))
      rw [hsp] at hxs
      have hx0 : StIn (w3.setCell ⟨g, c.at_, none⟩ (.iface 43 (.agg #[.bool true, .int .i64 (c.parts / 2)]))).drew base b (.slice (some ⟨g, 0, none⟩) s.held.length cap) (.slice (some ⟨og, 0, none⟩) r.length ocap) { s with open_ := r, held := heldSet s.held c.at_ c.parts } := by
        rw [HSET.out]; exact hxs.keep0 (Keeps.refl [] _).drew
      have hkx : Keeps (stBlks b (.slice (some ⟨g, 0, none⟩) s.held.length cap) (.slice (some ⟨og, 0, none⟩) (r.length + 1) ocap)) w (w3.setCell ⟨g, c.at_, none⟩ (.iface 43 (.agg #[.bool true, .int .i64 (c.parts / 2)]))).drew :=
        ((HK2.out.trans (K23.out.mono (by simp))).setCell (Or.inl (show g ∈ stBlks b _ _ from List.mem_cons_of_mem _ (List.mem_append_left _ (by rw [mem_blks]; rfl)))) _).drew
      clear hxs hcell3 hfree3 hsp
      have SX := Lib.hid (fun i (hi : i ∈ stBlks b (.slice (some ⟨g, 0, none⟩) s.held.length cap) (.slice (some ⟨og, 0, none⟩) r.length ocap)) => (Or.inl (HSUB.out i hi) : i ∈ stBlks b (.slice (some ⟨g, 0, none⟩) s.held.length cap) (.slice (some ⟨og, 0, none⟩) (r.length + 1) ocap) ∨ w.heap.size ≤ i))
      obtain ⟨g0, g1, g2, g3, g4⟩ := st_facts hx0.blk
      obtain ⟨f0, f1, f2, f3, f4⟩ := st_free hx0.blk
      have hbx := hkx.size
      have HX := Lib.hid hx0
      have KX := Lib.hid hkx
      clear hx0 hkx
      cases r with
      | nil =>
        go_wp2_with (at_builtin; go_must (refine app_any rfl _ _ rfl base _ (heldSet s.held c.at_ c.parts) rfl (ownsRow_keeps HX.out.held ((Keeps.refl [] _).alloc _) (by simp)) ⟨_, 0, none⟩ 1 1 [evEnd] rfl rfl (new_part rfl (by first | (simp; done) | simp [World.setCell])) (by rw [heldSet_len]; omega) (Nat.le_trans hbase (KX.out.alloc _).size) ?_))
        intro v4 w4 hown4 hk4 _hnil hblk4
        obtain ⟨o4, c4, hv4⟩ := OwnsAny.shape hown4
        rw [List.length_append, List.length_singleton, heldSet_len] at hv4
        subst hv4
        have hout := close_out HX.out hown4 (((Keeps.refl _ _).alloc _).trans hk4) (hblk4.imp id (fun h => ⟨_, h, by simp⟩))
        have hb4 := (HX.out.blk.alloc _).keeps hk4 HX.out.bh
        obtain ⟨g0, g1, g2, g3, g4⟩ := st_facts hb4
        obtain ⟨f0, f1, f2, f3, f4⟩ := st_free hb4
        have HOUT := Lib.hid hout
        clear hout hb4 hown4 hk4 _hnil hblk4
        go_wp2_with fail
        go_ret2
        exact ⟨_, rfl, HOUT.out.1, StPost.trans KX.out SX.out HOUT.out.2⟩
      | cons c' r' =>
        have hhold := hold_any { s with open_ := c' :: r', held := heldSet s.held c.at_ c.parts } evEnd (Or.inr (Or.inr (Or.inr (Or.inr (Or.inr (Or.inr (Or.inr rfl))))))) (by decide) _ base b _ _ HX.out ⟨HE.out, by have := HF.out.size; have := HF.out.lim; simp only []; omega, HF.out.lim, by simp only [heldSet_len]; omega, by omega⟩
        rw [part_end] at hhold
        have HHO := Lib.hid hhold
        clear hhold
        go_wp2_with fail
        refine HHO.out.mono ?_
        rintro e w5 ⟨rfl, hpost⟩
        have HPO := Lib.hid hpost
        clear hpost
        go_wp2_with fail
        go_ret2
        exact ⟨_, rfl, OwnsAny.nil _ _, StPost.trans KX.out SX.out HPO.out⟩
  · have hset : heldSet s.held c.at_ c.parts = s.held := by
      unfold heldSet
      rw [HP1.out]
      have e := HPC.out
      simp only [Cont.of, Cont.mk.injEq] at e
      have hl : p.loose = false := by
        unfold Ev.loose
        rw [e.2.1]
        simp [hneg]
      simp only [Ev.counted, hl, Bool.false_eq_true, if_false]
      exact set_same HP1.out
    have hx0 : StIn (w2.alloc (.cells #[.bool m, .int .i64 n] 43)).drew base b (.slice (some ⟨g, 0, none⟩) s.held.length cap) (.slice (some ⟨og, 0, none⟩) r.length ocap) { s with open_ := r, held := heldSet s.held c.at_ c.parts } := by
      rw [hset]; exact HS2.out.keep0 ((Keeps.refl [] _).alloc _).drew
    have hkx : Keeps (stBlks b (.slice (some ⟨g, 0, none⟩) s.held.length cap) (.slice (some ⟨og, 0, none⟩) (r.length + 1) ocap)) w (w2.alloc (.cells #[.bool m, .int .i64 n] 43)).drew := (HK2.out.alloc _).drew
    clear hset
    have SX := Lib.hid (fun i (hi : i ∈ stBlks b (.slice (some ⟨g, 0, none⟩) s.held.length cap) (.slice (some ⟨og, 0, none⟩) r.length ocap)) => (Or.inl (HSUB.out i hi) : i ∈ stBlks b (.slice (some ⟨g, 0, none⟩) s.held.length cap) (.slice (some ⟨og, 0, none⟩) (r.length + 1) ocap) ∨ w.heap.size ≤ i))
    obtain ⟨g0, g1, g2, g3, g4⟩ := st_facts hx0.blk
    obtain ⟨f0, f1, f2, f3, f4⟩ := st_free hx0.blk
    have hbx := hkx.size
    have HX := Lib.hid hx0
    have KX := Lib.hid hkx
    clear hx0 hkx
    cases r with
    | nil =>
      go_wp2_with (at_builtin; go_must (refine app_any rfl _ _ rfl base _ (heldSet s.held c.at_ c.parts) rfl (ownsRow_keeps HX.out.held ((Keeps.refl [] _).alloc _) (by simp)) ⟨_, 0, none⟩ 1 1 [evEnd] rfl rfl (new_part rfl (by first | (simp; done) | simp [World.setCell])) (by rw [heldSet_len]; omega) (Nat.le_trans hbase (KX.out.alloc _).size) ?_))
      intro v4 w4 hown4 hk4 _hnil hblk4
      obtain ⟨o4, c4, hv4⟩ := OwnsAny.shape hown4
      rw [List.length_append, List.length_singleton, heldSet_len] at hv4
      subst hv4
      have hout := close_out HX.out hown4 (((Keeps.refl _ _).alloc _).trans hk4) (hblk4.imp id (fun h => ⟨_, h, by simp⟩))
      have hb4 := (HX.out.blk.alloc _).keeps hk4 HX.out.bh
      obtain ⟨g0, g1, g2, g3, g4⟩ := st_facts hb4
      obtain ⟨f0, f1, f2, f3, f4⟩ := st_free hb4
      have HOUT := Lib.hid hout
      clear hout hb4 hown4 hk4 _hnil hblk4
      go_wp2_with fail
      go_ret2
      exact ⟨_, rfl, HOUT.out.1, StPost.trans KX.out SX.out HOUT.out.2⟩
    | cons c' r' =>
      have hhold := hold_any { s with open_ := c' :: r', held := heldSet s.held c.at_ c.parts } evEnd (Or.inr (Or.inr (Or.inr (Or.inr (Or.inr (Or.inr (Or.inr rfl))))))) (by decide) _ base b _ _ HX.out ⟨HE.out, by have := HF.out.size; have := HF.out.lim; simp only []; omega, HF.out.lim, by simp only [heldSet_len]; omega, by omega⟩
      rw [part_end] at hhold
      have HHO := Lib.hid hhold
      clear hhold
      go_wp2_with fail
      refine HHO.out.mono ?_
      rintro e w5 ⟨rfl, hpost⟩
      have HPO := Lib.hid hpost
      clear hpost
      go_wp2_with fail
      go_ret2
      exact ⟨_, rfl, OwnsAny.nil _ _, StPost.trans KX.out SX.out HPO.out⟩
end Go.Proofs.Ytmhkgfddlkdmgaa
