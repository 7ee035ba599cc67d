/-
  stage.Stage's Step: its contract, where a container begins; whatever comes.
-/
import Derived.Test.YtmhkgfddlkdmgaaStageStep
namespace Go.Proofs.Ytmhkgfddlkdmgaa
open Go.RowKit Go.Tru

set_option maxHeartbeats 1600000 in
set_option maxRecDepth 100000 in
theorem step_open (s : St) (p : Ev) (hp : Clear p) (hps : p.text.size ≤ 1000000) (w : World) (base b : Nat) (hv ov : Value) (h : StIn w base b hv ov s) (he : s.e = 0) (hf : s.Fit) (hbase : base ≤ w.heap.size) (c : StC) (r : List StC) (hop : s.open_ = c :: r) (hio : isOpen p = true) :
    Calls Try.prog 8 #[.pointer (some ⟨b, 0, none⟩), p.part] w (StepPost w base b hv ov (s.step p)) := by
  have h7 : p.kind ≠ 7 := by intro e; simp [isOpen, e] at hio
  have hs : s.step p = ([], (St.hold { s with open_ := ⟨s.held.length, 0⟩ :: bump (c :: r) } p).e, St.hold { s with open_ := ⟨s.held.length, 0⟩ :: bump (c :: r) } p) := by
    unfold St.step; rw [if_neg (by simp [he]), hop]; simp only []; rw [if_neg h7, if_pos hio]
  rw [hs]
  clear hs
  have hopn := h.opn
  rw [hop] at hopn
  obtain ⟨og, ocap, rfl, ob, ol, orr, om, oc1, oc2, of⟩ := OwnsOpn.some_ hopn
  have hc := hf.opens c (by rw [hop]; exact List.mem_cons_self ..)
  have hrl : r.length + 1 ≤ 2000 := by have h8 := hf.cnt; have := hf.size; have := hf.lim; rw [hop] at h8; simp only [List.length_cons] at h8; omega
  have hrl0 : ((r.length : Int) + 1 == 0) = false := beq_eq_false_iff_ne.2 (by omega)
  have hcp1 : 0 ≤ c.parts := hc.2.1
  have hcp2 : c.parts ≤ 2000 := by have := hc.2.2; have := hf.size; have := hf.lim; omega
  have hlen : s.held.length ≤ 2000 := by have := hf.size; have := hf.lim; omega
  unfold maxLen at om
  clear hc
  clear hopn
  obtain ⟨m, n, tb, tc, hcount⟩ := part_ways hp
  have hpl := fun W => plain_any p hp W
  obtain ⟨pv, hpv⟩ : ∃ pv, p.part = pv := ⟨_, rfl⟩
  rw [hpv] at hpl tb tc ⊢
  have hne : (s.e != 0) = false := by simpa using he
  obtain ⟨g0, g1, g2, g3, g4⟩ := st_facts h.blk
  have H := Lib.hid h
  have HPL := Lib.hid hpl
  have HPV := Lib.hid hpv
  have HE := Lib.hid he
  have HF := Lib.hid hf
  have HOP := Lib.hid hop
  clear h hpl hpv he hf hop
  rw [hio] at tb
  simp only [h7, decide_false] at tc
  clear hio h7 hcount
  go_enter Try.func8, Try.ntmps8
  go_wp2_with fail
  refine (HPL.out _).mono ?_
  rintro e w1 ⟨rfl, k1⟩
  have HS1 := Lib.hid (H.out.keep0 k1)
  have K1 := Lib.hid k1
  have hz1 := k1.size
  obtain ⟨g0, g1, g2, g3, g4⟩ := st_facts HS1.out.blk
  obtain ⟨f0, f1, f2, f3, f4⟩ := st_free HS1.out.blk
  have hbl1 := HS1.out.base_lt
  have hopn1 := HS1.out.opn
  rw [HOP.out] at hopn1
  obtain ⟨og', ocap', e1, _, ol1, _, _, oc1, oc2, of1⟩ := OwnsOpn.some_ hopn1
  simp only [Value.slice.injEq, Option.some.injEq, Addr.mk.injEq, and_true, true_and] at e1
  obtain ⟨rfl, rfl⟩ := e1
  have ofz := of1 (r.length * 2 + 1)
  have hbl2 : b < w1.heap.size + 1 := by omega
  have hbl3 : b < w1.heap.size + 1 + 1 := by omega
  have ol2 : og < w1.heap.size + 1 := by omega
  have ol3 : og < w1.heap.size + 1 + 1 := by omega
  clear of1 hopn1
  clear k1
  simp only [Ev.val, Ev.cells]
  go_wp2_with fail
  have HX := Lib.hid ((StIn.bump HS1.out HOP.out).keep0 (((Keeps.refl [] _).alloc (.cells #[.int .i64 p.kind, .bool p.yes, .int .u64 p.mag, .string p.text, .int .i64 p.count] 34)).alloc (.cells #[.bool m, .int .i64 n] 43) |>.alloc (.cells #[] 46)))
  have KX := Lib.hid (((((K1.out.mono (by simp)).setCell (F := stBlks b hv (.slice (some ⟨og, 0, none⟩) (r.length + 1) ocap)) (p := ⟨og, r.length * 2 + 1, none⟩) (Or.inl (List.mem_cons_of_mem _ (List.mem_append_right _ (by rw [mem_blks]; rfl)))) (.int .i64 (c.parts + 1))).alloc (.cells #[.int .i64 p.kind, .bool p.yes, .int .u64 p.mag, .string p.text, .int .i64 p.count] 34)).alloc (.cells #[.bool m, .int .i64 n] 43)).alloc (.cells #[] 46))
  have SX := Lib.hid (fun (i : Nat) (hi : i ∈ stBlks b hv (.slice (some ⟨og, 0, none⟩) (r.length + 1) ocap)) => (Or.inl hi : i ∈ stBlks b hv (.slice (some ⟨og, 0, none⟩) (r.length + 1) ocap) ∨ w.heap.size ≤ i))
  obtain ⟨ho', hc', rfl⟩ := HX.out.held.shape
  obtain ⟨g0, g1, g2, g3, g4⟩ := st_facts HX.out.blk
  obtain ⟨f0, f1, f2, f3, f4⟩ := st_free HX.out.blk
  have hblx := HX.out.base_lt
  have hbnd := KX.out.size
  go_region_law (rw [if_pos (by rfl)]; refine wp_append_opn _ _ rfl base _ (bump (c :: r)) rfl (ownsRow_keeps HX.out.opn (((Keeps.refl [] _).drew).alloc _) (by simp)) ⟨_, 0, none⟩ ⟨s.held.length, 0⟩ rfl (cells_new (StC.cells ⟨s.held.length, 0⟩) (by simp)) (by rw [bump_len]; simp only [List.length_cons]; omega) (Nat.le_trans hbase ((KX.out.drew).alloc _).size) ?_; intro v9 w9 hown9 hk9 hb9; obtain ⟨o9, c9, hv9⟩ := hown9.shape; subst hv9; have hpush := StIn.pushOpn HX.out hown9 ((((Keeps.refl _ _).drew).alloc _).trans hk9) (hb9.imp id (fun h => ⟨_, h, by simp⟩)); have h9 := ((HX.out.blk.drew).alloc _).keeps hk9 HX.out.bo; obtain ⟨g0, g1, g2, g3, g4⟩ := st_facts h9; obtain ⟨f0, f1, f2, f3, f4⟩ := st_free h9; have HPUSH := Lib.hid hpush; clear hpush h9 hown9 hk9 hb9)
  all_goals
    have HX2 := Lib.hid HPUSH.out.1
    have KX2 := Lib.hid (KX.out.trans' HPUSH.out.2.1 (by simpa using SX.out))
    have SX2 := Lib.hid (fun i hi => (HPUSH.out.2.2 i hi).elim (fun h => SX.out i h) (fun h => Or.inr (Nat.le_trans hbnd h)))
    clear HPUSH g0 g1 g2 g3 g4 f0 f1 f2 f3 f4
    go_wp2_with fail
    have hhold := hold_any { s with open_ := ⟨s.held.length, 0⟩ :: bump (c :: r) } p hp hps _ base b _ _ HX2.out ⟨HE.out, by have := HF.out.size; have := HF.out.lim; simp only []; omega, HF.out.lim, by simp only []; omega, Nat.le_trans hbase KX2.out.size⟩
    rw [HPV.out] at hhold
    refine hhold.mono ?_
    clear hhold
    rintro e w5 ⟨rfl, hpost⟩
    have HPO := Lib.hid hpost
    clear hpost
    go_wp2_with fail
    go_ret2
    exact ⟨_, rfl, OwnsAny.nil _ _, StPost.trans KX2.out SX2.out HPO.out⟩

set_option maxHeartbeats 1600000 in
set_option maxRecDepth 100000 in
theorem step_loose (s : St) (p : Ev) (hp : Clear p) (hps : p.text.size ≤ 1000000) (w : World) (base b : Nat) (hv ov : Value) (h : StIn w base b hv ov s) (he : s.e = 0) (hf : s.Fit) (hbase : base ≤ w.heap.size) (hop : s.open_ = []) (hl : p.loose = true) :
    Calls Try.prog 8 #[.pointer (some ⟨b, 0, none⟩), p.part] w (StepPost w base b hv ov (s.step p)) := by
  have hk : (p.kind = 5 ∨ p.kind = 6) ∧ p.count < 0 := by simpa [Ev.loose] using hl
  have hio : isOpen p = true := by simp [isOpen, hk.1]
  have h7 : p.kind ≠ 7 := by omega
  have hs : s.step p = ([], (St.hold { s with open_ := [⟨s.held.length, 0⟩] } p).e, St.hold { s with open_ := [⟨s.held.length, 0⟩] } p) := by
    unfold St.step; rw [if_neg (by simp [he]), hop]; simp only []; rw [if_pos hl]
  rw [hs]
  clear hs
  have hlen : s.held.length ≤ 2000 := by have := hf.size; have := hf.lim; omega
  have hopn := h.opn
  rw [hop] at hopn
  obtain ⟨oo, oc, rfl⟩ := hopn.shape
  simp only [List.length_nil] at *
  clear hopn
  obtain ⟨m, n, tb, tc, hcount⟩ := part_ways hp
  have hpl := fun W => plain_any p hp W
  obtain ⟨pv, hpv⟩ : ∃ pv, p.part = pv := ⟨_, rfl⟩
  rw [hpv] at hpl tb tc ⊢
  have hne : (s.e != 0) = false := by simpa using he
  obtain ⟨g0, g1, g2, g3, g4⟩ := st_facts h.blk
  have H := Lib.hid h
  have HPL := Lib.hid hpl
  have HPV := Lib.hid hpv
  have HE := Lib.hid he
  have HF := Lib.hid hf
  have HOP := Lib.hid hop
  clear h hpl hpv he hf hop
  rw [hio] at tb
  simp only [h7, decide_false] at tc
  have hn : n < 0 := by rw [← hcount hio]; exact hk.2
  clear hio h7 hcount hl hk
  go_enter Try.func8, Try.ntmps8
  go_wp2_with fail
  refine (HPL.out _).mono ?_
  rintro e w1 ⟨rfl, k1⟩
  have HS1 := Lib.hid (H.out.keep0 k1)
  have K1 := Lib.hid k1
  have hz1 := k1.size
  obtain ⟨g0, g1, g2, g3, g4⟩ := st_facts HS1.out.blk
  obtain ⟨f0, f1, f2, f3, f4⟩ := st_free HS1.out.blk
  have hbl1 := HS1.out.base_lt
  have hbl2 : b < w1.heap.size + 1 := by omega
  have hbl3 : b < w1.heap.size + 1 + 1 := by omega
  clear k1
  simp only [Ev.val, Ev.cells]
  go_wp2_with fail
  have HX := Lib.hid (HS1.out.keep0 (((Keeps.refl [] _).alloc (.cells #[.int .i64 p.kind, .bool p.yes, .int .u64 p.mag, .string p.text, .int .i64 p.count] 34)).alloc (.cells #[.bool m, .int .i64 n] 43) |>.alloc (.cells #[] 46)))
  have KX := Lib.hid ((((K1.out.mono (by simp : ∀ i ∈ [], i ∈ stBlks b hv (.slice oo 0 oc))).alloc (.cells #[.int .i64 p.kind, .bool p.yes, .int .u64 p.mag, .string p.text, .int .i64 p.count] 34)).alloc (.cells #[.bool m, .int .i64 n] 43)).alloc (.cells #[] 46))
  have SX := Lib.hid (fun (i : Nat) (hi : i ∈ stBlks b hv (.slice oo 0 oc)) => (Or.inl hi : i ∈ stBlks b hv (.slice oo 0 oc) ∨ w.heap.size ≤ i))
  have HN := Lib.hid (show OwnsOpn _ base (.slice oo 0 oc) [] from HOP.out ▸ HX.out.opn)
  obtain ⟨ho', hc', rfl⟩ := HX.out.held.shape
  obtain ⟨g0, g1, g2, g3, g4⟩ := st_facts HX.out.blk
  obtain ⟨f0, f1, f2, f3, f4⟩ := st_free HX.out.blk
  have hblx := HX.out.base_lt
  have hbnd := KX.out.size
  go_region_law (rw [if_pos (by rfl)]; refine wp_append_opn _ _ rfl base _ [] rfl (ownsRow_keeps HN.out (((Keeps.refl [] _).drew).alloc _) (by simp)) ⟨_, 0, none⟩ ⟨s.held.length, 0⟩ rfl (cells_new (StC.cells ⟨s.held.length, 0⟩) (by simp)) (by simp) (Nat.le_trans hbase ((KX.out.drew).alloc _).size) ?_; intro v9 w9 hown9 hk9 hb9; obtain ⟨o9, c9, hv9⟩ := hown9.shape; subst hv9; have hpush := StIn.pushOpn HX.out hown9 ((((Keeps.refl _ _).drew).alloc _).trans hk9) (hb9.imp id (fun h => ⟨_, h, by simp⟩)); have h9 := ((HX.out.blk.drew).alloc _).keeps hk9 HX.out.bo; obtain ⟨g0, g1, g2, g3, g4⟩ := st_facts h9; obtain ⟨f0, f1, f2, f3, f4⟩ := st_free h9; have HPUSH := Lib.hid hpush; clear hpush h9 hown9 hk9 hb9)
  all_goals
    have HX2 := Lib.hid HPUSH.out.1
    have KX2 := Lib.hid (KX.out.trans' HPUSH.out.2.1 (by simpa using SX.out))
    have SX2 := Lib.hid (fun i hi => (HPUSH.out.2.2 i hi).elim (fun h => SX.out i h) (fun h => Or.inr (Nat.le_trans hbnd h)))
    clear HPUSH g0 g1 g2 g3 g4 f0 f1 f2 f3 f4
    go_wp2_with fail
    have hhold := hold_any { s with open_ := [⟨s.held.length, 0⟩] } p hp hps _ base b _ _ HX2.out ⟨HE.out, by have := HF.out.size; have := HF.out.lim; simp only []; omega, HF.out.lim, by simp only []; omega, Nat.le_trans hbase KX2.out.size⟩
    rw [HPV.out] at hhold
    refine hhold.mono ?_
    clear hhold
    rintro e w5 ⟨rfl, hpost⟩
    have HPO := Lib.hid hpost
    clear hpost
    go_wp2_with fail
    go_ret2
    exact ⟨_, rfl, OwnsAny.nil _ _, StPost.trans KX2.out SX2.out HPO.out⟩

/-- Step, whatever comes. -/
theorem step_any (s : St) (p : Ev) (hp : Clear p) (hps : p.text.size ≤ 1000000) (w : World) (base b : Nat) (hv ov : Value) (h : StIn w base b hv ov s) (hf : s.Fit) (hbase : base ≤ w.heap.size) :
    Calls Try.prog 8 #[.pointer (some ⟨b, 0, none⟩), p.part] w (StepPost w base b hv ov (s.step p)) := by
  by_cases he : s.e = 0
  · cases hop : s.open_ with
    | nil =>
      cases hl : p.loose with
      | false => exact step_pass s p hp w base b hv ov h he hop hl hbase
      | true => exact step_loose s p hp hps w base b hv ov h he hf hbase hop hl
    | cons c r =>
      by_cases h7 : p.kind = 7
      · exact step_end s p hp w base b hv ov h he hf hbase c r hop h7
      · cases hio : isOpen p with
        | false => exact step_other s p hp hps w base b hv ov h he hf hbase c r hop h7 hio
        | true => exact step_open s p hp hps w base b hv ov h he hf hbase c r hop hio
  · exact step_bad s p w base b hv ov h he
end Go.Proofs.Ytmhkgfddlkdmgaa
