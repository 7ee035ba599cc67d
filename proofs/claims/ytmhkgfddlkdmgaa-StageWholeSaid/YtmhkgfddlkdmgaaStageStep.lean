/-
  stage.Stage's Step: its contract.
-/
import Derived.Test.YtmhkgfddlkdmgaaStageWays
import Derived.Deep.RegionLaw
namespace Go.Proofs.Ytmhkgfddlkdmgaa
open Go.RowKit Go.Tru

/-- what Step leaves -/
def StepPost (w : World) (base b : Nat) (hv ov : Value) (t : List Ev × Int × St) (r : Ending) (w' : World) : Prop :=
  ∃ v, r = .returned (.tuple #[v, .int .i64 t.2.1]) ∧ OwnsAny w' base v t.1 ∧ StPost w base b hv ov t.2.2 w'

theorem stPost_same {w w' : World} {base b : Nat} {hv ov : Value} {s : St} (h : StIn w base b hv ov s) (k : Keeps [] w w') : StPost w base b hv ov s w' :=
  ⟨hv, ov, h.keep0 k, k.mono (by simp), fun i hi => Or.inl hi⟩

theorem step_bad (s : St) (p : Ev) (w : World) (base b : Nat) (hv ov : Value) (h : StIn w base b hv ov s) (he : s.e ≠ 0) :
    Calls Try.prog 8 #[.pointer (some ⟨b, 0, none⟩), p.part] w (StepPost w base b hv ov (s.step p)) := by
  have hs : s.step p = ([], s.e, s) := by unfold St.step; rw [if_pos he]
  rw [hs]
  have hne : (s.e != 0) = true := by simpa using he
  obtain ⟨g0, g1, g2, g3, g4⟩ := st_facts h.blk
  have H := Lib.hid h
  clear hs he h
  generalize p.part = pv
  go_enter Try.func8, Try.ntmps8
  go_wp2_with fail
  go_quiet (fail)
  go_wp2_with fail
  go_ret2
  exact ⟨_, rfl, OwnsAny.nil _ _, stPost_same H.out ((Keeps.refl [] _).drewN _)⟩

set_option maxHeartbeats 800000 in
set_option maxRecDepth 100000 in
theorem step_pass (s : St) (p : Ev) (hp : Clear p) (w : World) (base b : Nat) (hv ov : Value) (h : StIn w base b hv ov s) (he : s.e = 0) (ho : s.open_ = []) (hl : p.loose = false) (hf : base ≤ w.heap.size) :
    Calls Try.prog 8 #[.pointer (some ⟨b, 0, none⟩), p.part] w (StepPost w base b hv ov (s.step p)) := by
  have hs : s.step p = ([p], 0, s) := by unfold St.step; rw [if_neg (by simp [he]), ho]; simp only [hl]; rfl
  rw [hs]
  clear hs
  have hopn := h.opn
  rw [ho] at hopn
  obtain ⟨oo, oc, rfl⟩ := hopn.shape
  clear hopn ho
  obtain ⟨m, n, tb, tc, hcount⟩ := part_ways hp
  have hpl := fun W => plain_any p hp W
  obtain ⟨pv, hpv⟩ : ∃ pv, p.part = pv := ⟨_, rfl⟩
  have hform := part_form p
  rw [hpv] at hpl tb tc hform ⊢
  have hne : (s.e != 0) = false := by simpa using he
  obtain ⟨g0, g1, g2, g3, g4⟩ := st_facts h.blk
  have H := Lib.hid h
  have HPL := Lib.hid hpl
  have HPV := Lib.hid hpv
  have HE := Lib.hid he
  have HF := Lib.hid hf
  clear h hpl hpv he hf
  have hcase : isOpen p = false ∨ isOpen p = true ∧ 0 ≤ n := by
    cases hio : isOpen p with
    | false => exact Or.inl rfl
    | true =>
      refine Or.inr ⟨rfl, ?_⟩
      have h1 := hcount hio
      unfold Ev.loose at hl
      simp only [isOpen, decide_eq_true_eq] at hio
      simp only [decide_eq_false_iff_not, not_and] at hl
      have := hl hio
      omega
  clear hl hcount
  rcases hcase with hio | ⟨hio, hn⟩
  all_goals
    rw [hio] at tb
    clear hio
    rcases hform with rfl | ⟨T, v, rfl⟩
    all_goals
      go_enter Try.func8, Try.ntmps8
      go_wp2_with fail
      refine (HPL.out _).mono ?_
      rintro e w1 ⟨rfl, k1⟩
      have HS1 := Lib.hid (H.out.keep0 k1)
      have K1 := Lib.hid k1
      have hz1 := k1.size
      obtain ⟨g0, g1, g2, g3, g4⟩ := st_facts HS1.out.blk
      obtain ⟨f0, f1, f2, f3, f4⟩ := st_free HS1.out.blk
      have hbl1 := HS1.out.base_lt
      clear k1
      simp only [Ev.val, Ev.cells]
      go_wp2_with fail
      go_ret2
      exact ⟨_, rfl, lit_part HPV.out (by simp) (by have := HF.out; omega), stPost_same H.out (((K1.out.alloc _).alloc _).alloc _)⟩

set_option maxHeartbeats 800000 in
set_option maxRecDepth 100000 in
theorem step_end (s : St) (p : Ev) (hp : Clear p) (w : World) (base b : Nat) (hv ov : Value) (h : StIn w base b hv ov s) (he : s.e = 0) (hf : s.Fit) (hbase : base ≤ w.heap.size) (c : StC) (r : List StC) (hop : s.open_ = c :: r) (h7 : p.kind = 7) :
    Calls Try.prog 8 #[.pointer (some ⟨b, 0, none⟩), p.part] w (StepPost w base b hv ov (s.step p)) := by
  have hs : s.step p = s.close c r := by unfold St.step; rw [if_neg (by simp [he]), hop]; simp only []; rw [if_pos h7]
  rw [hs]
  clear hs
  have hopn := h.opn
  rw [hop] at hopn
  obtain ⟨og, ocap, rfl, ob, ol, orr, om, oc1, oc2, of⟩ := OwnsOpn.some_ hopn
  have hc := hf.opens c (by rw [hop]; exact List.mem_cons_self ..)
  have hrl : r.length + 1 ≤ 2000 := by have h8 := hf.cnt; have := hf.size; have := hf.lim; rw [hop] at h8; simp only [List.length_cons] at h8; omega
  have hrl0 : ((r.length : Int) + 1 == 0) = false := beq_eq_false_iff_ne.2 (by omega)
  unfold maxLen at om
  clear hopn
  obtain ⟨m, n, tb, tc, hcount⟩ := part_ways hp
  have hpl := fun W => plain_any p hp W
  obtain ⟨pv, hpv⟩ : ∃ pv, p.part = pv := ⟨_, rfl⟩
  rw [hpv] at hpl tb tc ⊢
  have hne : (s.e != 0) = false := by simpa using he
  obtain ⟨g0, g1, g2, g3, g4⟩ := st_facts h.blk
  have H := Lib.hid h
  have HPL := Lib.hid hpl
  have HPV := Lib.hid hpv
  have HE := Lib.hid he
  have HF := Lib.hid hf
  have HOP := Lib.hid hop
  clear h hpl hpv he hf hop
  have hio : isOpen p = false := by simp [isOpen, h7]
  rw [hio] at tb
  simp only [h7, decide_true] at tc
  clear hio h7 hcount
  go_enter Try.func8, Try.ntmps8
  go_wp2_with fail
  refine (HPL.out _).mono ?_
  rintro e w1 ⟨rfl, k1⟩
  have HS1 := Lib.hid (H.out.keep0 k1)
  have K1 := Lib.hid k1
  have hz1 := k1.size
  obtain ⟨g0, g1, g2, g3, g4⟩ := st_facts HS1.out.blk
  obtain ⟨f0, f1, f2, f3, f4⟩ := st_free HS1.out.blk
  have hbl1 := HS1.out.base_lt
  clear k1
  simp only [Ev.val, Ev.cells]
  go_wp2_with fail
  refine (close_any s c r HOP.out _ base b _ _ (HS1.out.keep0 (((Keeps.refl [] _).alloc _).alloc _ |>.alloc _)) HF.out HE.out (Nat.le_trans hbase (((K1.out.alloc _).alloc _).alloc _).size)).mono ?_
  rintro e w2 ⟨v2, rfl, hown, hpost⟩
  have HOWN := Lib.hid hown
  have HPO := Lib.hid hpost
  clear hown hpost
  go_wp2_with fail
  go_ret2
  exact ⟨_, rfl, HOWN.out, StPost.trans ((((K1.out.alloc _).alloc _).alloc _).mono (by simp)) (fun i hi => Or.inl hi) HPO.out⟩

set_option maxHeartbeats 800000 in
set_option maxRecDepth 100000 in
theorem step_other (s : St) (p : Ev) (hp : Clear p) (hps : p.text.size ≤ 1000000) (w : World) (base b : Nat) (hv ov : Value) (h : StIn w base b hv ov s) (he : s.e = 0) (hf : s.Fit) (hbase : base ≤ w.heap.size) (c : StC) (r : List StC) (hop : s.open_ = c :: r) (h7 : p.kind ≠ 7) (hio : isOpen p = false) :
    Calls Try.prog 8 #[.pointer (some ⟨b, 0, none⟩), p.part] w (StepPost w base b hv ov (s.step p)) := by
  have hs : s.step p = ([], (St.hold { s with open_ := bump (c :: r) } p).e, St.hold { s with open_ := bump (c :: r) } p) := by
    unfold St.step; rw [if_neg (by simp [he]), hop]; simp only []; rw [if_neg h7, hio]; rfl
  rw [hs]
  clear hs
  have hopn := h.opn
  rw [hop] at hopn
  obtain ⟨og, ocap, rfl, ob, ol, orr, om, oc1, oc2, of⟩ := OwnsOpn.some_ hopn
  have hc := hf.opens c (by rw [hop]; exact List.mem_cons_self ..)
  have hrl : r.length + 1 ≤ 2000 := by have h8 := hf.cnt; have := hf.size; have := hf.lim; rw [hop] at h8; simp only [List.length_cons] at h8; omega
  have hrl0 : ((r.length : Int) + 1 == 0) = false := beq_eq_false_iff_ne.2 (by omega)
  have hcp1 : 0 ≤ c.parts := hc.2.1
  have hcp2 : c.parts ≤ 2000 := by have := hc.2.2; have := hf.size; have := hf.lim; omega
  have hlen : s.held.length ≤ 2000 := by have := hf.size; have := hf.lim; omega
  unfold maxLen at om
  clear hc
  clear hopn
  obtain ⟨m, n, tb, tc, hcount⟩ := part_ways hp
  have hpl := fun W => plain_any p hp W
  obtain ⟨pv, hpv⟩ : ∃ pv, p.part = pv := ⟨_, rfl⟩
  rw [hpv] at hpl tb tc ⊢
  have hne : (s.e != 0) = false := by simpa using he
  obtain ⟨g0, g1, g2, g3, g4⟩ := st_facts h.blk
  have H := Lib.hid h
  have HPL := Lib.hid hpl
  have HPV := Lib.hid hpv
  have HE := Lib.hid he
  have HF := Lib.hid hf
  have HOP := Lib.hid hop
  clear h hpl hpv he hf hop
  rw [hio] at tb
  simp only [h7, decide_false] at tc
  clear hio h7 hcount
  go_enter Try.func8, Try.ntmps8
  go_wp2_with fail
  refine (HPL.out _).mono ?_
  rintro e w1 ⟨rfl, k1⟩
  have HS1 := Lib.hid (H.out.keep0 k1)
  have K1 := Lib.hid k1
  have hz1 := k1.size
  obtain ⟨g0, g1, g2, g3, g4⟩ := st_facts HS1.out.blk
  obtain ⟨f0, f1, f2, f3, f4⟩ := st_free HS1.out.blk
  have hbl1 := HS1.out.base_lt
  have hopn1 := HS1.out.opn
  rw [HOP.out] at hopn1
  obtain ⟨og', ocap', e1, _, ol1, _, _, oc1, oc2, of1⟩ := OwnsOpn.some_ hopn1
  simp only [Value.slice.injEq, Option.some.injEq, Addr.mk.injEq, and_true, true_and] at e1
  obtain ⟨rfl, rfl⟩ := e1
  have ofz := of1 (r.length * 2 + 1)
  have hbl2 : b < w1.heap.size + 1 := by omega
  have hbl3 : b < w1.heap.size + 1 + 1 := by omega
  have ol2 : og < w1.heap.size + 1 := by omega
  have ol3 : og < w1.heap.size + 1 + 1 := by omega
  clear of1 hopn1
  clear k1
  simp only [Ev.val, Ev.cells]
  go_wp2_with fail
  have HX := Lib.hid ((StIn.bump HS1.out HOP.out).keep0 (((Keeps.refl [] _).alloc (.cells #[.int .i64 p.kind, .bool p.yes, .int .u64 p.mag, .string p.text, .int .i64 p.count] 34)).alloc (.cells #[.bool m, .int .i64 n] 43) |>.alloc (.cells #[] 46)))
  have KX := Lib.hid (((((K1.out.mono (by simp)).setCell (F := stBlks b hv (.slice (some ⟨og, 0, none⟩) (r.length + 1) ocap)) (p := ⟨og, r.length * 2 + 1, none⟩) (Or.inl (List.mem_cons_of_mem _ (List.mem_append_right _ (by rw [mem_blks]; rfl)))) (.int .i64 (c.parts + 1))).alloc (.cells #[.int .i64 p.kind, .bool p.yes, .int .u64 p.mag, .string p.text, .int .i64 p.count] 34)).alloc (.cells #[.bool m, .int .i64 n] 43)).alloc (.cells #[] 46))
  have hhold := hold_any { s with open_ := bump (c :: r) } p hp hps _ base b _ _ HX.out ⟨HE.out, by have := HF.out.size; have := HF.out.lim; simp only []; omega, HF.out.lim, by simp only []; omega, Nat.le_trans hbase KX.out.size⟩
  rw [HPV.out] at hhold
  refine hhold.mono ?_
  clear hhold
  rintro e w5 ⟨rfl, hpost⟩
  have HPO := Lib.hid hpost
  clear hpost
  go_wp2_with fail
  go_ret2
  exact ⟨_, rfl, OwnsAny.nil _ _, StPost.trans KX.out (fun i hi => Or.inl hi) HPO.out⟩
end Go.Proofs.Ytmhkgfddlkdmgaa
