/-
  event.Check: its contract.
-/
import Derived.Test.YtmhkgfddlkdmgaaEv
import Derived.Test.YtmhkgfddlkdmgaaStack
import Derived.Test.YtmhkgfddlkdmgaaEvIn
namespace Go.Tru
def Cont.full (c : Cont) : Bool :=
  if c.count < 0 then !c.pairs || decide (c.parts % 2 = 0)
  else if c.pairs then decide (c.parts % 2 = 0) && decide (c.parts / 2 = c.count)
  else decide (c.parts = c.count)

def isOpen (p : Ev) : Bool := decide (p.kind = 5 ∨ p.kind = 6)
def Cont.of (p : Ev) : Cont := ⟨decide (p.kind = 6), p.count, 0⟩

def ckStep (s : List Cont) (done : Bool) (e : Ev) : Except Int (List Cont × Bool) :=
  match tidy e with
  | none => .error 2
  | some p =>
    if done then .error 2
    else match s with
    | [] => if p.kind = 7 then .error 2 else if isOpen p then .ok ([Cont.of p], false) else .ok ([], true)
    | c :: r =>
      if p.kind = 7 then (if c.full then .ok (r, r.isEmpty) else .error 2)
      else if c.pairs && decide (c.parts % 2 = 0) && decide (p.kind ≠ 3) then .error 8
      else if isOpen p then (if r.length + 1 = 16 then .error 4 else .ok (Cont.of p :: { c with parts := c.parts + 1 } :: r, false))
      else .ok ({ c with parts := c.parts + 1 } :: r, false)

def ckRun : List Cont → Bool → List Ev → Except Int (List Cont × Bool)
  | s, d, [] => .ok (s, d)
  | s, d, e :: es => match ckStep s d e with
    | .error x => .error x
    | .ok (s', d') => ckRun s' d' es

def check (es : List Ev) : Int := match ckRun [] false es with
  | .error x => x
  | .ok (_, d) => if d then 0 else 3

theorem ckRun_append (l m : List Ev) : ∀ (s : List Cont) (d : Bool), ckRun s d (l ++ m) = match ckRun s d l with
    | .error x => .error x
    | .ok (s', d') => ckRun s' d' m := by
  induction l with
  | nil => intro s d; rfl
  | cons e l ih =>
    intro s d
    simp only [List.cons_append, ckRun]
    cases ckStep s d e with
    | error x => rfl
    | ok y => exact ih y.1 y.2

theorem ckRun_snoc {es : List Ev} {k : Nat} (hk : k < es.length) {s : List Cont} {d : Bool} (h : ckRun [] false (es.take k) = .ok (s, d)) : ckRun [] false (es.take (k + 1)) = ckStep s d es[k] := by
  rw [List.take_succ_eq_append_getElem hk, ckRun_append, h]
  simp only [ckRun]
  cases ckStep s d es[k] <;> rfl

theorem check_err {es : List Ev} {k : Nat} (hk : k < es.length) {s : List Cont} {d : Bool} (h : ckRun [] false (es.take k) = .ok (s, d)) {x : Int} (hx : ckStep s d es[k] = .error x) : check es = x := by
  unfold check
  conv => lhs; rw [← List.take_append_drop (k + 1) es]
  rw [ckRun_append, ckRun_snoc hk h, hx]

theorem check_end {es : List Ev} {s : List Cont} {d : Bool} (h : ckRun [] false es = .ok (s, d)) : check es = if d then 0 else 3 := by
  unfold check; rw [h]

end Go.Tru
namespace Go.Proofs.Ytmhkgfddlkdmgaa
open Go.RowKit Go.Tru

theorem full_any (c : Cont) (w : World) (h : 0 ≤ c.parts) (h2 : c.parts ≤ 4611686018427387904) :
    Calls Try.prog 17 #[c.val] w fun r w' => r = .returned (.bool c.full) ∧ Keeps [] w w' := by
  obtain ⟨p, n, k⟩ := c
  simp only [Cont.val, Cont.cells] at *
  by_cases hn : n < 0
  · cases p
    · go_enter Try.func17, Try.ntmps17
      go_wp2
      go_ret
      exact ⟨ret_bool (by simp [Cont.full, hn]), (Keeps.refl _ _).alloc _⟩
    · go_enter Try.func17, Try.ntmps17
      go_wp2
      go_ret
      exact ⟨ret_bool (by rw [Bool.eq_iff_iff]; simp [Cont.full, hn]), (Keeps.refl _ _).alloc _⟩
  · cases p
    · go_enter Try.func17, Try.ntmps17
      go_wp2
      go_ret
      exact ⟨ret_bool (by rw [Bool.eq_iff_iff]; simp [Cont.full]; try (intro _; omega)), (Keeps.refl _ _).alloc _⟩
    · have hk : (k % 2 == 0) = true ∨ (k % 2 == 0) = false := by cases (k % 2 == 0) <;> simp
      rcases hk with hk | hk
      all_goals
        go_enter Try.func17, Try.ntmps17
        go_wp2
        go_ret
        refine ⟨ret_bool ?_, (Keeps.refl _ _).alloc _⟩
        simp only [beq_iff_eq, beq_eq_false_iff_ne, ne_eq] at hk
        rw [Bool.eq_iff_iff]; simp [Cont.full, hk]; try (intro _; omega)

theorem clear_end {p : Ev} (h : Clear p) (h7 : p.kind = 7) : p = evEnd := by
  rcases h with rfl | ⟨b, rfl⟩ | ⟨n, m, rfl⟩ | ⟨s, rfl⟩ | ⟨s, rfl⟩ | ⟨n, hn, rfl⟩ | ⟨n, hn, rfl⟩ | rfl <;> first | rfl | (simp [evNull, evBool, evInt, evText, evBytes, evArr, evMap] at h7)
theorem clear_text {p : Ev} (h : Clear p) (h7 : p.kind = 3) : ∃ s, p = evText s := by
  rcases h with rfl | ⟨b, rfl⟩ | ⟨n, m, rfl⟩ | ⟨s, rfl⟩ | ⟨s, rfl⟩ | ⟨n, hn, rfl⟩ | ⟨n, hn, rfl⟩ | rfl <;> first | exact ⟨_, rfl⟩ | (simp [evNull, evBool, evInt, evEnd, evBytes, evArr, evMap] at h7)
theorem clear_open {p : Ev} (h : Clear p) (h7 : isOpen p = true) : ∃ m n, -1 ≤ n ∧ p.part = .iface 43 (.agg #[.bool m, .int .i64 n]) ∧ Cont.of p = ⟨m, n, 0⟩ := by
  rcases h with rfl | ⟨b, rfl⟩ | ⟨n, m, rfl⟩ | ⟨s, rfl⟩ | ⟨s, rfl⟩ | ⟨n, hn, rfl⟩ | ⟨n, hn, rfl⟩ | rfl
  · simp [isOpen, evNull] at h7
  · simp [isOpen, evBool] at h7
  · simp [isOpen, evInt] at h7
  · simp [isOpen, evText] at h7
  · simp [isOpen, evBytes] at h7
  · exact ⟨false, n, hn, part_arr n, by simp [Cont.of, evArr]⟩
  · exact ⟨true, n, hn, part_map n, by simp [Cont.of, evMap]⟩
  · simp [isOpen, evEnd] at h7

/-- what v.(T) makes of a part that is no text, no container, no end -/
theorem clear_other {p : Ev} (h : Clear p) (h7 : p.kind ≠ 7) (h3 : p.kind ≠ 3) (ho : isOpen p = false) :
    (∀ w, (Instr.typeAssert p.part 20 46 true).run Try.prog w = .ok (.tuple #[.agg #[], .bool false]) w) ∧
    (∀ w, (Instr.typeAssert p.part 20 58 true).run Try.prog w = .ok (.tuple #[.string ⟨#[]⟩, .bool false]) w) ∧
    (∀ w, (Instr.typeAssert p.part 20 43 true).run Try.prog w = .ok (.tuple #[.agg #[.bool false, .int .i64 0], .bool false]) w) := by
  rcases h with rfl | ⟨b, rfl⟩ | ⟨n, m, rfl⟩ | ⟨s, rfl⟩ | ⟨s, rfl⟩ | ⟨n, hn, rfl⟩ | ⟨n, hn, rfl⟩ | rfl
  · rw [part_null]; exact ⟨ta_nil_Close, ta_nil_Word, ta_nil_Begin⟩
  · rw [part_bool]; exact ⟨ta_bool_Close _, ta_bool_Word _, ta_bool_Begin _⟩
  · rw [part_int]; exact ⟨ta_Whole_Close _, ta_Whole_Word _, ta_Whole_Begin _⟩
  · simp [evText] at h3
  · rw [part_bytes]; exact ⟨ta_Blob_Close _, ta_Blob_Word _, ta_Blob_Begin _⟩
  · simp [isOpen, evArr] at ho
  · simp [isOpen, evMap] at ho
  · simp [evEnd] at h7

theorem parts_more {s : List Cont} {k : Nat} (h : ∀ c ∈ s, 0 ≤ c.parts ∧ c.parts ≤ k) : ∀ c ∈ s, 0 ≤ c.parts ∧ c.parts ≤ ((k + 1 : Nat) : Int) := fun c hc => by have := h c hc; omega

theorem parts_top {c : Cont} {r : List Cont} {k : Nat} (h : ∀ x ∈ c :: r, 0 ≤ x.parts ∧ x.parts ≤ k) : ∀ x ∈ ({ c with parts := c.parts + 1 } : Cont) :: r, 0 ≤ x.parts ∧ x.parts ≤ ((k + 1 : Nat) : Int) := by
  intro x hx
  rcases List.mem_cons.1 hx with rfl | hx
  · have := h c (List.mem_cons_self ..)
    simp only []; omega
  · have := h x (List.mem_cons_of_mem _ hx); omega

theorem parts_push {m : Bool} {n : Int} {r : List Cont} {k : Nat} (h : ∀ x ∈ r, 0 ≤ x.parts ∧ x.parts ≤ k) : ∀ x ∈ (⟨m, n, 0⟩ : Cont) :: r, 0 ≤ x.parts ∧ x.parts ≤ k := by
  intro x hx
  rcases List.mem_cons.1 hx with rfl | hx
  · simp only []; omega
  · exact h x hx

theorem info_cont : (Try.prog.info? 70).map (fun i => (i.zero, i.size, i.bytes)) = some (some (.agg #[.bool false, .int .i64 0, .int .i64 0]), 3, 24) := by kernel_rfl

def CkRel (es : List Ev) (w : World) (v d i : Value) (wr : World) : Prop :=
  ∃ (k : Nat) (s : List Cont) (dn : Bool), k ≤ es.length ∧ i = .int .i64 k ∧ d = .bool dn ∧ ckRun [] false (es.take k) = .ok (s, dn) ∧ OwnsStk wr w.heap.size 70 v s ∧ s.length ≤ 16 ∧ (∀ c ∈ s, 0 ≤ c.parts ∧ c.parts ≤ k) ∧ Keeps [] w wr

set_option maxHeartbeats 4000000 in
set_option maxRecDepth 100000 in
theorem check_any (o : Option Addr) (n cp : Nat) (es : List Ev) (w : World) (h : EvsIn w o n cp es) (hn40 : n ≤ 1099511627776) :
    Calls Try.prog 11 #[.slice o n cp] w fun r w' => r = .returned (.int .i64 (check es)) ∧ Keeps [] w w' := by
  have m1 : n ≤ 9223372036854775807 := by have := h.room; have := h.most; unfold maxLen at *; omega
  have hl := h.len
  have H := Lib.hid h
  have L := Lib.hid hl
  clear h
  obtain ⟨i0, hi, hz0, hz1, hz2⟩ := info_parts info_cont
  go_enter Try.func11, Try.ntmps11
  go_wp2_with fail
  go_loopw [3, 4, 18] (fun v d i wr => CkRel es w v d i wr) (fun _ _ i _ => n - (intOf i).toNat)
  case atStart => exact ⟨0, [], false, Nat.zero_le _, rfl, rfl, rfl, OwnsStk.nil _ _ _, by simp, by simp, Keeps.refl _ _⟩
  case round =>
    obtain ⟨k, s, dn, hk, rfl, rfl, hrun, hown, hs16, hps, hK⟩ := hrel
    by_cases hlt : k < n
    · have hx : k < es.length := by omega
      obtain ⟨b1, f1, rfl, g0, g1, g2, g3, g4⟩ := (H.out.keeps hK).get hlt hx
      have HK := Lib.hid hK
      have HR := Lib.hid hrun
      have HO := Lib.hid hown
      clear hK hrun hown hl
      go_wp2_with fail
      cases hti : tidy es[k] with
      | none =>
        have HT := Lib.hid hti
        clear hti
        refine (of_no es[k] _ HT.out).mono ?_
        rintro e w1 ⟨rfl, k1⟩
        have K1 := Lib.hid k1
        clear k1
        go_wp2_with fail
        go_ret
        refine ⟨ret_int ?_, ((HK.out.alloc _).trans K1.out)⟩
        exact (check_err hx HR.out (x := 2) (by unfold ckStep; rw [HT.out])).symm
      | some p =>
        have HT := Lib.hid hti
        have HC := Lib.hid (tidy_clear hti)
        clear hti
        refine (of_yes es[k] p _ HT.out).mono ?_
        rintro e w1 ⟨rfl, k1⟩
        have K1 := Lib.hid k1
        have hz := HK.out.size
        have hzA := k1.size
        simp only [World.size_alloc] at hzA
        have hown1 : OwnsStk w1 w.heap.size 70 _ s := (HO.out.alloc _).kept (row := none) ⟨k1.os, k1.tape, k1.output, k1.size, fun i hi _ => k1.block i hi (by simp)⟩ (by cases Value.ownBlock _ <;> simp)
        have HO1 := Lib.hid hown1
        clear k1 HO hown1
        cases dn with
        | true =>
          go_wp2_with fail
          go_ret
          refine ⟨ret_int ?_, ((HK.out.alloc _).trans K1.out)⟩
          exact (check_err hx HR.out (x := 2) (by unfold ckStep; rw [HT.out]; rfl)).symm
        | false =>
          cases s with
          | nil =>
            obtain ⟨a, cap, rfl⟩ := HO1.out.shape
            clear hps hs16
            by_cases h7 : p.kind = 7
            · obtain rfl := clear_end HC.out h7
              rw [part_end]
              clear h7
              go_wp2_with fail
              go_ret
              refine ⟨ret_int ?_, ((HK.out.alloc _).trans K1.out).alloc _⟩
              exact (check_err hx HR.out (x := 2) (by unfold ckStep; rw [HT.out]; rfl)).symm
            · by_cases ho : isOpen p = true
              · obtain ⟨m, n', hn', hp, hcont⟩ := clear_open HC.out ho
                rw [hp]
                have HN := Lib.hid hcont
                have HOP := Lib.hid ho
                have H7 := Lib.hid h7
                clear hp hcont ho h7
                go_wp2_with (at_builtin; go_must (refine wpList_append_own _ rfl _ _ 68 rfl w.heap.size 70 i0 (.agg #[.bool false, .int .i64 0, .int .i64 0]) 3 24 Try.underlying68 hi hz0 hz1 hz2 rfl (by decide) _ _ _ rfl (((HO1.out.alloc _).alloc _).alloc _) ⟨_, 0, none⟩ 1 1 (Cont.cells ⟨m, n', 0⟩) rfl rfl (cells_new _ (by simp)) (cont_one _) (by simp [maxLen]) (by simp) (by simp only [World.size_alloc]; omega) ?_))
                intro v' w2 hown2 hgrow _hnil
                have HO2 := Lib.hid hown2
                have HG := Lib.hid hgrow
                have hbl := HO1.out.lt
                clear hown2 hgrow _hnil
                go_wp2_with fail
                go_roundw
                case rel =>
                  refine ⟨k + 1, [Cont.of p], false, by omega, by go_num, rfl, ?_, ?_, by simp, ?_, ?_⟩
                  · rw [ckRun_snoc hx HR.out]; unfold ckStep; rw [HT.out]; simp [H7.out, HOP.out]
                  · rw [HN.out]; exact HO2.out
                  · rw [HN.out]; simp; omega
                  · exact (((((HK.out.alloc _).trans K1.out).alloc _).alloc _).alloc _).grown HG.out (fun j hj => Or.inr (hbl j hj).1)
                case measure => simp [intOf]; omega
              · have ho' : isOpen p = false := by simpa using ho
                by_cases h3 : p.kind = 3
                · obtain ⟨tx, rfl⟩ := clear_text HC.out h3
                  rw [part_text]
                  clear h7 h3 ho ho'
                  go_wp2_with fail
                  go_roundw
                  case rel =>
                    refine ⟨k + 1, [], true, by omega, by go_num, rfl, ?_, HO1.out.alloc _ |>.alloc _, by simp, by simp, (((HK.out.alloc _).trans K1.out).alloc _).alloc _⟩
                    rw [ckRun_snoc hx HR.out]; unfold ckStep; rw [HT.out]; simp [evText, isOpen]
                  case measure => simp [intOf]; omega
                · obtain ⟨q1, q2, q3⟩ := clear_other HC.out h7 h3 ho'
                  have H7 := Lib.hid h7
                  have H3 := Lib.hid h3
                  have HN := Lib.hid ho'
                  generalize p.part = pv at *
                  clear h7 h3 ho ho'
                  go_wp2_with fail
                  go_roundw
                  case rel =>
                    refine ⟨k + 1, [], true, by omega, by go_num, rfl, ?_, HO1.out.alloc _ |>.alloc _, by simp, by simp, (((HK.out.alloc _).trans K1.out).alloc _).alloc _⟩
                    rw [ckRun_snoc hx HR.out]; unfold ckStep; rw [HT.out]; simp [H7.out, HN.out]
                  case measure => simp [intOf]; omega
          | cons c r =>
            obtain ⟨g, cap, rfl, hg1, hg2, hg3, hg4, t0, t1, t2, tf⟩ := HO1.out.some_
            have hr16 : r.length + 1 ≤ 16 := by simpa using hs16
            have hcp := hps c (List.mem_cons_self ..)
            have hcp1 := hcp.1
            have hcp2 := hcp.2
            have HPS := Lib.hid hps
            clear hs16 hcp hps
            by_cases h7 : p.kind = 7
            · obtain rfl := clear_end HC.out h7
              rw [part_end]
              clear h7
              go_wp2_with fail
              refine (full_any c _ hcp1 (by omega)).mono ?_
              rintro e w2 ⟨rfl, k2⟩
              have K2 := Lib.hid k2
              have hzB := k2.size
              simp only [World.size_alloc] at hzB
              have HO2 : Hid (OwnsStk w2 _ _ _ _) := (HO1.out.alloc _).kept (row := none) ⟨k2.os, k2.tape, k2.output, k2.size, fun i hi _ => k2.block i hi (by simp)⟩ (by simp [Value.ownBlock])
              clear k2
              cases hfull : c.full with
              | false =>
                have HF := Lib.hid hfull
                clear hfull
                go_wp2_with fail
                go_ret
                refine ⟨ret_int ?_, (((HK.out.alloc _).trans K1.out).alloc _).trans K2.out⟩
                exact (check_err hx HR.out (x := 2) (by unfold ckStep; rw [HT.out]; simp [HF.out, evEnd])).symm
              | true =>
                have HF := Lib.hid hfull
                clear hfull
                go_wp2_with fail
                go_roundw
                case rel =>
                  refine ⟨k + 1, r, r.isEmpty, by omega, by go_num, by rw [len_beq], ?_, HO2.out.pop, by omega, ?_, (((HK.out.alloc _).trans K1.out).alloc _).trans K2.out⟩
                  · rw [ckRun_snoc hx HR.out]; unfold ckStep; rw [HT.out]; simp [HF.out, evEnd]
                  · exact parts_more (fun x hx => HPS.out x (List.mem_cons_of_mem _ hx))
                case measure => simp [intOf]; omega
            · have hz9 := hr16
              -- what the test asks
              by_cases hpe : c.pairs = true ∧ c.parts % 2 = 0
              · obtain ⟨hpr, hev⟩ := hpe
                rw [hpr] at t0
                have hev' : (c.parts % 2 == 0) = true := by simp [hev]
                have HPR := Lib.hid hpr
                have HEV := Lib.hid hev
                clear hpr hev
                by_cases h3 : p.kind = 3
                · obtain ⟨tx, rfl⟩ := clear_text HC.out h3
                  rw [part_text]
                  clear h7 h3
                  go_wp2_with fail
                  go_roundw
                  case rel =>
                    refine ⟨k + 1, { c with parts := c.parts + 1 } :: r, false, by omega, by go_num, rfl, ?_, (HO1.out.setParts (c.parts + 1)).alloc _ |>.alloc _, hr16, ?_, (((((HK.out.alloc _).trans K1.out).setCell (p := ⟨g, _, none⟩) (Or.inr hg1) _).alloc _).alloc _)⟩
                    · rw [ckRun_snoc hx HR.out]; unfold ckStep; rw [HT.out]; simp only []; simp [evText, isOpen, HPR.out, HEV.out]
                    · exact parts_top HPS.out
                  case measure => simp [intOf]; omega
                · by_cases ho : isOpen p = true
                  · obtain ⟨m, n', hn', hp, hcont⟩ := clear_open HC.out ho
                    rw [hp]
                    have H3 := Lib.hid h3
                    have H7 := Lib.hid h7
                    clear h7 h3 ho hcont hp
                    go_wp2_with fail
                    go_ret
                    refine ⟨ret_int ?_, ((HK.out.alloc _).trans K1.out).alloc _⟩
                    exact (check_err hx HR.out (x := 8) (by unfold ckStep; rw [HT.out]; simp [H7.out, H3.out, HPR.out, HEV.out])).symm
                  · have ho' : isOpen p = false := by simpa using ho
                    obtain ⟨q1, q2, q3⟩ := clear_other HC.out h7 h3 ho'
                    have H7 := Lib.hid h7
                    have H3 := Lib.hid h3
                    generalize p.part = pv at *
                    clear h7 h3 ho ho'
                    go_wp2_with fail
                    go_ret
                    refine ⟨ret_int ?_, ((HK.out.alloc _).trans K1.out).alloc _⟩
                    exact (check_err hx HR.out (x := 8) (by unfold ckStep; rw [HT.out]; simp [H7.out, H3.out, HPR.out, HEV.out])).symm
              · have hcase : c.pairs = false ∨ (c.pairs = true ∧ (c.parts % 2 == 0) = false) := by
                  cases hq : c.pairs
                  · exact Or.inl rfl
                  · exact Or.inr ⟨rfl, by have := fun h => hpe ⟨hq, h⟩; simpa using this⟩
                have HPE := Lib.hid hpe
                clear hpe
                have hstep : (c.pairs && decide (c.parts % 2 = 0) && decide (p.kind ≠ 3)) = false := by
                  rcases hcase with h | ⟨h, h'⟩
                  · simp [h]
                  · simp only [beq_eq_false_iff_ne, ne_eq] at h'; simp [h']
                have HST := Lib.hid hstep
                clear hstep
                rcases hcase with hpr | ⟨hpr, hod⟩
                all_goals
                  rw [hpr] at t0
                  clear hpr
                  by_cases h3 : p.kind = 3
                  · obtain ⟨tx, rfl⟩ := clear_text HC.out h3
                    rw [part_text]
                    clear h7 h3
                    go_wp2_with fail
                    go_roundw
                    case rel =>
                      refine ⟨k + 1, { c with parts := c.parts + 1 } :: r, false, by omega, by go_num, rfl, ?_, (HO1.out.setParts (c.parts + 1)).alloc _ |>.alloc _, hr16, ?_, (((((HK.out.alloc _).trans K1.out).setCell (p := ⟨g, _, none⟩) (Or.inr hg1) _).alloc _).alloc _)⟩
                      · rw [ckRun_snoc hx HR.out]; unfold ckStep; rw [HT.out]; simp only []; rw [HST.out]; simp [evText, isOpen]
                      · exact parts_top HPS.out
                    case measure => simp [intOf]; omega
                  · by_cases ho : isOpen p = true
                    · obtain ⟨m, n', hn', hp, hcont⟩ := clear_open HC.out ho
                      rw [hp]
                      have HN := Lib.hid hcont
                      have HOP := Lib.hid ho
                      have H7 := Lib.hid h7
                      clear hp hcont ho h7 h3
                      by_cases hd : r.length + 1 = 16
                      · have hd' : (((r.length : Int) + 1) == 16) = true := by simp; omega
                        have HD := Lib.hid hd
                        clear hd
                        go_wp2_with fail
                        go_ret
                        refine ⟨ret_int ?_, (((((HK.out.alloc _).trans K1.out).setCell (p := ⟨g, _, none⟩) (Or.inr hg1) _).alloc _).alloc _)⟩
                        exact (check_err hx HR.out (x := 4) (by unfold ckStep; rw [HT.out]; simp only []; rw [HST.out]; simp [H7.out, HOP.out, HD.out])).symm
                      · have hd' : (((r.length : Int) + 1) == 16) = false := by simp; omega
                        have HD := Lib.hid hd
                        go_wp2_with (at_builtin; go_must (refine wpList_append_own _ rfl _ _ 68 rfl w.heap.size 70 i0 (.agg #[.bool false, .int .i64 0, .int .i64 0]) 3 24 Try.underlying68 hi hz0 hz1 hz2 rfl (by decide) _ _ _ rfl (((HO1.out.setParts (c.parts + 1)).alloc _).alloc _ |>.alloc _) ⟨_, 0, none⟩ 1 1 (Cont.cells ⟨m, n', 0⟩) rfl rfl (cells_new _ (by simp)) (cont_one _) (by simp only [List.length_cons]; unfold maxLen; omega) (by simp only [List.length_cons]; omega) (by simp only [World.size_alloc, World.size_setCell]; omega) ?_))
                        intro v' w2 hown2 hgrow _hnil
                        have HO2 := Lib.hid hown2
                        have HG := Lib.hid hgrow
                        clear hown2 hgrow _hnil
                        go_wp2_with fail
                        go_roundw
                        case rel =>
                          refine ⟨k + 1, Cont.of p :: { c with parts := c.parts + 1 } :: r, false, by omega, by go_num, rfl, ?_, ?_, by simp; omega, ?_, ?_⟩
                          · rw [ckRun_snoc hx HR.out]; unfold ckStep; rw [HT.out]; simp only []; rw [HST.out]; simp [H7.out, HOP.out, HD.out]
                          · rw [HN.out]; exact OwnsStk.push HO2.out rfl
                          · rw [HN.out]; exact parts_push (parts_top HPS.out)
                          · exact ((((((HK.out.alloc _).trans K1.out).setCell (p := ⟨g, _, none⟩) (Or.inr hg1) _).alloc _).alloc _).alloc _).grown HG.out (fun j hj => by simp only [Value.ownBlock, Option.some.injEq] at hj; exact Or.inr (hj ▸ hg1))
                        case measure => simp [intOf]; omega
                    · have ho' : isOpen p = false := by simpa using ho
                      obtain ⟨q1, q2, q3⟩ := clear_other HC.out h7 h3 ho'
                      have H7 := Lib.hid h7
                      have HN := Lib.hid ho'
                      generalize p.part = pv at *
                      clear h7 h3 ho ho'
                      go_wp2_with fail
                      go_roundw
                      case rel =>
                        refine ⟨k + 1, { c with parts := c.parts + 1 } :: r, false, by omega, by go_num, rfl, ?_, (HO1.out.setParts (c.parts + 1)).alloc _ |>.alloc _, hr16, ?_, (((((HK.out.alloc _).trans K1.out).setCell (p := ⟨g, _, none⟩) (Or.inr hg1) _).alloc _).alloc _)⟩
                        · rw [ckRun_snoc hx HR.out]; unfold ckStep; rw [HT.out]; simp only []; rw [HST.out]; simp [H7.out, HN.out]
                        · exact parts_top HPS.out
                      case measure => simp [intOf]; omega
    · have e1 : es.take k = es := List.take_of_length_le (by omega)
      rw [e1] at hrun
      have HR := Lib.hid hrun
      have HK := Lib.hid hK
      clear hrun hK e1
      cases dn
      all_goals
        go_wp2_with fail
        go_ret
        exact ⟨ret_int (by rw [check_end HR.out]; rfl), HK.out⟩
end Go.Proofs.Ytmhkgfddlkdmgaa
