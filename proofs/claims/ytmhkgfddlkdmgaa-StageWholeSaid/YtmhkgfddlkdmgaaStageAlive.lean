/-
  truchmanlaw17.alive returns true.
-/
import Derived.Test.YtmhkgfddlkdmgaaPlainList
import Derived.Test.YtmhkgfddlkdmgaaStageStep2
namespace Go.Proofs.Ytmhkgfddlkdmgaa
open Go.RowKit Go.Tru

theorem stBlks_base {w : World} {base b : Nat} {hv ov : Value} {s : St} (h : StIn w base b hv ov s) (hb : base ≤ b) : ∀ i ∈ stBlks b hv ov, base ≤ i := by
  intro i hi
  rcases List.mem_cons.1 hi with rfl | hi
  · exact hb
  · rcases List.mem_append.1 hi with hi | hi
    · exact (World.ownsRow.lt h.held i (mem_blks.1 hi)).1
    · exact (World.ownsRow.lt h.opn i (mem_blks.1 hi)).1

/-- Step, over a law's memory: the Stage lies above B. -/
def Stepped (w0 w : World) (base b : Nat) (t : List Ev × Int × St) (r : Ending) (w' : World) : Prop :=
  ∃ v hv ov, r = .returned (.tuple #[v, .int .i64 t.2.1]) ∧ OwnsAny w' base v t.1 ∧ StIn w' base b hv ov t.2.2 ∧ Keeps [] w0 w' ∧ Below base w w' ∧ w.heap.size ≤ w'.heap.size

theorem stepped (s : St) (p : Ev) (hp : Clear p) (hps : p.text.size ≤ 1000000) (w0 w : World) (base b : Nat) (hv ov : Value) (h : StIn w base b hv ov s) (hf : s.Fit) (hbase : base ≤ w.heap.size) (hb : base ≤ b) (hw0 : w0.heap.size ≤ base) (k : Keeps [] w0 w) :
    Calls Try.prog 8 #[.pointer (some ⟨b, 0, none⟩), p.part] w (Stepped w0 w base b (s.step p)) := by
  refine (step_any s p hp hps w base b hv ov h hf hbase).mono ?_
  rintro e w' ⟨v, rfl, hown, hv', ov', h1, h2, h3⟩
  have hlow := stBlks_base h hb
  exact ⟨v, hv', ov', rfl, hown, h1, k.trans' h2 (fun i hi => Or.inr (Nat.le_trans hw0 (hlow i hi))), h2.below hbase hlow, h2.size⟩

set_option maxHeartbeats 1600000 in
set_option maxRecDepth 100000 in
theorem alive_any (w : World) : Calls Try.prog 4 #[] w fun e w' => e = .returned (.bool true) ∧ Keeps [] w w' := by
  go_enter Try.func4, Try.ntmps4
  go_wp2_with fail
  refine (new_any 9 w).mono ?_
  rintro e w1 ⟨rfl, h1, k1⟩
  have H1 := Lib.hid h1
  have K1 := Lib.hid k1
  have z1 := h1.base_lt
  clear h1 k1
  go_wp2_with fail
  have hst := stepped (St.new 9) (evArr (-1)) (Or.inr (Or.inr (Or.inr (Or.inr (Or.inr (Or.inl ⟨-1, by omega, rfl⟩)))))) (by decide) w w1 w.heap.size w.heap.size _ _ H1.out (fit_new (by omega)) (by omega) (Nat.le_refl _) (Nat.le_refl _) K1.out
  rw [part_arr, show (St.new 9).step (evArr (-1)) = ([], 0, ⟨9, [evArr (-1)], 1, [⟨0, 0⟩], 0⟩) from rfl] at hst
  refine hst.mono ?_
  clear hst
  rintro e w2 ⟨v2, hv2, ov2, rfl, hown2, h2, k2, _, z2⟩
  obtain ⟨a2, c2, rfl⟩ := hown2.shape
  have H2 := Lib.hid h2
  have K2 := Lib.hid k2
  clear hown2 h2 k2
  simp only [List.length_nil]
  go_wp2_with fail
  have hst := stepped ⟨9, [evArr (-1)], 1, [⟨0, 0⟩], 0⟩ evNull (Or.inl rfl) (by decide) w w2 w.heap.size w.heap.size _ _ H2.out ⟨by simp, by simp, by
    intro c hc
    simp only [List.mem_singleton] at hc
    subst hc
    exact ⟨⟨evArr (-1), rfl, Or.inr (Or.inr (Or.inr (Or.inr (Or.inr (Or.inl ⟨-1, by omega, rfl⟩))))), rfl⟩, by simp, by simp⟩, by simp, by simp, by simp⟩ (by omega) (Nat.le_refl _) (Nat.le_refl _) K2.out
  rw [part_null, show (⟨9, [evArr (-1)], 1, [⟨0, 0⟩], 0⟩ : St).step evNull = ([], 0, ⟨9, [evArr (-1), evNull], 2, [⟨0, 1⟩], 0⟩) from rfl] at hst
  refine hst.mono ?_
  clear hst
  rintro e w3 ⟨v3, hv3, ov3, rfl, hown3, h3, k3, _, z3⟩
  obtain ⟨a3, c3, rfl⟩ := hown3.shape
  have H3 := Lib.hid h3
  have K3 := Lib.hid k3
  clear hown3 h3 k3
  simp only [List.length_nil]
  go_wp2_with fail
  refine (held_any _ _ _ _ _ _ H3.out).mono ?_
  rintro e w4 ⟨rfl, rfl⟩
  simp only []
  go_wp2_with fail
  have hst := stepped ⟨9, [evArr (-1), evNull], 2, [⟨0, 1⟩], 0⟩ evEnd (Or.inr (Or.inr (Or.inr (Or.inr (Or.inr (Or.inr (Or.inr rfl))))))) (by decide) w w3 w.heap.size w.heap.size _ _ H3.out ⟨by simp, by simp, by
    intro c hc
    simp only [List.mem_singleton] at hc
    subst hc
    exact ⟨⟨evArr (-1), rfl, Or.inr (Or.inr (Or.inr (Or.inr (Or.inr (Or.inl ⟨-1, by omega, rfl⟩))))), rfl⟩, by simp, by simp⟩, by simp, by simp, by simp⟩ (by omega) (Nat.le_refl _) (Nat.le_refl _) K3.out
  rw [part_end, show (⟨9, [evArr (-1), evNull], 2, [⟨0, 1⟩], 0⟩ : St).step evEnd = ([evArr 1, evNull, evEnd], 0, ⟨9, [], 0, [], 0⟩) from rfl] at hst
  refine hst.mono ?_
  clear hst
  rintro e w5 ⟨v5, hv5, ov5, rfl, hown5, h5, k5, _, z5⟩
  obtain ⟨a5, c5, rfl, hin5⟩ := anysIn_of_owns hown5
  have H5 := Lib.hid h5
  have K5 := Lib.hid k5
  have HI := Lib.hid hin5
  clear hown5 h5 k5 hin5
  simp only [List.length_cons, List.length_nil]
  go_wp2_with fail
  refine (plainList_any a5 3 c5 _ w5 HI.out (by
    intro p hp
    simp only [List.mem_cons, List.not_mem_nil, or_false] at hp
    rcases hp with rfl | rfl | rfl
    · exact Or.inr (Or.inr (Or.inr (Or.inr (Or.inr (Or.inl ⟨1, by omega, rfl⟩)))))
    · exact Or.inl rfl
    · exact Or.inr (Or.inr (Or.inr (Or.inr (Or.inr (Or.inr (Or.inr rfl))))))) (by omega)).mono ?_
  rintro e w6 ⟨v6, rfl, hown6, k6⟩
  obtain ⟨a6, c6, rfl, hin6⟩ := evsIn_of_owns hown6
  obtain ⟨b6, f6, he6, q0, q1, q2, q3, q4⟩ := hin6.get (k := 0) (by simp) (by simp)
  subst he6
  have hr6 := hin6.room
  have hm6 := hin6.most
  unfold maxLen at hm6
  simp only [List.length_cons, List.length_nil, Nat.zero_mul, Nat.add_zero, List.getElem_cons_zero] at q0 q1 q2 q3 q4 hr6
  have H6 := Lib.hid (H5.out.keep0 k6)
  have K6 := Lib.hid (K5.out.trans k6)
  clear hown6 hin6 k6
  simp only [List.length_cons, List.length_nil]
  simp only [evArr, noText] at q0 q1 q2 q3 q4
  go_wp2_with fail
  refine (empty_any _ _ _ _ _ _ H6.out).mono ?_
  rintro e w7 ⟨rfl, rfl⟩
  simp only []
  go_wp2_with fail
  go_ret
  exact ⟨rfl, K6.out⟩
end Go.Proofs.Ytmhkgfddlkdmgaa
