/-
  EventSame's walk.
-/
import Derived.Test.YtdjdbcppabiknaaEvAlive
namespace Go.Tru
theorem same_comm (a b : Ev) : a.same b = b.same a := by
  rw [Bool.eq_iff_iff, same_iff, same_iff]; exact eq_comm
/-- parts that are alike are of one kind -/
theorem tidy_kind {e p : Ev} (h : tidy e = some p) : p.kind = e.kind := by
  unfold tidy at h
  by_cases h0 : e.kind = 0
  · simp [h0] at h; subst h; exact h0.symm
  by_cases h1 : e.kind = 1
  · simp [h1] at h; subst h; exact h1.symm
  by_cases h2 : e.kind = 2
  · simp [h2] at h; subst h; exact h2.symm
  by_cases h3 : e.kind = 3
  · simp [h3] at h; subst h; exact h3.symm
  by_cases h4 : e.kind = 4
  · simp [h4] at h; subst h; exact h4.symm
  by_cases h5 : e.kind = 5
  · simp [h5] at h; obtain ⟨_, rfl⟩ := h; exact h5.symm
  by_cases h6 : e.kind = 6
  · simp [h6] at h; obtain ⟨_, rfl⟩ := h; exact h6.symm
  by_cases h7 : e.kind = 7
  · simp [h7] at h; subst h; exact h7.symm
  · simp [h0, h1, h2, h3, h4, h5, h6, h7] at h
end Go.Tru
namespace Go.Proofs.Ytdjdbcppabiknaa
open Go.RowKit Go.Tru

theorem ev_has {w : World} {b : Nat} {e : Ev} {t : TypeId} (h : Has w b e.cells t) : w.cell? ⟨b, 0, none⟩ = some (.int .i64 e.kind) ∧ w.cell? ⟨b, 1, none⟩ = some (.bool e.yes) ∧ w.cell? ⟨b, 2, none⟩ = some (.int .u64 e.mag) ∧
    w.cell? ⟨b, 3, none⟩ = some (.string e.text) ∧ w.cell? ⟨b, 4, none⟩ = some (.int .i64 e.count) :=
  ⟨h.cell 0, h.cell 1, h.cell 2, h.cell 3, h.cell 4⟩

set_option maxHeartbeats 1600000 in
theorem eventSame_walk (a b : Ev) (w : World) (fa : a.Fit) (fb : b.Fit) :
    Calls Try.prog 8 #[a.val, b.val] w fun e w' => e = .returned (.bool true) ∧ Below w.heap.size w w' := by
  refine Calls.mono (R := fun e w' => e = .returned (.bool true) ∧ Keeps [] w w') ?_ (fun e w' h => ⟨h.1, h.2.all⟩)
  have sa := fa.2.2.1
  have sb := fb.2.2.1
  unfold maxLen at sa sb
  simp only [Ev.val, Ev.cells]
  cases hta : tidy a with
  | none =>
    have HA := Lib.hid hta
    clear hta fa fb
    go_enter Try.func8, Try.ntmps8
    go_wp2_with fail
    refine (of_no a _ HA.out).mono ?_
    rintro e w1 ⟨rfl, k1⟩
    have K1 := Lib.hid k1
    have c1 : ∀ i, w1.cell? ⟨w.heap.size + 1, i, none⟩ = b.cells[i]? := (((Has.new' (w.alloc _) b.cells.toArray 32 (by simp)).keeps k1 (by simp)).conv (by simp)).cell
    have hz := k1.size
    simp only [World.size_alloc] at hz
    have c10 := c1 0
    have c11 := c1 1
    have c12 := c1 2
    have c13 := c1 3
    have c14 := c1 4
    simp only [Ev.cells, List.getElem?_cons_zero, List.getElem?_cons_succ] at c10 c11 c12 c13 c14
    clear k1 c1
    go_wp2_with fail
    cases htb : tidy b with
    | none =>
      have HB := Lib.hid htb
      clear htb
      refine (of_no b _ HB.out).mono ?_
      rintro e w2 ⟨rfl, k2⟩
      have K2 := Lib.hid k2
      clear k2
      go_wp2_with fail
      refine (alive_any _).mono ?_
      rintro e w3 ⟨rfl, k3⟩
      have K3 := Lib.hid k3
      clear k3
      go_wp2_with fail
      go_ret
      exact ⟨rfl, (((((Keeps.refl _ _).alloc _).alloc _).trans K1.out).trans K2.out).trans K3.out⟩
    | some q =>
      have HB := Lib.hid htb
      clear htb
      refine (of_yes b q _ HB.out).mono ?_
      rintro e w2 ⟨rfl, k2⟩
      have K2 := Lib.hid k2
      clear k2
      go_wp2_with fail
      refine (alive_any _).mono ?_
      rintro e w3 ⟨rfl, k3⟩
      have K3 := Lib.hid k3
      clear k3
      go_wp2_with fail
      go_ret
      exact ⟨rfl, (((((Keeps.refl _ _).alloc _).alloc _).trans K1.out).trans K2.out).trans K3.out⟩
  | some p =>
    have HA := Lib.hid hta
    have HCP := Lib.hid (tidy_clear hta)
    clear hta fa fb
    go_enter Try.func8, Try.ntmps8
    go_wp2_with fail
    refine (of_yes a p _ HA.out).mono ?_
    rintro e w1 ⟨rfl, k1⟩
    have K1 := Lib.hid (((Keeps.refl [] w).alloc _).alloc _ |>.trans k1)
    have ha1 : Has w1 w.heap.size a.cells 32 := (((Has.new' w a.cells.toArray 32 rfl).conv (by simp)).alloc _).keeps k1 (by simp)
    have hb1 : Has w1 (w.heap.size + 1) b.cells 32 := ((Has.new' (w.alloc _) b.cells.toArray 32 (by simp)).keeps k1 (by simp)).conv (by simp)
    obtain ⟨c10, c11, c12, c13, c14⟩ := ev_has hb1
    clear k1
    go_wp2_with fail
    clear c10 c11 c12 c13 c14
    cases htb : tidy b with
    | none =>
      have HB := Lib.hid htb
      clear htb
      refine (of_no b _ HB.out).mono ?_
      rintro e w2 ⟨rfl, k2⟩
      have K2 := Lib.hid k2
      clear k2
      go_wp2_with fail
      refine (alive_any _).mono ?_
      rintro e w3 ⟨rfl, k3⟩
      have K3 := Lib.hid k3
      clear k3
      go_wp2_with fail
      go_ret
      exact ⟨rfl, (K1.out.trans K2.out).trans K3.out⟩
    | some q =>
      have HB := Lib.hid htb
      have HCQ := Lib.hid (tidy_clear htb)
      clear htb
      refine (of_yes b q _ HB.out).mono ?_
      rintro e w2 ⟨rfl, k2⟩
      have K2 := Lib.hid (K1.out.trans k2)
      have ha2 := ha1.keeps k2 (by simp)
      have hb2 := hb1.keeps k2 (by simp)
      obtain ⟨_, _, _, a3, _⟩ := ev_has ha2
      obtain ⟨_, _, _, b3, _⟩ := ev_has hb2
      clear k2 ha1 hb1
      by_cases hlong : 300 < a.text.size ∨ (a.text.size ≤ 300 ∧ 300 < b.text.size)
      · rcases hlong with hl | ⟨hl, hl'⟩
        all_goals
          go_wp2_with fail
          refine (alive_any _).mono ?_
          rintro e w3 ⟨rfl, k3⟩
          have K3 := Lib.hid k3
          clear k3
          go_wp2_with fail
          go_ret
          exact ⟨rfl, K2.out.trans K3.out⟩
      · have hl1 : a.text.size ≤ 300 := by omega
        have hl2 : b.text.size ≤ 300 := by omega
        clear hlong
        go_wp2_with fail
        refine (alive_any _).mono ?_
        rintro e w3 ⟨rfl, k3⟩
        have K3 := Lib.hid (K2.out.trans k3)
        have ha3 := ha2.keeps k3 (by simp)
        have hb3 := hb2.keeps k3 (by simp)
        clear k3 ha2 hb2 a3 b3
        go_wp2_with fail
        refine (same_any p q HCP.out HCQ.out _).mono ?_
        rintro e w4 ⟨rfl, k4⟩
        have K4 := Lib.hid (K3.out.trans k4)
        have ha4 := ha3.keeps k4 (by simp)
        have hb4 := hb3.keeps k4 (by simp)
        clear k4 ha3 hb3
        go_wp2_with fail
        refine (same_any q p HCQ.out HCP.out _).mono ?_
        rintro e w5 ⟨rfl, k5⟩
        have K5 := Lib.hid (K4.out.trans k5)
        have ha5 := ha4.keeps k5 (by simp)
        have hb5 := hb4.keeps k5 (by simp)
        rw [same_comm q p]
        have hbb : ((p.same q) == (p.same q)) = true := by simp
        clear k5 ha4 hb4
        go_wp2_with fail
        refine (same_any p p HCP.out HCP.out _).mono ?_
        rintro e w6 ⟨rfl, k6⟩
        have K6 := Lib.hid (K5.out.trans k6)
        have ha6 := ha5.keeps k6 (by simp)
        have hb6 := hb5.keeps k6 (by simp)
        rw [same_self]
        clear k6 ha5 hb5
        go_wp2_with fail
        refine (same_any p q HCP.out HCQ.out _).mono ?_
        rintro e w7 ⟨rfl, k7⟩
        have K7 := Lib.hid (K6.out.trans k7)
        have ha7 := ha6.keeps k7 (by simp)
        have hb7 := hb6.keeps k7 (by simp)
        obtain ⟨a0, _, _, _, _⟩ := ev_has ha7
        obtain ⟨b0, _, _, _, _⟩ := ev_has hb7
        clear k7 ha6 hb6 hbb
        cases hsame : p.same q
        all_goals
          have HSA := Lib.hid hsame
          clear hsame
          have hkk : p.same q = true → (a.kind == b.kind) = true := fun h => by
            have := same_iff.1 h
            rw [beq_iff_eq, ← tidy_kind HA.out, ← tidy_kind HB.out, this]
          first | (have hk := hkk HSA.out) | skip
          clear hkk
          go_wp2_with fail
          refine (same_int p HCP.out _ _).mono ?_
          rintro e w8 ⟨rfl, k8⟩
          have K8 := Lib.hid (K7.out.trans k8)
          clear k8
          go_wp2_with fail
          refine (same_string _ _ _).mono ?_
          rintro e w9 ⟨rfl, k9⟩
          have K9 := Lib.hid (K8.out.trans k9)
          clear k9
          go_wp2_with fail
          go_ret
          exact ⟨rfl, K9.out⟩
end Go.Proofs.Ytdjdbcppabiknaa
