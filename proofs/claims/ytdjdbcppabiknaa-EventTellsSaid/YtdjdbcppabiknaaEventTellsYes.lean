/-
  EventTells' walk: two parts that may be.
-/
import Derived.Test.YtdjdbcppabiknaaEventTells
namespace Go.Proofs.Ytdjdbcppabiknaa
open Go.RowKit Go.Tru

set_option maxHeartbeats 4000000 in
set_option maxRecDepth 100000 in
theorem eventTells_yes (a b p q : Ev) (w : World) (ha : a.text.size ≤ 300) (hb : b.text.size ≤ 300) (hta : tidy a = some p) (htb : tidy b = some q) :
    Calls Try.prog 7 #[a.val, b.val] w fun e w' => e = .returned (.bool true) ∧ Keeps [] w w' := by
  have hps : p.text.size ≤ maxLen - 1 := by have := tidy_text hta; unfold maxLen; omega
  have HPS := Lib.hid hps
  have HCP := Lib.hid (tidy_clear hta)
  have HCQ := Lib.hid (tidy_clear htb)
  have HTA := Lib.hid hta
  have HTB := Lib.hid htb
  have HKP := Lib.hid (tidy_kind hta)
  clear hta htb hps
  simp only [Ev.val, Ev.cells]
  go_enter Try.func7, Try.ntmps7
  go_wp2_with fail
  refine (alive_any _).mono ?_
  rintro e w1 ⟨rfl, k1⟩
  have HA := Lib.hid (((Has.new w a.cells 32).alloc (.cells b.cells.toArray 32)).keeps k1 (by simp))
  have HB := Lib.hid ((Has.new' (w.alloc (.cells a.cells.toArray 32)) b.cells.toArray 32 (n := w.heap.size + 1) (by simp)).keeps k1 (by simp))
  have K1 := Lib.hid ((((Keeps.refl [] w).alloc _).alloc _).trans k1)
  obtain ⟨a0, a1, a2, a3, a4⟩ := ev_facts HA.out
  obtain ⟨b0, b1, b2, b3, b4⟩ := ev_facts HB.out
  clear k1
  go_wp2_with fail
  refine (of_yes a p _ HTA.out).mono ?_
  rintro e w2 ⟨rfl, k2⟩
  have HA2 := Lib.hid (HA.out.keeps k2 (by simp))
  have HB2 := Lib.hid (HB.out.keeps k2 (by simp))
  have K2 := Lib.hid (K1.out.trans k2)
  obtain ⟨a0, a1, a2, a3, a4⟩ := ev_facts HA2.out
  obtain ⟨b0, b1, b2, b3, b4⟩ := ev_facts HB2.out
  clear k2 HA HB K1
  obtain ⟨pv, hpv⟩ : ∃ pv, pv = p.part := ⟨_, rfl⟩
  obtain ⟨qv, hqv⟩ : ∃ qv, qv = q.part := ⟨_, rfl⟩
  rw [← hpv]
  have HPV := Lib.hid hpv
  have HQV := Lib.hid hqv
  clear hpv hqv
  go_wp2_with fail
  refine (of_yes b q _ HTB.out).mono ?_
  rintro e w3 ⟨rfl, k3⟩
  rw [← HQV.out]
  have HA3 := Lib.hid (HA2.out.keeps k3 (by simp))
  have HB3 := Lib.hid (HB2.out.keeps k3 (by simp))
  have K3 := Lib.hid (K2.out.trans k3)
  obtain ⟨a0, a1, a2, a3, a4⟩ := ev_facts HA3.out
  obtain ⟨b0, b1, b2, b3, b4⟩ := ev_facts HB3.out
  clear k3 HA2 HB2 K2
  go_wp2_with fail
  refine (may_any a _).mono ?_
  rintro e w4 ⟨rfl, k4⟩
  rw [may_of HTA.out]
  have HA4 := Lib.hid (HA3.out.keeps k4 (by simp))
  have HB4 := Lib.hid (HB3.out.keeps k4 (by simp))
  have K4 := Lib.hid (K3.out.trans k4)
  obtain ⟨b0, b1, b2, b3, b4⟩ := ev_facts HB4.out
  clear k4 HA3 HB3 K3
  go_wp2_with fail
  refine (may_any b _).mono ?_
  rintro e w5 ⟨rfl, k5⟩
  rw [may_of HTB.out]
  have HA5 := Lib.hid (HA4.out.keeps k5 (by simp))
  have HB5 := Lib.hid (HB4.out.keeps k5 (by simp))
  have K5 := Lib.hid (K4.out.trans k5)
  clear k5 HA4 HB4 K4
  go_wp2_with fail
  have hpl := plain_any p HCP.out w5
  rw [← HPV.out] at hpl
  refine hpl.mono ?_
  clear hpl
  rintro e w6 ⟨rfl, k6⟩
  have hz6 := k6.size
  have HA6 := Lib.hid (HA5.out.keeps k6 (by simp))
  have HB6 := Lib.hid (HB5.out.keeps k6 (by simp))
  have K6 := Lib.hid (K5.out.trans k6)
  clear k6 HA5 HB5 K5
  simp only [Ev.val, Ev.cells]
  go_wp2_with fail
  have hpl := fun W => plain_any q HCQ.out W
  rw [← HQV.out] at hpl
  refine (hpl _).mono ?_
  clear hpl
  rintro e w7 ⟨rfl, k7⟩
  have hX := ((Has.new w6 p.cells 32).keeps k7 (by simp)).alloc (.cells q.cells.toArray 32)
  have hY := Has.new w7 q.cells 32
  have hA := ((HA6.out.alloc (.cells p.cells.toArray 32)).keeps k7 (by simp)).alloc (.cells q.cells.toArray 32)
  have hB := ((HB6.out.alloc (.cells p.cells.toArray 32)).keeps k7 (by simp)).alloc (.cells q.cells.toArray 32)
  have K7 := Lib.hid (((K6.out.alloc (.cells p.cells.toArray 32)).trans k7).alloc (.cells q.cells.toArray 32))
  have HX := Lib.hid (fun (w' : World) (k : Keeps [] _ w') => ev_facts (hX.keeps k (by simp)))
  have HY := Lib.hid (fun (w' : World) (k : Keeps [] _ w') => ev_facts (hY.keeps k (by simp)))
  have HA := Lib.hid (fun (w' : World) (k : Keeps [] _ w') => ev_facts (hA.keeps k (by simp)))
  have HB := Lib.hid (fun (w' : World) (k : Keeps [] _ w') => ev_facts (hB.keeps k (by simp)))
  have HAA := Lib.hid hA
  clear hX hY hA hB k7 HA6 HB6 K6
  have hsm := fun W => same_any p q HCP.out HCQ.out W
  have hsz := fun W => size_any p HCP.out HPS.out W
  have hrz := fun W => refSize_any p HCP.out HPS.out W
  rw [← HPV.out] at hsz hsm
  rw [← HQV.out] at hsm
  have heq : ∀ W, (binOp .eql 32 (.agg #[.int .i64 p.kind, .bool p.yes, .int .u64 p.mag, .string p.text, .int .i64 p.count]) (.agg #[.int .i64 q.kind, .bool q.yes, .int .u64 q.mag, .string q.text, .int .i64 q.count])).run Try.prog W = .ok (.bool (p.same q)) W := fun W => eql_ev p q W
  generalize p.same q = R at hsm heq
  generalize p.size = z at hsz hrz
  have hR : (R != R) = false := by simp
  have hZ : (z != z) = false := by simp
  have hnp : ∀ W, (binOp .neq 32 (.agg #[.int .i64 p.kind, .bool p.yes, .int .u64 p.mag, .string p.text, .int .i64 p.count]) (.agg #[.int .i64 p.kind, .bool p.yes, .int .u64 p.mag, .string p.text, .int .i64 p.count])).run Try.prog W = .ok (.bool false) W := fun W => neq_ev p W
  have hnq : ∀ W, (binOp .neq 32 (.agg #[.int .i64 q.kind, .bool q.yes, .int .u64 q.mag, .string q.text, .int .i64 q.count]) (.agg #[.int .i64 q.kind, .bool q.yes, .int .u64 q.mag, .string q.text, .int .i64 q.count])).run Try.prog W = .ok (.bool false) W := fun W => neq_ev q W
  have HSM := Lib.hid hsm
  have HSZ := Lib.hid hsz
  have HRZ := Lib.hid hrz
  clear hsm hsz hrz
  clear a0 a1 a2 a3 a4 b0 b1 b2 b3 b4
  simp only [Ev.val, Ev.cells]
  simp only [Ev.cells] at HX HY HA HB
  go_wp2_with fail
  refine wp_region_held_drew (S := fun w' => Keeps [] (w7.alloc (.cells #[.int .i64 q.kind, .bool q.yes, .int .u64 q.mag, .string q.text, .int .i64 q.count] 32)) w') (by kernel_rfl) ((Keeps.refl [] _).drew) (fun hHeld => ?_)
  have HH := Lib.hid hHeld
  clear hHeld
  refine wpAnyH_take (i := 0) (v := ?_) rfl (by kernel_rfl) (by kernel_rfl) (by kernel_rfl) (fun _ _ _ h => h) (Or.inl ⟨by rfl, ?_⟩) HH.out ?_
  rotate_left 1
  first | (intro w hSw; clear hSw; go_simp; done) | (intro w hSw; clear hSw; go_simp; with_reducible rfl)
  try simp only [List.getElem_toArray, List.getElem_cons_zero, Act.put, List.setIfInBounds_toArray, List.set_cons_zero, List.set_cons_succ]
  refine wpAnyH_take (i := 1) (v := ?_) rfl (by kernel_rfl) (by kernel_rfl) (by kernel_rfl) (fun _ _ _ h => h) (Or.inl ⟨by rfl, ?_⟩) HH.out ?_
  rotate_left 1
  first | (intro w hSw; clear hSw; go_simp; done) | (intro w hSw; clear hSw; go_simp; with_reducible rfl)
  try simp only [List.getElem_toArray, List.getElem_cons_zero, List.getElem_cons_succ, Act.put, List.setIfInBounds_toArray, List.set_cons_zero, List.set_cons_succ]
  refine wpAnyH_take (i := 2) (v := ?_) rfl (by kernel_rfl) (by kernel_rfl) (by kernel_rfl) (fun _ _ _ h => h) (Or.inl ⟨by rfl, ?_⟩) HH.out ?_
  rotate_left 1
  first | (intro w hSw; clear hSw; go_simp; done) | (intro w hSw; clear hSw; go_simp; with_reducible rfl)
  try simp only [List.getElem_toArray, List.getElem_cons_zero, List.getElem_cons_succ, Act.put, List.setIfInBounds_toArray, List.set_cons_zero, List.set_cons_succ]
  refine wpAnyH_take (i := 3) (v := ?_) rfl (by kernel_rfl) (by kernel_rfl) (by kernel_rfl) (fun _ _ _ h => h) (Or.inl ⟨by rfl, ?_⟩) HH.out ?_
  rotate_left 1
  first | (intro w hSw; clear hSw; go_simp; done) | (intro w hSw; clear hSw; go_simp; with_reducible rfl)
  try simp only [List.getElem_toArray, List.getElem_cons_zero, List.getElem_cons_succ, Act.put, List.setIfInBounds_toArray, List.set_cons_zero, List.set_cons_succ]
  refine wpAnyH_take (i := 4) (v := ?_) rfl (by kernel_rfl) (by kernel_rfl) (by kernel_rfl) (fun _ _ _ h => h) (Or.inl ⟨by rfl, ?_⟩) HH.out ?_
  rotate_left 1
  first | (intro w hSw; clear hSw; go_simp; done) | (intro w hSw; clear hSw; go_simp; with_reducible rfl)
  try simp only [List.getElem_toArray, List.getElem_cons_zero, List.getElem_cons_succ, Act.put, List.setIfInBounds_toArray, List.set_cons_zero, List.set_cons_succ]
  refine wpAnyH_take (i := 5) (v := ?_) rfl (by kernel_rfl) (by kernel_rfl) (by kernel_rfl) (fun _ _ _ h => h) (Or.inl ⟨by rfl, ?_⟩) HH.out ?_
  rotate_left 1
  first | (intro w hSw; clear hSw; go_simp; done) | (intro w hSw; clear hSw; go_simp; with_reducible rfl)
  try simp only [List.getElem_toArray, List.getElem_cons_zero, List.getElem_cons_succ, Act.put, List.setIfInBounds_toArray, List.set_cons_zero, List.set_cons_succ]
  refine wpAnyH_take (i := 6) (v := ?_) rfl (by kernel_rfl) (by kernel_rfl) (by kernel_rfl) (fun _ _ _ h => h) (Or.inl ⟨by rfl, ?_⟩) HH.out ?_
  rotate_left 1
  first | (intro w hSw; clear hSw; go_simp; done) | (intro w hSw; clear hSw; go_simp; with_reducible rfl)
  try simp only [List.getElem_toArray, List.getElem_cons_zero, List.getElem_cons_succ, Act.put, List.setIfInBounds_toArray, List.set_cons_zero, List.set_cons_succ]
  refine wpAnyH_take (i := 7) (v := ?_) rfl (by kernel_rfl) (by kernel_rfl) (by kernel_rfl) (fun _ _ _ h => h) (Or.inl ⟨by rfl, ?_⟩) HH.out ?_
  rotate_left 1
  first | (intro w hSw; have hSf := HX.out w hSw; clear hSw; go_simp; done) | (intro w hSw; have hSf := HX.out w hSw; clear hSw; go_simp; with_reducible rfl)
  try simp only [List.getElem_toArray, List.getElem_cons_zero, List.getElem_cons_succ, Act.put, List.setIfInBounds_toArray, List.set_cons_zero, List.set_cons_succ]
  refine wpAnyH_take (i := 8) (v := ?_) rfl (by kernel_rfl) (by kernel_rfl) (by kernel_rfl) (fun _ _ _ h => h) (Or.inl ⟨by rfl, ?_⟩) HH.out ?_
  rotate_left 1
  first | (intro w hSw; have hSf := HA.out w hSw; clear hSw; go_simp; done) | (intro w hSw; have hSf := HA.out w hSw; clear hSw; go_simp; with_reducible rfl)
  try simp only [List.getElem_toArray, List.getElem_cons_zero, List.getElem_cons_succ, Act.put, List.setIfInBounds_toArray, List.set_cons_zero, List.set_cons_succ]
  refine wpAnyH_ready (rs := [9]) (by kernel_rfl) (by simp) ?_
  refine AllReadyH.cons rfl (fun K hK => ?_) AllReadyH.nil
  go_simp
  refine (refTidy_yes a p _ HTA.out).mono ?_
  rintro e w8 ⟨rfl, k8⟩
  simp only [Ev.val, Ev.cells]
  try go_simp
  refine hK.out _ _ (HH.out.trans k8) (fun hHeld => ?_)
  clear hK K HH
  have HH := Lib.hid hHeld
  clear hHeld
  refine wpAnyH_take (i := 10) (v := ?_) rfl (by kernel_rfl) (by kernel_rfl) (by kernel_rfl) (fun _ _ _ h => h) (Or.inl ⟨by rfl, ?_⟩) HH.out ?_
  rotate_left 1
  first | (intro w hSw; clear hSw; go_simp; done) | (intro w hSw; clear hSw; go_simp; with_reducible rfl)
  try simp only [List.getElem_toArray, List.getElem_cons_zero, List.getElem_cons_succ, Act.put, List.setIfInBounds_toArray, List.set_cons_zero, List.set_cons_succ]
  refine wpAnyH_take (i := 11) (v := ?_) rfl (by kernel_rfl) (by kernel_rfl) (by kernel_rfl) (fun _ _ _ h => h) (Or.inl ⟨by rfl, ?_⟩) HH.out ?_
  rotate_left 1
  first | (intro w hSw; clear hSw; go_simp; done) | (intro w hSw; clear hSw; go_simp; with_reducible rfl)
  try simp only [List.getElem_toArray, List.getElem_cons_zero, List.getElem_cons_succ, Act.put, List.setIfInBounds_toArray, List.set_cons_zero, List.set_cons_succ]
  refine wpAnyH_take (i := 12) (v := ?_) rfl (by kernel_rfl) (by kernel_rfl) (by kernel_rfl) (fun _ _ _ h => h) (Or.inl ⟨by rfl, ?_⟩) HH.out ?_
  rotate_left 1
  first | (intro w hSw; clear hSw; go_simp; done) | (intro w hSw; clear hSw; go_simp; with_reducible rfl)
  try simp only [List.getElem_toArray, List.getElem_cons_zero, List.getElem_cons_succ, Act.put, List.setIfInBounds_toArray, List.set_cons_zero, List.set_cons_succ]
  refine wpAnyH_take (i := 13) (v := ?_) rfl (by kernel_rfl) (by kernel_rfl) (by kernel_rfl) (fun _ _ _ h => h) (Or.inl ⟨by rfl, ?_⟩) HH.out ?_
  rotate_left 1
  first | (intro w hSw; have hSf := HY.out w hSw; clear hSw; go_simp; done) | (intro w hSw; have hSf := HY.out w hSw; clear hSw; go_simp; with_reducible rfl)
  try simp only [List.getElem_toArray, List.getElem_cons_zero, List.getElem_cons_succ, Act.put, List.setIfInBounds_toArray, List.set_cons_zero, List.set_cons_succ]
  refine wpAnyH_take (i := 14) (v := ?_) rfl (by kernel_rfl) (by kernel_rfl) (by kernel_rfl) (fun _ _ _ h => h) (Or.inl ⟨by rfl, ?_⟩) HH.out ?_
  rotate_left 1
  first | (intro w hSw; have hSf := HB.out w hSw; clear hSw; go_simp; done) | (intro w hSw; have hSf := HB.out w hSw; clear hSw; go_simp; with_reducible rfl)
  try simp only [List.getElem_toArray, List.getElem_cons_zero, List.getElem_cons_succ, Act.put, List.setIfInBounds_toArray, List.set_cons_zero, List.set_cons_succ]
  refine wpAnyH_ready (rs := [15]) (by kernel_rfl) (by simp) ?_
  refine AllReadyH.cons rfl (fun K hK => ?_) AllReadyH.nil
  go_simp
  refine (refTidy_yes b q _ HTB.out).mono ?_
  rintro e w9 ⟨rfl, k9⟩
  simp only [Ev.val, Ev.cells]
  try go_simp
  refine hK.out _ _ (HH.out.trans k9) (fun hHeld => ?_)
  clear hK K HH
  have HH := Lib.hid hHeld
  clear hHeld
  refine wpAnyH_take (i := 16) (v := ?_) rfl (by kernel_rfl) (by kernel_rfl) (by kernel_rfl) (fun _ _ _ h => h) (Or.inl ⟨by rfl, ?_⟩) HH.out ?_
  rotate_left 1
  first | (intro w hSw; clear hSw; go_simp; done) | (intro w hSw; clear hSw; go_simp; with_reducible rfl)
  try simp only [List.getElem_toArray, List.getElem_cons_zero, List.getElem_cons_succ, Act.put, List.setIfInBounds_toArray, List.set_cons_zero, List.set_cons_succ]
  refine wpAnyH_take (i := 17) (v := ?_) rfl (by kernel_rfl) (by kernel_rfl) (by kernel_rfl) (fun _ _ _ h => h) (Or.inl ⟨by rfl, ?_⟩) HH.out ?_
  rotate_left 1
  first | (intro w hSw; clear hSw; go_simp; done) | (intro w hSw; clear hSw; go_simp; with_reducible rfl)
  try simp only [List.getElem_toArray, List.getElem_cons_zero, List.getElem_cons_succ, Act.put, List.setIfInBounds_toArray, List.set_cons_zero, List.set_cons_succ]
  refine wpAnyH_take (i := 18) (v := ?_) rfl (by kernel_rfl) (by kernel_rfl) (by kernel_rfl) (fun _ _ _ h => h) (Or.inl ⟨by rfl, ?_⟩) HH.out ?_
  rotate_left 1
  first | (intro w hSw; clear hSw; go_simp; done) | (intro w hSw; clear hSw; go_simp; with_reducible rfl)
  try simp only [List.getElem_toArray, List.getElem_cons_zero, List.getElem_cons_succ, Act.put, List.setIfInBounds_toArray, List.set_cons_zero, List.set_cons_succ]
  refine wpAnyH_take (i := 19) (v := ?_) rfl (by kernel_rfl) (by kernel_rfl) (by kernel_rfl) (fun _ _ _ h => h) (Or.inl ⟨by rfl, ?_⟩) HH.out ?_
  rotate_left 1
  first | (intro w hSw; clear hSw; go_simp; done) | (intro w hSw; clear hSw; go_simp; with_reducible rfl)
  try simp only [List.getElem_toArray, List.getElem_cons_zero, List.getElem_cons_succ, Act.put, List.setIfInBounds_toArray, List.set_cons_zero, List.set_cons_succ]
  refine wpAnyH_take (i := 20) (v := ?_) rfl (by kernel_rfl) (by kernel_rfl) (by kernel_rfl) (fun _ _ _ h => h) (Or.inl ⟨by rfl, ?_⟩) HH.out ?_
  rotate_left 1
  first | (intro w hSw; clear hSw; go_simp; done) | (intro w hSw; clear hSw; go_simp; with_reducible rfl)
  try simp only [List.getElem_toArray, List.getElem_cons_zero, List.getElem_cons_succ, Act.put, List.setIfInBounds_toArray, List.set_cons_zero, List.set_cons_succ]
  refine wpAnyH_take (i := 22) (v := ?_) rfl (by kernel_rfl) (by kernel_rfl) (by kernel_rfl) (fun _ _ _ h => h) (Or.inl ⟨by rfl, ?_⟩) HH.out ?_
  rotate_left 1
  first | (intro w hSw; have hSf := HX.out w hSw; clear hSw; go_simp; done) | (intro w hSw; have hSf := HX.out w hSw; clear hSw; go_simp; with_reducible rfl)
  try simp only [List.getElem_toArray, List.getElem_cons_zero, List.getElem_cons_succ, Act.put, List.setIfInBounds_toArray, List.set_cons_zero, List.set_cons_succ]
  refine wpAnyH_take (i := 23) (v := ?_) rfl (by kernel_rfl) (by kernel_rfl) (by kernel_rfl) (fun _ _ _ h => h) (Or.inl ⟨by rfl, ?_⟩) HH.out ?_
  rotate_left 1
  first | (intro w hSw; have hSf := HY.out w hSw; clear hSw; go_simp; done) | (intro w hSw; have hSf := HY.out w hSw; clear hSw; go_simp; with_reducible rfl)
  try simp only [List.getElem_toArray, List.getElem_cons_zero, List.getElem_cons_succ, Act.put, List.setIfInBounds_toArray, List.set_cons_zero, List.set_cons_succ]
  refine wpAnyH_take (i := 24) (v := ?_) rfl (by kernel_rfl) (by kernel_rfl) (by kernel_rfl) (fun _ _ _ h => h) (Or.inl ⟨by rfl, ?_⟩) HH.out ?_
  rotate_left 1
  first | (intro w hSw; clear hSw; go_simp; done) | (intro w hSw; clear hSw; go_simp; with_reducible rfl)
  try simp only [List.getElem_toArray, List.getElem_cons_zero, List.getElem_cons_succ, Act.put, List.setIfInBounds_toArray, List.set_cons_zero, List.set_cons_succ]
  refine wpAnyH_ready (rs := [21]) (by kernel_rfl) (by simp) ?_
  refine AllReadyH.cons rfl (fun K hK => ?_) AllReadyH.nil
  go_simp
  refine (HSM.out _).mono ?_
  rintro e w10 ⟨rfl, k10⟩
  try go_simp
  refine hK.out _ _ (HH.out.trans k10) (fun hHeld => ?_)
  clear hK K HH
  have HH := Lib.hid hHeld
  clear hHeld
  refine wpAnyH_take (i := 25) (v := ?_) rfl (by kernel_rfl) (by kernel_rfl) (by kernel_rfl) (fun _ _ _ h => h) (Or.inl ⟨by rfl, ?_⟩) HH.out ?_
  rotate_left 1
  first | (intro w hSw; clear hSw; go_simp; done) | (intro w hSw; clear hSw; go_simp; with_reducible rfl)
  try simp only [List.getElem_toArray, List.getElem_cons_zero, List.getElem_cons_succ, Act.put, List.setIfInBounds_toArray, List.set_cons_zero, List.set_cons_succ]
  refine wpAnyH_take (i := 26) (v := ?_) rfl (by kernel_rfl) (by kernel_rfl) (by kernel_rfl) (fun _ _ _ h => h) (Or.inl ⟨by rfl, ?_⟩) HH.out ?_
  rotate_left 1
  first | (intro w hSw; clear hSw; go_simp; done) | (intro w hSw; clear hSw; go_simp; with_reducible rfl)
  try simp only [List.getElem_toArray, List.getElem_cons_zero, List.getElem_cons_succ, Act.put, List.setIfInBounds_toArray, List.set_cons_zero, List.set_cons_succ]
  refine wpAnyH_take (i := 27) (v := ?_) rfl (by kernel_rfl) (by kernel_rfl) (by kernel_rfl) (fun _ _ _ h => h) (Or.inl ⟨by rfl, ?_⟩) HH.out ?_
  rotate_left 1
  first | (intro w hSw; clear hSw; go_simp; done) | (intro w hSw; clear hSw; go_simp; with_reducible rfl)
  try simp only [List.getElem_toArray, List.getElem_cons_zero, List.getElem_cons_succ, Act.put, List.setIfInBounds_toArray, List.set_cons_zero, List.set_cons_succ]
  refine wpAnyH_take (i := 28) (v := ?_) rfl (by kernel_rfl) (by kernel_rfl) (by kernel_rfl) (fun _ _ _ h => h) (Or.inl ⟨by rfl, ?_⟩) HH.out ?_
  rotate_left 1
  first | (intro w hSw; clear hSw; go_simp; done) | (intro w hSw; clear hSw; go_simp; with_reducible rfl)
  try simp only [List.getElem_toArray, List.getElem_cons_zero, List.getElem_cons_succ, Act.put, List.setIfInBounds_toArray, List.set_cons_zero, List.set_cons_succ]
  refine wpAnyH_take (i := 30) (v := ?_) rfl (by kernel_rfl) (by kernel_rfl) (by kernel_rfl) (fun _ _ _ h => h) (Or.inl ⟨by rfl, ?_⟩) HH.out ?_
  rotate_left 1
  first | (intro w hSw; have hSf := HX.out w hSw; clear hSw; go_simp; done) | (intro w hSw; have hSf := HX.out w hSw; clear hSw; go_simp; with_reducible rfl)
  try simp only [List.getElem_toArray, List.getElem_cons_zero, List.getElem_cons_succ, Act.put, List.setIfInBounds_toArray, List.set_cons_zero, List.set_cons_succ]
  refine wpAnyH_ready (rs := [29]) (by kernel_rfl) (by simp) ?_
  refine AllReadyH.cons rfl (fun K hK => ?_) AllReadyH.nil
  go_simp
  refine (HSZ.out _).mono ?_
  rintro e w11 ⟨rfl, k11⟩
  try go_simp
  refine hK.out _ _ (HH.out.trans k11) (fun hHeld => ?_)
  clear hK K HH
  have HH := Lib.hid hHeld
  clear hHeld
  refine wpAnyH_ready (rs := [31]) (by kernel_rfl) (by simp) ?_
  refine AllReadyH.cons rfl (fun K hK => ?_) AllReadyH.nil
  go_simp
  refine (HRZ.out _).mono ?_
  rintro e w12 ⟨rfl, k12⟩
  try go_simp
  refine hK.out _ _ (HH.out.trans k12) (fun hHeld => ?_)
  clear hK K HH
  have HH := Lib.hid hHeld
  clear hHeld
  refine wpAnyH_take (i := 32) (v := ?_) rfl (by kernel_rfl) (by kernel_rfl) (by kernel_rfl) (fun _ _ _ h => h) (Or.inl ⟨by rfl, ?_⟩) HH.out ?_
  rotate_left 1
  first | (intro w hSw; clear hSw; go_simp; done) | (intro w hSw; clear hSw; go_simp; with_reducible rfl)
  try simp only [List.getElem_toArray, List.getElem_cons_zero, List.getElem_cons_succ, Act.put, List.setIfInBounds_toArray, List.set_cons_zero, List.set_cons_succ]
  refine wpAnyH_take (i := 33) (v := ?_) rfl (by kernel_rfl) (by kernel_rfl) (by kernel_rfl) (fun _ _ _ h => h) (Or.inl ⟨by rfl, ?_⟩) HH.out ?_
  rotate_left 1
  first | (intro w hSw; clear hSw; go_simp; done) | (intro w hSw; clear hSw; go_simp; with_reducible rfl)
  try simp only [List.getElem_toArray, List.getElem_cons_zero, List.getElem_cons_succ, Act.put, List.setIfInBounds_toArray, List.set_cons_zero, List.set_cons_succ]
  refine wpAnyH_done (by kernel_rfl) ?_ _
  have K12 := Lib.hid (K7.out.trans HH.out)
  obtain ⟨a0, a1, a2, a3, a4⟩ := HA.out _ HH.out
  have hAx := HAA.out.keeps HH.out (by simp)
  have HA12 := Lib.hid (fun (w' : World) (k : Keeps [] _ w') => ev_facts (hAx.keeps k (by simp)))
  clear hAx
  by_cases hk : a.kind = 3
  · have hk' : (a.kind == 3) = true := by simp [hk]
    have hp3 : p = evText a.text := by
      have := HTA.out
      unfold tidy at this
      simp [hk] at this
      exact this.symm
    have hpn := fun W => panics_no a.text W
    have hmw := fun W => mustWord_yes a.text W
    rw [← hp3, ← HPV.out] at hpn hmw
    have HPN := Lib.hid hpn
    have HMW := Lib.hid hmw
    clear hpn hmw hp3 hk
    go_wp2_with fail
    refine wp_region_held_drew (S := fun w' => Keeps [] w12 w') (by kernel_rfl) ((Keeps.refl [] _).drew) (fun hHeld => ?_)
    have HH := Lib.hid hHeld
    clear hHeld
    refine wpAnyH_take (i := 0) (v := ?_) rfl (by kernel_rfl) (by kernel_rfl) (by kernel_rfl) (fun _ _ _ h => h) (Or.inl ⟨by rfl, ?_⟩) HH.out ?_
    rotate_left 1
    first | (intro w hSw; clear hSw; go_simp; done) | (intro w hSw; clear hSw; go_simp; with_reducible rfl)
    try simp only [List.getElem_toArray, List.getElem_cons_zero, Act.put, List.setIfInBounds_toArray, List.set_cons_zero, List.set_cons_succ]
    refine wpAnyH_ready (rs := [1]) (by kernel_rfl) (by simp) ?_
    refine AllReadyH.cons rfl (fun K hK => ?_) AllReadyH.nil
    go_simp
    refine (HPN.out _).mono ?_
    rintro e w13 ⟨rfl, k13⟩
    try go_simp
    refine hK.out _ _ (HH.out.trans k13) (fun hHeld => ?_)
    clear hK K HH
    have HH := Lib.hid hHeld
    clear hHeld
    refine wpAnyH_take (i := 2) (v := ?_) rfl (by kernel_rfl) (by kernel_rfl) (by kernel_rfl) (fun _ _ _ h => h) (Or.inl ⟨by rfl, ?_⟩) HH.out ?_
    rotate_left 1
    first | (intro w hSw; clear hSw; go_simp; done) | (intro w hSw; clear hSw; go_simp; with_reducible rfl)
    try simp only [List.getElem_toArray, List.getElem_cons_zero, List.getElem_cons_succ, Act.put, List.setIfInBounds_toArray, List.set_cons_zero, List.set_cons_succ]
    refine wpAnyH_take (i := 3) (v := ?_) rfl (by kernel_rfl) (by kernel_rfl) (by kernel_rfl) (fun _ _ _ h => h) (Or.inl ⟨by rfl, ?_⟩) HH.out ?_
    rotate_left 1
    first | (intro w hSw; clear hSw; go_simp; done) | (intro w hSw; clear hSw; go_simp; with_reducible rfl)
    try simp only [List.getElem_toArray, List.getElem_cons_zero, List.getElem_cons_succ, Act.put, List.setIfInBounds_toArray, List.set_cons_zero, List.set_cons_succ]
    refine wpAnyH_take (i := 4) (v := ?_) rfl (by kernel_rfl) (by kernel_rfl) (by kernel_rfl) (fun _ _ _ h => h) (Or.inl ⟨by rfl, ?_⟩) HH.out ?_
    rotate_left 1
    first | (intro w hSw; clear hSw; go_simp; done) | (intro w hSw; clear hSw; go_simp; with_reducible rfl)
    try simp only [List.getElem_toArray, List.getElem_cons_zero, List.getElem_cons_succ, Act.put, List.setIfInBounds_toArray, List.set_cons_zero, List.set_cons_succ]
    refine wpAnyH_take (i := 6) (v := ?_) rfl (by kernel_rfl) (by kernel_rfl) (by kernel_rfl) (fun _ _ _ h => h) (Or.inl ⟨by rfl, ?_⟩) HH.out ?_
    rotate_left 1
    first | (intro w hSw; clear hSw; go_simp; done) | (intro w hSw; clear hSw; go_simp; with_reducible rfl)
    try simp only [List.getElem_toArray, List.getElem_cons_zero, List.getElem_cons_succ, Act.put, List.setIfInBounds_toArray, List.set_cons_zero, List.set_cons_succ]
    refine wpAnyH_take (i := 7) (v := ?_) rfl (by kernel_rfl) (by kernel_rfl) (by kernel_rfl) (fun _ _ _ h => h) (Or.inl ⟨by rfl, ?_⟩) HH.out ?_
    rotate_left 1
    first | (intro w hSw; have hSf := HA12.out w hSw; clear hSw; go_simp; done) | (intro w hSw; have hSf := HA12.out w hSw; clear hSw; go_simp; with_reducible rfl)
    try simp only [List.getElem_toArray, List.getElem_cons_zero, List.getElem_cons_succ, Act.put, List.setIfInBounds_toArray, List.set_cons_zero, List.set_cons_succ]
    refine wpAnyH_ready (rs := [5]) (by kernel_rfl) (by simp) ?_
    refine AllReadyH.cons rfl (fun K hK => ?_) AllReadyH.nil
    go_simp
    refine (HMW.out _).mono ?_
    rintro e w14 ⟨rfl, rfl⟩
    try go_simp
    refine hK.out _ _ (HH.out.trans (Keeps.refl _ _)) (fun hHeld => ?_)
    clear hK K HH
    have HH := Lib.hid hHeld
    clear hHeld
    refine wpAnyH_take (i := 8) (v := ?_) rfl (by kernel_rfl) (by kernel_rfl) (by kernel_rfl) (fun _ _ _ h => h) (Or.inl ⟨by rfl, ?_⟩) HH.out ?_
    rotate_left 1
    first | (intro w hSw; clear hSw; go_simp; done) | (intro w hSw; clear hSw; go_simp; with_reducible rfl)
    try simp only [List.getElem_toArray, List.getElem_cons_zero, List.getElem_cons_succ, Act.put, List.setIfInBounds_toArray, List.set_cons_zero, List.set_cons_succ]
    refine wpAnyH_take (i := 9) (v := ?_) rfl (by kernel_rfl) (by kernel_rfl) (by kernel_rfl) (fun _ _ _ h => h) (Or.inl ⟨by rfl, ?_⟩) HH.out ?_
    rotate_left 1
    first | (intro w hSw; clear hSw; go_simp; done) | (intro w hSw; clear hSw; go_simp; with_reducible rfl)
    try simp only [List.getElem_toArray, List.getElem_cons_zero, List.getElem_cons_succ, Act.put, List.setIfInBounds_toArray, List.set_cons_zero, List.set_cons_succ]
    refine wpAnyH_take (i := 10) (v := ?_) rfl (by kernel_rfl) (by kernel_rfl) (by kernel_rfl) (fun _ _ _ h => h) (Or.inl ⟨by rfl, ?_⟩) HH.out ?_
    rotate_left 1
    first | (intro w hSw; clear hSw; go_simp; done) | (intro w hSw; clear hSw; go_simp; with_reducible rfl)
    try simp only [List.getElem_toArray, List.getElem_cons_zero, List.getElem_cons_succ, Act.put, List.setIfInBounds_toArray, List.set_cons_zero, List.set_cons_succ]
    refine wpAnyH_done (by kernel_rfl) ?_ _
    go_wp2_with fail
    go_ret
    exact ⟨rfl, K12.out.trans HH.out⟩
  · have hk' : (a.kind == 3) = false := by simp [hk]
    have hpy := fun W => panics_yes HCP.out (by rw [HKP.out]; exact hk) W
    rw [← HPV.out] at hpy
    have HPY := Lib.hid hpy
    clear hpy hk
    go_wp2_with fail
    refine (HPY.out _).mono ?_
    rintro e w13 ⟨rfl, k13⟩
    have K13 := Lib.hid k13
    clear k13
    go_wp2_with fail
    go_ret
    exact ⟨rfl, K12.out.trans K13.out⟩

theorem eventTells_walk (a b : Ev) (w : World) (ha : a.Fit) (hb : b.Fit) :
    Calls Try.prog 7 #[a.val, b.val] w fun e w' => e = .returned (.bool true) ∧ Below w.heap.size w w' := by
  refine Calls.mono (R := fun e w' => e = .returned (.bool true) ∧ Keeps [] w w') ?_ (fun e w' h => ⟨h.1, h.2.all⟩)
  by_cases h : a.text.size ≤ 300 ∧ b.text.size ≤ 300
  · cases hta : tidy a with
    | none => exact eventTells_no a b w h.1 h.2 (Or.inl hta)
    | some p =>
      cases htb : tidy b with
      | none => exact eventTells_no a b w h.1 h.2 (Or.inr htb)
      | some q => exact eventTells_yes a b p q w h.1 h.2 hta htb
  · exact eventTells_long a b w ha.2.2.1 hb.2.2.1 (by omega)
end Go.Proofs.Ytdjdbcppabiknaa
