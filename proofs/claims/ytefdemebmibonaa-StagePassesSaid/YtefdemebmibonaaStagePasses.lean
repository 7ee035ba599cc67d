/-
  StagePasses' walk.
-/
import Derived.Test.YtefdemebmibonaaStageNone
import Derived.Test.YtefdemebmibonaaDocAll
import Derived.Test.YtefdemebmibonaaStagePass0
import Derived.Deep.RegionHeld
namespace Go.Tru
theorem doc_tight {p : Ev} (h : DocPart p) : p.loose = false := by
  unfold Ev.loose
  simp only [decide_eq_false_iff_not, not_and]
  intro hk
  have := h.2.1 hk
  omega
end Go.Tru
namespace Go.Proofs.Ytefdemebmibonaa
open Go.RowKit Go.Tru

theorem neq_ev (a : Ev) (w : World) : (binOp .neq 30 a.val a.val).run Try.prog w = .ok (.bool false) w := by
  obtain ⟨k, y, m, t, c⟩ := a
  simp only [Ev.val, Ev.cells]
  go_simp

def PassRel (n : Nat) (B : Nat) (lim : Int) (o : Option Addr) (cap : Nat) (ds : List Ev) (w : World) (i : Value) (wr : World) : Prop :=
  ∃ (k : Nat) (hv ov : Value), k ≤ n ∧ i = .int .i64 k ∧ StIn wr B B hv ov (St.new lim) ∧ EvsIn wr o n cap ds ∧ Keeps [] w wr

set_option maxHeartbeats 3200000 in
set_option maxRecDepth 100000 in
theorem stagePasses_walk (o : Option Addr) (n c : Nat) (xs : List Int) (lim : Int) (w : World) (h : IntsIn w o n c xs) (_hb : -9223372036854775808 ≤ lim ∧ lim ≤ 9223372036854775807) :
    Calls Try.prog 3 #[.slice o n c, .int .i64 lim] w fun r w' => r = .returned (.bool true) ∧ Below w.heap.size w w' := by
  refine Calls.mono (R := fun r w' => r = .returned (.bool true) ∧ Keeps [] w w') ?_ (fun r w' h => ⟨h.1, h.2.all⟩)
  have m1 : n ≤ 9223372036854775807 := by have := h.room; have := h.most; unfold maxLen at *; omega
  have H := Lib.hid h
  clear h
  by_cases hn : 60 < n
  · go_enter Try.func3, Try.ntmps3
    go_wp2_with fail
    refine (alive_any w).mono ?_
    rintro e w1 ⟨rfl, k1⟩
    have K1 := Lib.hid k1
    clear k1
    go_wp2_with fail
    go_ret
    exact ⟨rfl, K1.out⟩
  have hn2 : n ≤ 60 := by omega
  clear hn
  obtain ⟨L, hL⟩ : ∃ L, L = min (max lim 0) 2000 := ⟨_, rfl⟩
  have hL1 : 0 ≤ L ∧ L ≤ 2000 := by omega
  have HL := Lib.hid hL
  clear hL
  go_enter Try.func3, Try.ntmps3
  go_wp2_with fail
  refine (alive_any w).mono ?_
  rintro e w1 ⟨rfl, k1⟩
  have K1 := Lib.hid k1
  have z1 := k1.size
  clear k1
  go_wp2_with fail
  refine (new_any lim w1).mono ?_
  rintro e w2 ⟨rfl, hs2, k2⟩
  rw [← HL.out] at hs2
  have HS2 := Lib.hid hs2
  have K2 := Lib.hid (K1.out.trans k2)
  have z2 := k2.size
  clear hs2 k2
  go_wp2_with fail
  refine (doc_any o n c xs 8 (by omega) (by omega) w2 (H.out.keeps K2.out)).mono ?_
  rintro e w3 ⟨v3, rfl, hown3, k3⟩
  obtain ⟨o3, c3, rfl, hin3⟩ := evsIn_of_owns hown3
  have hdp := doc_parts 8 xs
  have hdl : (doc xs 8).length ≤ 2000 := by
    have h1 := docItem_len 8 xs
    have h2 := H.out.len
    unfold doc
    omega
  have HDP := Lib.hid (show ∀ p ∈ doc xs 8, DocPart p from hdp)
  generalize doc xs 8 = ds at hin3 hdl HDP
  have HS3 := Lib.hid (HS2.out.keep0 k3)
  have K3 := Lib.hid (K2.out.trans k3)
  have HI3 := Lib.hid hin3
  have hr3 := hin3.room
  have hm3 := hin3.most
  unfold maxLen at hm3
  clear hown3 k3 hin3 hdp
  go_wp2_with fail
  go_loopw [29] (fun i wr => PassRel ds.length w1.heap.size L o3 c3 ds w i wr) (fun i _ => ds.length - (intOf i).toNat)
  case atStart => exact ⟨0, _, _, Nat.zero_le _, rfl, HS3.out, HI3.out, K3.out⟩
  case round =>
    obtain ⟨k, hv, ov, hk, rfl, hs, hin, hK⟩ := hrel
    have hbl := hs.base_lt
    by_cases hlt : k < ds.length
    · obtain ⟨b1, f1, rfl, g0, g1, g2, g3, g4⟩ := hin.get hlt hlt
      have hpd := HDP.out _ (List.getElem_mem hlt)
      have HS := Lib.hid hs
      have HIN := Lib.hid hin
      have HK := Lib.hid hK
      clear hs hin hK
      generalize hae : ds[k] = p at g0 g1 g2 g3 g4 hpd
      clear hae
      have HT := Lib.hid (clear_tidy hpd.1)
      have HCP := Lib.hid hpd.1
      have hps : p.text.size ≤ 1000000 := by have := hpd.2.2; omega
      have HLO := Lib.hid (doc_tight hpd)
      clear hpd
      obtain ⟨pv, hpv⟩ : ∃ pv, p.part = pv := ⟨_, rfl⟩
      have HPV := Lib.hid hpv
      clear hpv
      go_wp2_with fail
      refine (of_yes p p _ HT.out).mono ?_
      rintro e w4 ⟨rfl, k4⟩
      rw [HPV.out]
      have HX4 := Lib.hid ((Has.new wr p.cells 30).keeps k4 (by simp))
      have K4 := Lib.hid (((Keeps.refl [] wr).alloc _).trans k4)
      have z4 := k4.size
      simp only [World.size_alloc] at z4
      clear k4
      go_wp2_with fail
      have hst := step_pass0 (St.new L) p HCP.out w4 w1.heap.size w1.heap.size _ _ (HS.out.keep0 K4.out) rfl rfl HLO.out (by omega)
      rw [HPV.out] at hst
      refine hst.mono ?_
      clear hst
      rintro e w5 ⟨v5, rfl, hown5, k5⟩
      obtain ⟨a5, c5, rfl, hin5⟩ := anysIn_of_owns hown5
      have HX5 := Lib.hid (HX4.out.keeps k5 (by simp))
      have K5 := Lib.hid (K4.out.trans k5)
      have HI5 := Lib.hid hin5
      clear hown5 k5 hin5
      simp only [List.length_cons, List.length_nil]
      go_wp2_with fail
      refine (plainList_any a5 1 c5 [p] w5 HI5.out (by intro q hq; rw [List.mem_singleton] at hq; exact hq ▸ HCP.out) (by omega)).mono ?_
      rintro e w7 ⟨v7, rfl, hown7, k7⟩
      obtain ⟨a7, c7, rfl, hin7⟩ := evsIn_of_owns hown7
      obtain ⟨b7, f7, he7, y0, y1, y2, y3, y4⟩ := hin7.get (k := 0) (by simp) (by simp)
      subst he7
      have hr7 := hin7.room
      have hm7 := hin7.most
      unfold maxLen at hm7
      simp only [List.length_cons, List.length_nil, Nat.zero_mul, Nat.add_zero, List.getElem_cons_zero] at y0 y1 y2 y3 y4 hr7
      have K7 := Lib.hid (K5.out.trans k7)
      have HS7 := Lib.hid (HS.out.keep0 K7.out)
      have hx7 := HX5.out.keeps k7 (by simp)
      have HX := Lib.hid (fun (w' : World) (k : Keeps [] w7 w') => ev_facts (hx7.keeps k (by simp)))
      have HY := Lib.hid (fun (w' : World) (k : Keeps [] w7 w') => (⟨k.cell y0 (by simp), k.cell y1 (by simp), k.cell y2 (by simp), k.cell y3 (by simp), k.cell y4 (by simp)⟩ : w'.cell? ⟨b7, f7, none⟩ = some (.int .i64 p.kind) ∧ w'.cell? ⟨b7, f7 + 1, none⟩ = some (.bool p.yes) ∧ w'.cell? ⟨b7, f7 + 2, none⟩ = some (.int .u64 p.mag) ∧ w'.cell? ⟨b7, f7 + 3, none⟩ = some (.string p.text) ∧ w'.cell? ⟨b7, f7 + 4, none⟩ = some (.int .i64 p.count)))
      have hnp : ∀ W, (binOp .neq 30 (.agg #[.int .i64 p.kind, .bool p.yes, .int .u64 p.mag, .string p.text, .int .i64 p.count]) (.agg #[.int .i64 p.kind, .bool p.yes, .int .u64 p.mag, .string p.text, .int .i64 p.count])).run Try.prog W = .ok (.bool false) W := fun W => neq_ev p W
      clear hown7 hin7 k7 hx7 y0 y1 y2 y3 y4 g0 g1 g2 g3 g4
      simp only [List.length_cons, List.length_nil]
      go_wp2_with fail
      refine wp_region_held_drew (S := fun w' => Keeps [] w7 w') (by kernel_rfl) ((Keeps.refl [] _).drew) (fun hHeld => ?_)
      have HH := Lib.hid hHeld
      clear hHeld
      refine wpAnyH_take (i := 0) (v := ?_) rfl (by kernel_rfl) (by kernel_rfl) (by kernel_rfl) (fun _ _ _ h => h) (Or.inl ⟨by rfl, ?_⟩) HH.out ?_
      rotate_left 1
      first | (intro w hSw; clear hSw; go_simp; done) | (intro w hSw; clear hSw; go_simp; with_reducible rfl)
      try simp only [List.getElem_toArray, List.getElem_cons_zero, Act.put, List.setIfInBounds_toArray, List.set_cons_zero, List.set_cons_succ]
      refine wpAnyH_take (i := 1) (v := ?_) rfl (by kernel_rfl) (by kernel_rfl) (by kernel_rfl) (fun _ _ _ h => h) (Or.inl ⟨by rfl, ?_⟩) HH.out ?_
      rotate_left 1
      first | (intro w hSw; clear hSw; go_simp; done) | (intro w hSw; clear hSw; go_simp; with_reducible rfl)
      try simp only [List.getElem_toArray, List.getElem_cons_zero, List.getElem_cons_succ, Act.put, List.setIfInBounds_toArray, List.set_cons_zero, List.set_cons_succ]
      refine wpAnyH_take (i := 2) (v := ?_) rfl (by kernel_rfl) (by kernel_rfl) (by kernel_rfl) (fun _ _ _ h => h) (Or.inl ⟨by rfl, ?_⟩) HH.out ?_
      rotate_left 1
      first | (intro w hSw; clear hSw; go_simp; done) | (intro w hSw; clear hSw; go_simp; with_reducible rfl)
      try simp only [List.getElem_toArray, List.getElem_cons_zero, List.getElem_cons_succ, Act.put, List.setIfInBounds_toArray, List.set_cons_zero, List.set_cons_succ]
      refine wpAnyH_take (i := 3) (v := ?_) rfl (by kernel_rfl) (by kernel_rfl) (by kernel_rfl) (fun _ _ _ h => h) (Or.inl ⟨by rfl, ?_⟩) HH.out ?_
      rotate_left 1
      first | (intro w hSw; clear hSw; go_simp; done) | (intro w hSw; clear hSw; go_simp; with_reducible rfl)
      try simp only [List.getElem_toArray, List.getElem_cons_zero, List.getElem_cons_succ, Act.put, List.setIfInBounds_toArray, List.set_cons_zero, List.set_cons_succ]
      refine wpAnyH_take (i := 4) (v := ?_) rfl (by kernel_rfl) (by kernel_rfl) (by kernel_rfl) (fun _ _ _ h => h) (Or.inl ⟨by rfl, ?_⟩) HH.out ?_
      rotate_left 1
      first | (intro w hSw; clear hSw; go_simp; done) | (intro w hSw; clear hSw; go_simp; with_reducible rfl)
      try simp only [List.getElem_toArray, List.getElem_cons_zero, List.getElem_cons_succ, Act.put, List.setIfInBounds_toArray, List.set_cons_zero, List.set_cons_succ]
      refine wpAnyH_take (i := 5) (v := ?_) rfl (by kernel_rfl) (by kernel_rfl) (by kernel_rfl) (fun _ _ _ h => h) (Or.inl ⟨by rfl, ?_⟩) HH.out ?_
      rotate_left 1
      first | (intro w hSw; clear hSw; go_simp; done) | (intro w hSw; clear hSw; go_simp; with_reducible rfl)
      try simp only [List.getElem_toArray, List.getElem_cons_zero, List.getElem_cons_succ, Act.put, List.setIfInBounds_toArray, List.set_cons_zero, List.set_cons_succ]
      refine wpAnyH_take (i := 6) (v := ?_) rfl (by kernel_rfl) (by kernel_rfl) (by kernel_rfl) (fun _ _ _ h => h) (Or.inl ⟨by rfl, ?_⟩) HH.out ?_
      rotate_left 1
      first | (intro w hSw; clear hSw; go_simp; done) | (intro w hSw; clear hSw; go_simp; with_reducible rfl)
      try simp only [List.getElem_toArray, List.getElem_cons_zero, List.getElem_cons_succ, Act.put, List.setIfInBounds_toArray, List.set_cons_zero, List.set_cons_succ]
      refine wpAnyH_take (i := 7) (v := ?_) rfl (by kernel_rfl) (by kernel_rfl) (by kernel_rfl) (fun _ _ _ h => h) (Or.inl ⟨by rfl, ?_⟩) HH.out ?_
      rotate_left 1
      first | (intro w hSw; clear hSw; go_simp; done) | (intro w hSw; clear hSw; go_simp; with_reducible rfl)
      try simp only [List.getElem_toArray, List.getElem_cons_zero, List.getElem_cons_succ, Act.put, List.setIfInBounds_toArray, List.set_cons_zero, List.set_cons_succ]
      refine wpAnyH_take (i := 8) (v := ?_) rfl (by kernel_rfl) (by kernel_rfl) (by kernel_rfl) (fun _ _ _ h => h) (Or.inl ⟨by rfl, ?_⟩) HH.out ?_
      rotate_left 1
      first | (intro w hSw; clear hSw; go_simp; done) | (intro w hSw; clear hSw; go_simp; with_reducible rfl)
      try simp only [List.getElem_toArray, List.getElem_cons_zero, List.getElem_cons_succ, Act.put, List.setIfInBounds_toArray, List.set_cons_zero, List.set_cons_succ]
      refine wpAnyH_take (i := 9) (v := ?_) rfl (by kernel_rfl) (by kernel_rfl) (by kernel_rfl) (fun _ _ _ h => h) (Or.inl ⟨by rfl, ?_⟩) HH.out ?_
      rotate_left 1
      first | (intro w hSw; clear hSw; go_simp; done) | (intro w hSw; clear hSw; go_simp; with_reducible rfl)
      try simp only [List.getElem_toArray, List.getElem_cons_zero, List.getElem_cons_succ, Act.put, List.setIfInBounds_toArray, List.set_cons_zero, List.set_cons_succ]
      refine wpAnyH_take (i := 10) (v := ?_) rfl (by kernel_rfl) (by kernel_rfl) (by kernel_rfl) (fun _ _ _ h => h) (Or.inl ⟨by rfl, ?_⟩) HH.out ?_
      rotate_left 1
      first | (intro w hSw; clear hSw; go_simp; done) | (intro w hSw; clear hSw; go_simp; with_reducible rfl)
      try simp only [List.getElem_toArray, List.getElem_cons_zero, List.getElem_cons_succ, Act.put, List.setIfInBounds_toArray, List.set_cons_zero, List.set_cons_succ]
      refine wpAnyH_take (i := 11) (v := ?_) rfl (by kernel_rfl) (by kernel_rfl) (by kernel_rfl) (fun _ _ _ h => h) (Or.inl ⟨by rfl, ?_⟩) HH.out ?_
      rotate_left 1
      first | (intro w hSw; clear hSw; go_simp; done) | (intro w hSw; clear hSw; go_simp; with_reducible rfl)
      try simp only [List.getElem_toArray, List.getElem_cons_zero, List.getElem_cons_succ, Act.put, List.setIfInBounds_toArray, List.set_cons_zero, List.set_cons_succ]
      refine wpAnyH_take (i := 12) (v := ?_) rfl (by kernel_rfl) (by kernel_rfl) (by kernel_rfl) (fun _ _ _ h => h) (Or.inl ⟨by rfl, ?_⟩) HH.out ?_
      rotate_left 1
      first | (intro w hSw; clear hSw; go_simp; done) | (intro w hSw; clear hSw; go_simp; with_reducible rfl)
      try simp only [List.getElem_toArray, List.getElem_cons_zero, List.getElem_cons_succ, Act.put, List.setIfInBounds_toArray, List.set_cons_zero, List.set_cons_succ]
      refine wpAnyH_take (i := 13) (v := ?_) rfl (by kernel_rfl) (by kernel_rfl) (by kernel_rfl) (fun _ _ _ h => h) (Or.inl ⟨by rfl, ?_⟩) HH.out ?_
      rotate_left 1
      first | (intro w hSw; clear hSw; go_simp; done) | (intro w hSw; clear hSw; go_simp; with_reducible rfl)
      try simp only [List.getElem_toArray, List.getElem_cons_zero, List.getElem_cons_succ, Act.put, List.setIfInBounds_toArray, List.set_cons_zero, List.set_cons_succ]
      refine wpAnyH_take (i := 14) (v := ?_) rfl (by kernel_rfl) (by kernel_rfl) (by kernel_rfl) (fun _ _ _ h => h) (Or.inl ⟨by rfl, ?_⟩) HH.out ?_
      rotate_left 1
      first | (intro w hSw; have hSf := HY.out w hSw; clear hSw; go_simp; done) | (intro w hSw; have hSf := HY.out w hSw; clear hSw; go_simp; with_reducible rfl)
      try simp only [List.getElem_toArray, List.getElem_cons_zero, List.getElem_cons_succ, Act.put, List.setIfInBounds_toArray, List.set_cons_zero, List.set_cons_succ]
      refine wpAnyH_take (i := 15) (v := ?_) rfl (by kernel_rfl) (by kernel_rfl) (by kernel_rfl) (fun _ _ _ h => h) (Or.inl ⟨by rfl, ?_⟩) HH.out ?_
      rotate_left 1
      first | (intro w hSw; have hSf := HX.out w hSw; clear hSw; go_simp; done) | (intro w hSw; have hSf := HX.out w hSw; clear hSw; go_simp; with_reducible rfl)
      try simp only [List.getElem_toArray, List.getElem_cons_zero, List.getElem_cons_succ, Act.put, List.setIfInBounds_toArray, List.set_cons_zero, List.set_cons_succ]
      refine wpAnyH_take (i := 16) (v := ?_) rfl (by kernel_rfl) (by kernel_rfl) (by kernel_rfl) (fun _ _ _ h => h) (Or.inl ⟨by rfl, ?_⟩) HH.out ?_
      rotate_left 1
      first | (intro w hSw; clear hSw; go_simp; done) | (intro w hSw; clear hSw; go_simp; with_reducible rfl)
      try simp only [List.getElem_toArray, List.getElem_cons_zero, List.getElem_cons_succ, Act.put, List.setIfInBounds_toArray, List.set_cons_zero, List.set_cons_succ]
      refine wpAnyH_take (i := 17) (v := ?_) rfl (by kernel_rfl) (by kernel_rfl) (by kernel_rfl) (fun _ _ _ h => h) (Or.inl ⟨by rfl, ?_⟩) HH.out ?_
      rotate_left 1
      first | (intro w hSw; clear hSw; go_simp; done) | (intro w hSw; clear hSw; go_simp; with_reducible rfl)
      try simp only [List.getElem_toArray, List.getElem_cons_zero, List.getElem_cons_succ, Act.put, List.setIfInBounds_toArray, List.set_cons_zero, List.set_cons_succ]
      refine wpAnyH_take (i := 18) (v := ?_) rfl (by kernel_rfl) (by kernel_rfl) (by kernel_rfl) (fun _ _ _ h => h) (Or.inl ⟨by rfl, ?_⟩) HH.out ?_
      rotate_left 1
      first | (intro w hSw; clear hSw; go_simp; done) | (intro w hSw; clear hSw; go_simp; with_reducible rfl)
      try simp only [List.getElem_toArray, List.getElem_cons_zero, List.getElem_cons_succ, Act.put, List.setIfInBounds_toArray, List.set_cons_zero, List.set_cons_succ]
      refine wpAnyH_take (i := 19) (v := ?_) rfl (by kernel_rfl) (by kernel_rfl) (by kernel_rfl) (fun _ _ _ h => h) (Or.inl ⟨by rfl, ?_⟩) HH.out ?_
      rotate_left 1
      first | (intro w hSw; clear hSw; go_simp; done) | (intro w hSw; clear hSw; go_simp; with_reducible rfl)
      try simp only [List.getElem_toArray, List.getElem_cons_zero, List.getElem_cons_succ, Act.put, List.setIfInBounds_toArray, List.set_cons_zero, List.set_cons_succ]
      refine wpAnyH_ready (rs := [20]) (by kernel_rfl) (by simp) ?_
      refine AllReadyH.cons rfl (fun K hK => ?_) AllReadyH.nil
      go_simp
      refine (held_any _ _ _ _ _ _ (HS7.out.keep0 HH.out)).mono ?_
      rintro e w8 ⟨rfl, rfl⟩
      simp only [St.new]
      try go_simp
      refine hK.out _ _ (HH.out.trans (Keeps.refl _ _)) (fun hHeld => ?_)
      clear hK K HH
      have HH := Lib.hid hHeld
      clear hHeld
      refine wpAnyH_take (i := 21) (v := ?_) rfl (by kernel_rfl) (by kernel_rfl) (by kernel_rfl) (fun _ _ _ h => h) (Or.inl ⟨by rfl, ?_⟩) HH.out ?_
      rotate_left 1
      first | (intro w hSw; clear hSw; go_simp; done) | (intro w hSw; clear hSw; go_simp; with_reducible rfl)
      try simp only [List.getElem_toArray, List.getElem_cons_zero, List.getElem_cons_succ, Act.put, List.setIfInBounds_toArray, List.set_cons_zero, List.set_cons_succ]
      refine wpAnyH_take (i := 22) (v := ?_) rfl (by kernel_rfl) (by kernel_rfl) (by kernel_rfl) (fun _ _ _ h => h) (Or.inl ⟨by rfl, ?_⟩) HH.out ?_
      rotate_left 1
      first | (intro w hSw; clear hSw; go_simp; done) | (intro w hSw; clear hSw; go_simp; with_reducible rfl)
      try simp only [List.getElem_toArray, List.getElem_cons_zero, List.getElem_cons_succ, Act.put, List.setIfInBounds_toArray, List.set_cons_zero, List.set_cons_succ]
      refine wpAnyH_take (i := 23) (v := ?_) rfl (by kernel_rfl) (by kernel_rfl) (by kernel_rfl) (fun _ _ _ h => h) (Or.inl ⟨by rfl, ?_⟩) HH.out ?_
      rotate_left 1
      first | (intro w hSw; clear hSw; go_simp; done) | (intro w hSw; clear hSw; go_simp; with_reducible rfl)
      try simp only [List.getElem_toArray, List.getElem_cons_zero, List.getElem_cons_succ, Act.put, List.setIfInBounds_toArray, List.set_cons_zero, List.set_cons_succ]
      refine wpAnyH_take (i := 24) (v := ?_) rfl (by kernel_rfl) (by kernel_rfl) (by kernel_rfl) (fun _ _ _ h => h) (Or.inl ⟨by rfl, ?_⟩) HH.out ?_
      rotate_left 1
      first | (intro w hSw; clear hSw; go_simp; done) | (intro w hSw; clear hSw; go_simp; with_reducible rfl)
      try simp only [List.getElem_toArray, List.getElem_cons_zero, List.getElem_cons_succ, Act.put, List.setIfInBounds_toArray, List.set_cons_zero, List.set_cons_succ]
      refine wpAnyH_ready (rs := [25]) (by kernel_rfl) (by simp) ?_
      refine AllReadyH.cons rfl (fun K hK => ?_) AllReadyH.nil
      go_simp
      refine (empty_any _ _ _ _ _ _ (HS7.out.keep0 HH.out)).mono ?_
      rintro e w8 ⟨rfl, rfl⟩
      simp only [St.new]
      try go_simp
      refine hK.out _ _ (HH.out.trans (Keeps.refl _ _)) (fun hHeld => ?_)
      clear hK K HH
      have HH := Lib.hid hHeld
      clear hHeld
      refine wpAnyH_take (i := 26) (v := ?_) rfl (by kernel_rfl) (by kernel_rfl) (by kernel_rfl) (fun _ _ _ h => h) (Or.inl ⟨by rfl, ?_⟩) HH.out ?_
      rotate_left 1
      first | (intro w hSw; clear hSw; go_simp; done) | (intro w hSw; clear hSw; go_simp; with_reducible rfl)
      try simp only [List.getElem_toArray, List.getElem_cons_zero, List.getElem_cons_succ, Act.put, List.setIfInBounds_toArray, List.set_cons_zero, List.set_cons_succ]
      refine wpAnyH_take (i := 27) (v := ?_) rfl (by kernel_rfl) (by kernel_rfl) (by kernel_rfl) (fun _ _ _ h => h) (Or.inl ⟨by rfl, ?_⟩) HH.out ?_
      rotate_left 1
      first | (intro w hSw; clear hSw; go_simp; done) | (intro w hSw; clear hSw; go_simp; with_reducible rfl)
      try simp only [List.getElem_toArray, List.getElem_cons_zero, List.getElem_cons_succ, Act.put, List.setIfInBounds_toArray, List.set_cons_zero, List.set_cons_succ]
      refine wpAnyH_done (by kernel_rfl) ?_ _
      go_wp2_with fail
      go_roundw
      case rel => exact ⟨k + 1, _, _, by omega, by go_num, HS7.out.keep0 HH.out, (HIN.out.keeps K7.out).keeps HH.out, (HK.out.trans K7.out).trans HH.out⟩
      case measure => simp [intOf]; omega
    · obtain rfl : k = ds.length := by omega
      have HK := Lib.hid hK
      clear hK hs hin
      go_wp2_with fail
      go_ret
      exact ⟨rfl, HK.out⟩
end Go.Proofs.Ytefdemebmibonaa
