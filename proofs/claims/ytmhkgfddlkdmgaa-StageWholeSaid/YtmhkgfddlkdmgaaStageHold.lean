/-
  stage.Stage's hold, New, Held, Empty: their contracts.
-/
import Derived.Test.YtmhkgfddlkdmgaaStageMem
import Derived.Deep.QuietTactic
import Derived.BigQuiet
import Derived.Deep.RegionWith
import Derived.WalkLawsBesides
namespace Go.Proofs.Ytmhkgfddlkdmgaa
open Go.RowKit Go.Tru

theorem st_facts {w : World} {b : Nat} {l s e : Int} {hv ov : Value} {t : TypeId} (h : Has w b [.int .i64 l, hv, .int .i64 s, ov, .int .i64 e] t) :
    w.cell? ⟨b, 0, none⟩ = some (.int .i64 l) ∧ w.cell? ⟨b, 1, none⟩ = some hv ∧ w.cell? ⟨b, 2, none⟩ = some (.int .i64 s) ∧ w.cell? ⟨b, 3, none⟩ = some ov ∧ w.cell? ⟨b, 4, none⟩ = some (.int .i64 e) :=
  ⟨h.cell 0, h.cell 1, h.cell 2, h.cell 3, h.cell 4⟩
theorem st_free {w : World} {b : Nat} {l : List Value} {t : TypeId} (h : Has w b l t) :
    w.frozen? ⟨b, 0, none⟩ = false ∧ w.frozen? ⟨b, 1, none⟩ = false ∧ w.frozen? ⟨b, 2, none⟩ = false ∧ w.frozen? ⟨b, 3, none⟩ = false ∧ w.frozen? ⟨b, 4, none⟩ = false :=
  ⟨h.free 0, h.free 1, h.free 2, h.free 3, h.free 4⟩

/-- what the Stage may take -/
structure HoldFit (s : St) (base : Nat) (w : World) : Prop where
  err : s.e = 0
  size : 0 ≤ s.size ∧ s.size ≤ 1000000
  lim : 0 ≤ s.limit ∧ s.limit ≤ 2000
  len : s.held.length ≤ 1000000
  base_ : base ≤ w.heap.size

theorem st_new_in (w : World) (x : Int) : StIn (w.alloc (.cells #[.int .i64 x, .slice none 0 0, .int .i64 0, .slice none 0 0, .int .i64 0] 57)) w.heap.size w.heap.size (.slice none 0 0) (.slice none 0 0) (St.new x) :=
  ⟨Has.new' w _ _ rfl, OwnsAny.nil _ _, OwnsOpn.nil _ _, by simp [blks_nil], by simp [blks_nil], by simp [blks_nil]⟩

theorem new_any (n : Int) (w : World) :
    Calls Try.prog 6 #[.int .i64 n] w fun r w' => r = .returned (.pointer (some ⟨w.heap.size, 0, none⟩)) ∧ StIn w' w.heap.size w.heap.size (.slice none 0 0) (.slice none 0 0) (St.new (min (max n 0) 2000)) ∧ Keeps [] w w' := by
  by_cases h0 : n < 0
  · have e : min (max n 0) 2000 = 0 := by omega
    rw [e]
    clear e
    go_enter Try.func6, Try.ntmps6
    go_wp2
    go_ret
    exact ⟨rfl, st_new_in w _, (Keeps.refl _ _).alloc _⟩
  · by_cases h1 : 2000 < n
    · have e : min (max n 0) 2000 = 2000 := by omega
      rw [e]
      clear e
      go_enter Try.func6, Try.ntmps6
      go_wp2
      go_ret
      exact ⟨rfl, st_new_in w _, (Keeps.refl _ _).alloc _⟩
    · have e : min (max n 0) 2000 = n := by omega
      rw [e]
      clear e
      go_enter Try.func6, Try.ntmps6
      go_wp2
      go_ret
      exact ⟨rfl, st_new_in w _, (Keeps.refl _ _).alloc _⟩

theorem held_any (s : St) (w : World) (base b : Nat) (hv ov : Value) (h : StIn w base b hv ov s) :
    Calls Try.prog 12 #[.pointer (some ⟨b, 0, none⟩)] w fun r w' => r = .returned (.int .i64 s.size) ∧ w = w' := by
  obtain ⟨g0, g1, g2, g3, g4⟩ := st_facts h.blk
  clear h
  go_enter Try.func12, Try.ntmps12
  go_wp2
  go_ret
  exact ⟨rfl, rfl⟩

theorem empty_any (s : St) (w : World) (base b : Nat) (hv ov : Value) (h : StIn w base b hv ov s) :
    Calls Try.prog 10 #[.pointer (some ⟨b, 0, none⟩)] w fun r w' => r = .returned (.bool (decide (s.e = 0) && s.held.isEmpty)) ∧ w = w' := by
  obtain ⟨a, cap, rfl⟩ := h.held.shape
  obtain ⟨g0, g1, g2, g3, g4⟩ := st_facts h.blk
  clear h
  have hl := len_beq s.held
  generalize s.held.isEmpty = E at hl ⊢
  by_cases he : s.e = 0
  · have he' : (s.e == 0) = true := by simp [he]
    simp only [he, decide_true, Bool.true_and]
    clear he
    go_enter Try.func10, Try.ntmps10
    go_wp2
    go_ret
    exact ⟨rfl, rfl⟩
  · have he' : (s.e == 0) = false := by simp [he]
    simp only [he, decide_false, Bool.false_and]
    clear he
    go_enter Try.func10, Try.ntmps10
    go_wp2
    go_ret
    exact ⟨rfl, rfl⟩

set_option maxHeartbeats 800000 in
theorem hold_any (s : St) (p : Ev) (hp : Clear p) (hps : p.text.size ≤ 1000000) (w : World) (base b : Nat) (hv ov : Value) (h : StIn w base b hv ov s) (hf : HoldFit s base w) :
    Calls Try.prog 16 #[.pointer (some ⟨b, 0, none⟩), p.part] w fun r w' => r = .returned (.int .i64 (s.hold p).e) ∧ StPost w base b hv ov (s.hold p) w' := by
  obtain ⟨hf1, ⟨hf2, hf3⟩, ⟨hf4, hf5⟩, hf6, hf7⟩ := hf
  have hz0 : 1 ≤ p.size := by unfold Ev.size; omega
  have hz1 : p.size ≤ 1000001 := by unfold Ev.size; omega
  have hsa := fun W => size_any p hp (by unfold maxLen; omega) W
  have H := Lib.hid h
  have HE := Lib.hid hf1
  obtain ⟨g0, g1, g2, g3, g4⟩ := st_facts h.blk
  obtain ⟨f0, f1, f2, f3, f4⟩ := st_free h.blk
  obtain ⟨pv, hpv⟩ : ∃ pv, p.part = pv := ⟨_, rfl⟩
  have hform := part_form p
  rw [hpv] at hsa hform ⊢
  have HSA := Lib.hid hsa
  have HPV := Lib.hid hpv
  clear h hsa hf1 hpv
  rcases hform with rfl | ⟨T, v, rfl⟩
  all_goals
    go_enter Try.func16, Try.ntmps16
    go_wp2_with (at_builtin; go_must (refine app_any rfl _ _ rfl base _ s.held rfl (ownsRow_keeps H.out.held ((Keeps.refl [] _).alloc _) (by simp)) ⟨_, 0, none⟩ 1 1 [p] rfl rfl (new_part HPV.out rfl) (by omega) (by simp; omega) ?_))
    intro v2 w2 hown2 hk2 _hnil hblk2
    obtain ⟨o2, c2, hv2⟩ := hown2.shape
    rw [List.length_append, List.length_singleton] at hv2
    subst hv2
    have hset := StIn.setHeld H.out hown2 (((Keeps.refl _ _).alloc _).trans hk2) (hblk2.imp id (fun h => ⟨_, h, by simp⟩))
    have hb2 := (H.out.blk.alloc _).keeps hk2 H.out.bh
    obtain ⟨g0, g1, g2, g3, g4⟩ := st_facts hb2
    obtain ⟨f0, f1, f2, f3, f4⟩ := st_free hb2
    have HSET := Lib.hid hset
    clear hset hb2 hown2 hk2 _hnil hblk2
    go_wp2_with fail
    obtain ⟨w3, hw3⟩ : ∃ w3, w3 = w2.setCell ⟨b, 1, none⟩ (.slice o2 (s.held.length + 1) c2) := ⟨_, rfl⟩
    have hset := HSET.out
    rw [← hw3] at hset ⊢
    clear HSET hw3 g0 g1 g2 g3 g4 f0 f1 f2 f3 f4
    obtain ⟨hs3, hk3, hb3⟩ := hset
    obtain ⟨g0, g1, g2, g3, g4⟩ := st_facts hs3.blk
    obtain ⟨f0, f1, f2, f3, f4⟩ := st_free hs3.blk
    have HS3 := Lib.hid hs3
    have HK3 := Lib.hid hk3
    have HB3 := Lib.hid hb3
    clear hs3 hk3 hb3
    have hwr : IntKind.i64.wrap (s.size + p.size) = s.size + p.size := IntWalk.i64_in _ (by omega)
    go_region_with (go_at_call 23; refine (HSA.out _).mono ?_; rintro e w4 ⟨rfl, k4⟩; have g2 := (HS3.out.blk.drew.keeps k4 (by simp)).cell 2; have f2 := (HS3.out.blk.drew.keeps k4 (by simp)).free 2; simp only [List.getElem?_cons_zero, List.getElem?_cons_succ] at g2)
    all_goals
      clear hwr
      obtain ⟨w5, hw5⟩ : ∃ w5, w5 = w4.setCell ⟨b, 2, none⟩ (.int .i64 (s.size + p.size)) := ⟨_, rfl⟩
      have k34 : Keeps [] w3 w4 := (Keeps.refl [] w3).drew.trans k4
      have hs5 := (HS3.out.keep0 k34).setSize (s.size + p.size)
      have hk5 : Keeps (stBlks b hv ov) w (w4.setCell ⟨b, 2, none⟩ (.int .i64 (s.size + p.size))) := (HK3.out.trans (k34.mono (by simp))).setCell (Or.inl (List.mem_cons_self ..)) _
      rw [← hw5] at hs5 hk5 ⊢
      clear hw5 k34 k4 g0 g1 g2 g3 g4 f0 f1 f2 f3 f4
      obtain ⟨g0, g1, g2, g3, g4⟩ := st_facts hs5.blk
      obtain ⟨f0, f1, f2, f3, f4⟩ := st_free hs5.blk
      have HS5 := Lib.hid hs5
      have HK5 := Lib.hid hk5
      clear hs5 hk5
      by_cases hov : s.limit < s.size + p.size
      · have hh : s.hold p = stBad := by unfold St.hold; rw [if_pos hov]
        have HH := Lib.hid hh
        clear hh
        go_wp2_with fail
        go_quiet (fail)
        go_wp2_with fail
        go_ret
        refine ⟨by rw [HH.out]; rfl, ?_⟩
        rw [HH.out]
        exact stBad_post (HS5.out.keep0 ((Keeps.refl [] _).drewN _)) (HK5.out.drewN _)
      · have hh : s.hold p = { s with held := s.held ++ [p], size := s.size + p.size } := by unfold St.hold; rw [if_neg hov]
        have HH := Lib.hid hh
        clear hh
        go_wp2_with fail
        go_quiet (fail)
        go_wp2_with fail
        go_ret
        refine ⟨by rw [HH.out]; rfl, ?_⟩
        rw [HH.out]
        exact ⟨_, _, HS5.out.keep0 ((Keeps.refl [] _).drewN _), HK5.out.drewN _, HB3.out⟩
end Go.Proofs.Ytmhkgfddlkdmgaa
