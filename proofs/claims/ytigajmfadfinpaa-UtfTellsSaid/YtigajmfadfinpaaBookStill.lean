/-
  truchmanbook.Book.stillInts, markedInts: their contracts.
-/
import Derived.Test.YtigajmfadfinpaaBookNone
import Derived.Deep.RegionHeld
namespace Go.Tru
/-- two slices of the same numbers -/
def PairAt (w : World) (v u : Value) : Prop := ∃ (o o' : Option Addr) (c c' : Nat) (xs : List Int), v = .slice o xs.length c ∧ u = .slice o' xs.length c' ∧ IntsIn w o xs.length c xs ∧ IntsIn w o' xs.length c' xs

theorem PairAt.keep0 {w w' : World} {v u : Value} (h : PairAt w v u) (k : Keeps [] w w') : PairAt w' v u := by
  obtain ⟨o, o', c, c', xs, h1, h2, h3, h4⟩ := h
  exact ⟨o, o', c, c', xs, h1, h2, h3.keeps k, h4.keeps k⟩

/-- slices in a row, readable -/
structure SlcsIn (w : World) (o : Option Addr) (n c : Nat) (vs : List Value) : Prop where
  len : vs.length = n
  room : n ≤ c
  most : c ≤ maxLen
  at_ : n = 0 ∨ ∃ g, o = some ⟨g, 0, none⟩ ∧ g < w.heap.size ∧ ∀ (i : Nat) (v : Value), vs[i]? = some v → w.cell? ⟨g, i, none⟩ = some v

theorem SlcsIn.keep0 {w w' : World} {o : Option Addr} {n c : Nat} {vs : List Value} (h : SlcsIn w o n c vs) (k : Keeps [] w w') : SlcsIn w' o n c vs :=
  ⟨h.len, h.room, h.most, h.at_.imp id fun ⟨g, h1, h2, h3⟩ => ⟨g, h1, Nat.lt_of_lt_of_le h2 k.size, fun i v hv => k.cell (h3 i v hv) (by simp)⟩⟩

theorem SlcsIn.get {w : World} {o : Option Addr} {n c : Nat} {vs : List Value} (h : SlcsIn w o n c vs) {k : Nat} (hk : k < n) : ∃ g, o = some ⟨g, 0, none⟩ ∧ ∃ v, vs[k]? = some v ∧ w.cell? ⟨g, k, none⟩ = some v := by
  have hl := h.len
  rcases h.at_ with h0 | ⟨g, h1, _, h3⟩
  · omega
  · have hv : vs[k]? = some vs[k] := List.getElem?_eq_getElem (by omega)
    exact ⟨g, h1, _, hv, h3 k _ hv⟩

theorem slcsIn_of_owns {w : World} {base : Nat} {v : Value} {vs : List Value} (h : OwnsRows w base v vs) : ∃ o c, v = .slice o vs.length c ∧ SlcsIn w o vs.length c vs := by
  have hlt := h.lt
  rcases h.2 with ⟨rfl, h0⟩ | ⟨g, cap, cur, rfl, hb, hg, hn, hm, _⟩
  · exact ⟨none, 0, by rw [h0], rfl, by omega, Nat.zero_le _, Or.inl h0⟩
  · refine ⟨_, cap, rfl, rfl, hn, hm, Or.inr ⟨g, rfl, (hlt g rfl).2, fun i u hu => ?_⟩⟩
    have hl : i < vs.length := (List.getElem?_eq_some_iff.1 hu).1
    rw [World.ownsRow.cellAt h i (by omega)]
    exact hu

/-- a slice that holds its list's marks -/
def MarkedAt (w : World) (i : Nat) (v : Value) : Prop := ∃ (o : Option Addr) (c m : Nat), v = .slice o m c ∧ m ≤ 10000 ∧ IntsIn w o m c (marksI i 0 m)

theorem MarkedAt.keep0 {w w' : World} {i : Nat} {v : Value} (h : MarkedAt w i v) (k : Keeps [] w w') : MarkedAt w' i v := by
  obtain ⟨o, c, m, h1, h2, h3⟩ := h
  exact ⟨o, c, m, h1, h2, h3.keeps k⟩

theorem own_block_slice {w : World} {base : Nat} {v : Value} {xs : List Int} (h : OwnsInts w base v xs) (hx : 0 < xs.length) : ∃ g cap, v = .slice (some ⟨g, 0, none⟩) xs.length cap := by
  rcases h.2 with ⟨h1, h2⟩ | ⟨g, cap, cur, h1, _⟩
  · omega
  · exact ⟨g, cap, h1⟩
end Go.Tru
namespace Go.Proofs.Ytigajmfadfinpaa
open Go.RowKit Go.Tru

set_option maxHeartbeats 1600000 in
theorem stillInts_yes {w : World} {base b : Nat} {iv wv : Value} {vs us : List Value} (h : BookIn w base b iv wv vs us) (hn : vs.length = us.length)
    (hp : ∀ (i : Nat) (v u : Value), vs[i]? = some v → us[i]? = some u → PairAt w v u) :
    Calls Try.prog 21 #[.pointer (some ⟨b, 0, none⟩)] w fun e w' => e = .returned (.bool true) ∧ Keeps [] w w' := by
  obtain ⟨-, -, q2, q3, -, -⟩ := h.cells
  obtain ⟨oi, ci, rfl, hi⟩ := slcsIn_of_owns h.ints
  obtain ⟨ow, cw, rfl, hw⟩ := slcsIn_of_owns h.was
  rw [← hn] at q3 hw
  have m1 := hi.most
  have m2 := hi.room
  have m3 := hw.most
  have m4 := hw.room
  unfold maxLen at m1 m3
  have HI := Lib.hid hi
  have HW := Lib.hid hw
  have HP := Lib.hid hp
  clear h hi hw hp hn
  go_enter Try.func21, Try.ntmps21
  go_wp2_with fail
  go_loopw [3] (fun i wr => ∃ k : Nat, k ≤ vs.length ∧ i = .int .i64 k ∧ Keeps [] w wr) (fun i _ => vs.length - (intOf i).toNat)
  case atStart => exact ⟨0, Nat.zero_le _, rfl, Keeps.refl _ _⟩
  case round =>
    obtain ⟨k, hk, rfl, hK⟩ := hrel
    have e2 := hK.cell q2 (by simp)
    have e3 := hK.cell q3 (by simp)
    have HK := Lib.hid hK
    clear hK
    by_cases hlt : k < vs.length
    · have hi : (k : Int) < (vs.length : Int) := by omega
      obtain ⟨gi, rfl, v, hv, cv⟩ := (HI.out.keep0 HK.out).get hlt
      obtain ⟨gw, rfl, u, hu, cu⟩ := (HW.out.keep0 HK.out).get hlt
      obtain ⟨o1, o2, c1, c2, xs, rfl, rfl, p1, p2⟩ := (HP.out k v u hv hu).keep0 HK.out
      have hs := fun W (kk : Keeps [] wr W) => sameInts_any _ _ _ _ _ _ _ _ W (p1.keeps kk) (p2.keeps kk)
      rw [decide_eq_true rfl] at hs
      have HS := Lib.hid hs
      clear hs p1 p2 hv hu
      go_wp2_with fail
      go_region_held (fun W => W.cell? ⟨b, 2, none⟩ = some (.slice (some ⟨gi, 0, none⟩) vs.length ci) ∧ W.cell? ⟨b, 3, none⟩ = some (.slice (some ⟨gw, 0, none⟩) vs.length cw) ∧ W.cell? ⟨gi, k, none⟩ = some (.slice o1 xs.length c1) ∧ W.cell? ⟨gw, k, none⟩ = some (.slice o2 xs.length c2)) (go_keep) ((go_at_call 15; refine (HS.out _ (by first | exact Keeps.refl [] _ | exact (Keeps.refl [] _).drew | exact (Keeps.refl [] _).drewN _)).mono ?_; rintro e w4 ⟨rfl, k4⟩; have d1 := k4.cell (p := ⟨b, 2, none⟩) e2 (by simp); have d2 := k4.cell (p := ⟨b, 3, none⟩) e3 (by simp); have d3 := k4.cell (p := ⟨gi, k, none⟩) cv (by simp); have d4 := k4.cell (p := ⟨gw, k, none⟩) cu (by simp)))
      all_goals
        have K4 := Lib.hid (HK.out.trans (((Keeps.refl [] wr).drew).trans k4))
        clear d1 d2 d3 d4 k4
        go_wp2_with fail
        go_roundw
        case rel => exact ⟨k + 1, by omega, by go_num, K4.out⟩
        case measure => simp [intOf]; omega
    · have hge : ¬ (k : Int) < (vs.length : Int) := by omega
      go_wp2_with fail
      go_ret
      exact ⟨rfl, HK.out⟩

set_option maxHeartbeats 1600000 in
theorem markedInts_yes {w : World} {o : Option Addr} {n c : Nat} {vs : List Value} (h : SlcsIn w o n c vs) (hn : n ≤ 2)
    (hp : ∀ (i : Nat) (v : Value), vs[i]? = some v → MarkedAt w i v) :
    Calls Try.prog 30 #[.slice o n c] w fun e w' => e = .returned (.bool true) ∧ Keeps [] w w' := by
  have m1 := h.most
  have m2 := h.room
  unfold maxLen at m1
  have HI := Lib.hid h
  have HP := Lib.hid hp
  clear h hp
  go_enter Try.func30, Try.ntmps30
  go_wp2_with fail
  go_loopw [3] (fun i wr => ∃ k : Nat, k ≤ n ∧ i = .int .i64 k ∧ Keeps [] w wr) (fun i _ => n - (intOf i).toNat)
  case atStart => exact ⟨0, Nat.zero_le _, rfl, Keeps.refl _ _⟩
  case round =>
    obtain ⟨k, hk, rfl, hK⟩ := hrel
    have HK := Lib.hid hK
    clear hK
    by_cases hlt : k < n
    · have hi : (k : Int) < (n : Int) := by omega
      obtain ⟨gi, rfl, v, hv, cv⟩ := (HI.out.keep0 HK.out).get hlt
      obtain ⟨o1, c1, m, rfl, hm, p1⟩ := (HP.out k v hv).keep0 HK.out
      have hmk : ∀ W, Calls Try.prog 35 #[.int .i64 k, .int .i64 0, .int .i64 m] W fun e w' => ∃ v, e = .returned v ∧ OwnsInts w' W.heap.size v (marksI k 0 m) ∧ Keeps [] W w' := fun W => markInts_any k 0 m (by omega) (by omega) (by omega) W
      have HMK := Lib.hid hmk
      have HP1 := Lib.hid p1
      have HM := Lib.hid hm
      clear hmk p1 hv hm
      go_wp2_with fail
      go_region_held (fun W => W.cell? ⟨gi, k, none⟩ = some (.slice o1 m c1)) (go_keep) ((first | (go_at_call 35; refine (HMK.out _).mono ?_; rintro e w5 ⟨v5, rfl, hown5, k5⟩; obtain ⟨o5, c5, hv5, hin5⟩ := intsIn_of_owns hown5 (marksI_in k 0 m (by omega) (by omega) (by have := HM.out; omega)); rw [marksI_len] at hv5 hin5; subst hv5; have HIN5 := Lib.hid hin5; have HK5 := Lib.hid (show Keeps [] wr w5 from by first | exact k5 | exact ((Keeps.refl [] _).drew).trans k5); have d5 := HK5.out.cell (p := ⟨gi, k, none⟩) cv (by simp); clear hown5 k5 hin5) | (go_at_call 15; refine (sameInts_any _ _ _ _ _ _ _ _ _ (HP1.out.keeps (by first | exact HK5.out | exact (HK5.out).drew)) (HIN5.out.keeps (by first | exact Keeps.refl [] _ | exact (Keeps.refl [] _).drew))).mono ?_; rintro e w6 ⟨rfl, k6⟩; have d6 := k6.cell (p := ⟨gi, k, none⟩) d5 (by simp); rw [decide_eq_true rfl])))
      all_goals
        have K6 := Lib.hid ((HK.out.trans HK5.out).trans k6)
        clear d5 d6 k6
        go_wp2_with fail
        go_roundw
        case rel => exact ⟨k + 1, by omega, by go_num, K6.out⟩
        case measure => simp [intOf]; omega
    · have hge : ¬ (k : Int) < (n : Int) := by omega
      go_wp2_with fail
      go_ret
      exact ⟨rfl, HK.out⟩
end Go.Proofs.Ytigajmfadfinpaa
