/-
  truchmanbook.Book.growInts: its contract.
-/
import Derived.Test.YtigajmfadfinpaaBookStill
namespace Go.Tru

/-- a slice still holds its list's marks -/
def StillAt (w : World) (k n : Nat) (v : Value) : Prop :=
  v = .slice none 0 0 ∧ n = 0 ∨ ∃ g c, v = .slice (some ⟨g, 0, none⟩) n c ∧ n ≤ c ∧ c ≤ maxLen ∧ g < w.heap.size ∧ ∀ (i : Nat) (x : Int), (marksI k 0 n)[i]? = some x → w.cell? ⟨g, i, none⟩ = some (.int .i64 x)

theorem StillAt.of_owns {w : World} {base k n : Nat} {v : Value} (h : OwnsInts w base v (marksI k 0 n)) : StillAt w k n v := by
  have hlt := h.lt
  rcases h.2 with ⟨h1, h2⟩ | ⟨g, cap, cur, rfl, hb, hg, hn, hm, _⟩
  · rw [marksI_len] at h2
    exact Or.inl ⟨h1, h2⟩
  · rw [marksI_len] at hn
    refine Or.inr ⟨g, cap, by rw [marksI_len], hn, hm, (hlt g rfl).2, fun i x hx => ?_⟩
    have hl : i < (marksI k 0 n).length := (List.getElem?_eq_some_iff.1 hx).1
    rw [World.ownsRow.cellAt h i (by omega)]
    simp [hx]

theorem StillAt.keepF {F : List Nat} {w w' : World} {k n : Nat} {v : Value} (h : StillAt w k n v) (kk : Keeps F w w') (hF : ∀ x ∈ blks v, x ∉ F) : StillAt w' k n v := by
  rcases h with h | ⟨g, c, rfl, h2, h3, h4, h5⟩
  · exact Or.inl h
  · exact Or.inr ⟨g, c, rfl, h2, h3, Nat.lt_of_lt_of_le h4 kk.size, fun i x hx => kk.cell (h5 i x hx) (hF g (mem_blks.2 rfl))⟩

theorem StillAt.marked {w : World} {k n : Nat} {v : Value} (h : StillAt w k n v) (hk : k ≤ 2) (hn : n ≤ 10000) : MarkedAt w k v := by
  have hfit := marksI_in k 0 n hk (by omega) (by omega)
  rcases h with ⟨rfl, rfl⟩ | ⟨g, c, rfl, h2, h3, h4, h5⟩
  · exact ⟨none, 0, 0, rfl, by omega, rfl, Nat.le_refl _, Nat.zero_le _, Or.inl rfl, hfit⟩
  · exact ⟨_, c, n, rfl, hn, by rw [marksI_len], h2, h3, Or.inr ⟨g, 0, rfl, h4, fun i x hx => by rw [Nat.zero_add]; exact h5 i x hx⟩, hfit⟩

theorem MarkedAt.keepF {F : List Nat} {w w' : World} {i : Nat} {v : Value} (h : MarkedAt w i v) (kk : Keeps F w w') (hF : ∀ x ∈ blks v, x ∉ F) : MarkedAt w' i v := by
  obtain ⟨o, c, m, rfl, h2, h3⟩ := h
  refine ⟨o, c, m, rfl, h2, h3.len, h3.room, h3.most, h3.at_.imp id fun ⟨b, off, e1, e2, e3⟩ => ⟨b, off, e1, Nat.lt_of_lt_of_le e2 kk.size, fun j x hx => kk.cell (e3 j x hx) (hF b (mem_blks.2 (by rw [e1]; rfl)))⟩, h3.fit⟩

theorem MarkedAt.of_owns {w : World} {base i m : Nat} {v : Value} (h : OwnsInts w base v (marksI i 0 m)) (hi : i ≤ 2) (hm : m ≤ 10000) : MarkedAt w i v :=
  (StillAt.of_owns h).marked hi hm

/-- list k while it grows: it grew where it lay, or lies anew -/
structure GrIn (wo : World) (base k n : Nat) (v : Value) (m : Nat) (l : Value) (wr : World) : Prop where
  own : OwnsInts wr base l (marksI k 0 m)
  keep : Keeps (blks v) wo wr
  where_ : l.ownBlock = v.ownBlock ∨ ∀ x ∈ blks l, wo.heap.size ≤ x
  still : StillAt wr k n v
  more : n ≤ m

theorem GrIn.step {wo wr w5 w6 : World} {base k n m p : Nat} {v l l6 : Value} (h : GrIn wo base k n v m l wr) (hv : ∀ x ∈ blks v, x < wo.heap.size) (k5 : Keeps [] wr w5) (hown : OwnsInts w6 base l6 (marksI k 0 m ++ marksI k m p)) (k6 : Keeps (blks l) w5 w6)
    (hb : l6.ownBlock = l.ownBlock ∨ l6.ownBlock = some w5.heap.size ∧ Keeps [] w5 w6) : GrIn wo base k n v (m + p) l6 w6 := by
  have e : marksI k 0 (m + p) = marksI k 0 m ++ marksI k m p := by rw [marksI_add]; simp
  rw [← e] at hown
  have hz : wo.heap.size ≤ w5.heap.size := Nat.le_trans h.keep.size k5.size
  have hK5 : Keeps (blks v) wo w5 := h.keep.trans (k5.mono (by simp))
  refine ⟨hown, hK5.trans' k6 (fun i hi => ?_), ?_, ?_, by have := h.more; omega⟩
  · rcases h.where_ with h1 | h1
    · exact Or.inl (mem_blks.2 (h1 ▸ mem_blks.1 hi))
    · exact Or.inr (h1 i hi)
  · rcases hb with h1 | ⟨h1, _⟩
    · rcases h.where_ with h2 | h2
      · exact Or.inl (h1.trans h2)
      · exact Or.inr (fun x hx => h2 x (mem_blks.2 (h1 ▸ mem_blks.1 hx)))
    · right
      intro x hx
      rw [mem_blks, h1] at hx
      injection hx with hx
      omega
  · have hs5 := h.still.keepF k5 (by simp)
    rcases hb with h1 | ⟨_, h1⟩
    · rcases h.where_ with h2 | h2
      · rcases hs5 with hs5 | ⟨g, c, rfl, a1, a2, a3, a4⟩
        · exact Or.inl hs5
        · have hl6 : l6.ownBlock = some g := h1.trans h2
          have hlt := (World.ownsRow.lt hown g hl6).2
          have hcells := World.ownsRow.cells hown hl6
          refine Or.inr ⟨g, c, rfl, a1, a2, hlt, fun i x hx => ?_⟩
          have hi : i < n := by have := (List.getElem?_eq_some_iff.1 hx).1; rwa [marksI_len] at this
          have hx2 : (marksI k 0 (m + p))[i]? = some x := by
            have := h.more
            rw [show m + p = n + (m + p - n) by omega, marksI_add, List.getElem?_append_left (by rw [marksI_len]; exact hi)]
            exact hx
          have := hcells i (.int .i64 x) (by rw [List.getElem?_map, hx2]; rfl)
          rw [show (⟨g, 0, none⟩ : Addr).add i = ⟨g, i, none⟩ from by unfold Addr.add; split <;> simp_all] at this
          exact this
      · exact hs5.keepF k6 (fun x hx hm => by
          have e1 := hv x hx
          have e2 := h2 x hm
          omega)
    · exact hs5.keepF h1 (by simp)
end Go.Tru
namespace Go.Proofs.Ytigajmfadfinpaa
open Go.RowKit Go.Tru

/-- what has grown so far -/
def GwRel (w : World) (base : Nat) (vs : List Value) (ns : Nat → Nat) (out i : Value) (wr : World) : Prop :=
  ∃ (k : Nat) (gs : List Value), k ≤ vs.length ∧ i = .int .i64 k ∧ gs.length = k ∧ OwnsRows wr w.heap.size out gs ∧
    (∀ (i : Nat) (g : Value), gs[i]? = some g → MarkedAt wr i g ∧ ∀ x ∈ blks g, x ∉ blks out ∧ x < wr.heap.size ∧ (w.heap.size ≤ x ∨ ∃ v, vs[i]? = some v ∧ x ∈ blks v)) ∧
    (∀ (i : Nat) (v : Value), vs[i]? = some v → StillAt wr i (ns i) v ∧ (k ≤ i → OwnsInts wr base v (marksI i 0 (ns i)))) ∧ Keeps (vs.flatMap blks) w wr

set_option maxHeartbeats 3200000 in
set_option maxRecDepth 100000 in
theorem growInts_any {w : World} {base b : Nat} {iv wv : Value} {vs us : List Value} (ns : Nat → Nat) (h : BookIn w base b iv wv vs us) (hn : vs.length ≤ 2) (hx : ∀ i, ns i ≤ 5000) (hbase : base ≤ w.heap.size)
    (hrow : ∀ (i : Nat) (v : Value), vs[i]? = some v → OwnsInts w base v (marksI i 0 (ns i)))
    (hd : ∀ (i j : Nat) (v u : Value), vs[i]? = some v → vs[j]? = some u → i ≠ j → ∀ x ∈ blks v, x ∉ blks u)
    (hsep : ∀ (i : Nat) (v : Value), vs[i]? = some v → ∀ x ∈ blks v, x ≠ b ∧ x ∉ blks iv ∧ x ∉ blks wv) :
    Calls Try.prog 27 #[.pointer (some ⟨b, 0, none⟩)] w fun e w' => ∃ out gs, e = .returned out ∧ gs.length = vs.length ∧ OwnsRows w' w.heap.size out gs ∧
      (∀ (i : Nat) (g : Value), gs[i]? = some g → MarkedAt w' i g) ∧ (∀ (i : Nat) (v : Value), vs[i]? = some v → MarkedAt w' i v) ∧ Keeps (vs.flatMap blks) w w' := by
  obtain ⟨-, -, q2, -, -, -⟩ := h.cells
  obtain ⟨oi, ci, rfl, hi⟩ := slcsIn_of_owns h.ints
  have m1 := hi.most
  have m2 := hi.room
  unfold maxLen at m1
  have hbl := h.blk.lt
  have HI := Lib.hid hi
  have HX := Lib.hid hx
  have HR := Lib.hid hrow
  have HD := Lib.hid hd
  have HS := Lib.hid hsep
  have HBS := Lib.hid hbase
  clear h hi hx hrow hd hsep hbase
  have hbf : b ∉ vs.flatMap blks := fun hm => by
    obtain ⟨v, hv, hb⟩ := List.mem_flatMap.1 hm
    obtain ⟨i, hi, rfl⟩ := List.getElem_of_mem hv
    exact (HS.out i _ (List.getElem?_eq_getElem hi) b hb).1 rfl
  have hgf : ∀ g ∈ blks (.slice oi vs.length ci), g ∉ vs.flatMap blks := fun g hg hm => by
    obtain ⟨v, hv, hb⟩ := List.mem_flatMap.1 hm
    obtain ⟨i, hi, rfl⟩ := List.getElem_of_mem hv
    exact (HS.out i _ (List.getElem?_eq_getElem hi) g hb).2.1 hg
  have HBF := Lib.hid hbf
  have HGF := Lib.hid hgf
  clear hbf hgf
  go_enter Try.func27, Try.ntmps27
  go_wp2_with fail
  go_loopw [3, 4] (fun out i wr => GwRel w base vs ns out i wr) (fun _ i _ => vs.length - (intOf i).toNat)
  case atStart => exact ⟨0, [], Nat.zero_le _, rfl, rfl, OwnsRows.nil _ _, by simp, fun i v hv => ⟨StillAt.of_owns (HR.out i v hv), fun _ => HR.out i v hv⟩, Keeps.refl _ _⟩
  case round =>
    obtain ⟨k, gs, hk, rfl, hgl, hout, hgs, hvs, hK⟩ := hrel
    have e2 := hK.cell q2 HBF.out
    have HK := Lib.hid hK
    have HG := Lib.hid hgs
    have HVS := Lib.hid hvs
    have HO := Lib.hid hout
    have HGL := Lib.hid hgl
    clear hK hgs hvs hgl
    by_cases hlt : k < vs.length
    · have hi : (k : Int) < (vs.length : Int) := by omega
      obtain ⟨gi, rfl, v, hv, cv0⟩ := HI.out.get hlt
      have hgi : gi ∈ blks (.slice (some ⟨gi, 0, none⟩) vs.length ci) := mem_blks.2 rfl
      have cv := HK.out.cell cv0 (HGF.out gi hgi)
      obtain ⟨hstill, hown0⟩ := HVS.out k v hv
      have hown := hown0 (Nat.le_refl _)
      obtain ⟨N, hN⟩ : ∃ N, ns k = N := ⟨_, rfl⟩
      rw [hN] at hown hstill
      have hN1 : N ≤ 5000 := hN ▸ HX.out k
      obtain ⟨ov, c1, hvv⟩ := hown.shape
      rw [marksI_len] at hvv
      subst hvv
      obtain ⟨oo, co, hoo⟩ := hout.shape
      subst hoo
      have hvl0 := World.ownsRow.lt (HR.out k _ hv)
      have HVL := Lib.hid (fun x (hx : x ∈ blks (.slice ov N c1)) => (hvl0 x (mem_blks.1 hx)).2)
      have HGR := Lib.hid (show GrIn wr base k N (.slice ov N c1) N (.slice ov N c1) wr from ⟨hown, Keeps.refl _ _, Or.inl rfl, hstill, Nat.le_refl _⟩)
      have HV := Lib.hid hv
      have HN := Lib.hid hN
      have hzw := HK.out.size
      obtain ⟨wo, rfl⟩ : ∃ wo : World, wo = wr := ⟨_, rfl⟩
      clear hown hown0 hstill hv hN cv0 hout hvl0
      go_wp2_with fail
      go_loopw [5, 6] (fun l j wr => ∃ jn : Nat, jn ≤ 12 ∧ j = .int .i64 jn ∧ GrIn wo base k N (.slice ov N c1) (N + jn) l wr) (fun _ j _ => 12 - (intOf j).toNat)
      case atStart => exact ⟨0, Nat.zero_le _, rfl, HGR.out⟩
      case round =>
        obtain ⟨j, hj, rfl, hgr⟩ := hrel
        obtain ⟨ol, cl, hll⟩ := hgr.own.shape
        rw [marksI_len] at hll
        subst hll
        have HG2 := Lib.hid hgr
        clear hgr
        by_cases hj12 : j < 12
        · have hji : (j : Int) < 12 := by omega
          have hmk : ∀ W, Calls Try.prog 35 #[.int .i64 k, .int .i64 ((N + j : Nat) : Int), .int .i64 1] W fun e w' => ∃ v, e = .returned v ∧ OwnsInts w' W.heap.size v (marksI k (N + j) 1) ∧ Keeps [] W w' := fun W => markInts_any k (N + j) 1 (by omega) (by omega) (by omega) W
          have HMK := Lib.hid hmk
          clear hmk
          go_wp2_with fail
          refine (HMK.out _).mono ?_
          rintro e w5 ⟨v5, rfl, hown5, k5⟩
          obtain ⟨g5, c5, hs5⟩ := own_block_slice hown5 (by rw [marksI_len]; omega)
          rw [marksI_len] at hs5
          subst hs5
          have HC5 := Lib.hid (World.ownsRow.cells hown5 (g := g5) rfl)
          have K5 := Lib.hid k5
          have hb5 : base ≤ w5.heap.size := by
            have h1 := HBS.out
            have h2 := HG2.out.keep.size
            have h3 := k5.size
            omega
          clear hown5 k5 HMK
          go_wp2_with (at_builtin; go_must (refine app_ints rfl _ _ rfl base (.slice ol (N + j) cl) (marksI k 0 (N + j)) rfl (ownsRow_keeps HG2.out.own K5.out (by simp)) ⟨g5, 0, none⟩ 1 c5 (marksI k (N + j) 1) rfl (marksI_len ..) HC5.out (by rw [marksI_len]; omega) hb5 ?_))
          intro v6 w6 hown6 hk6 _ hb6
          have hg6 := HG2.out.step (fun x hx => Nat.lt_of_lt_of_le (HVL.out x hx) hzw) K5.out hown6 hk6 hb6
          have HG6 := Lib.hid hg6
          clear hown6 hk6 hb6 hg6
          go_wp2_with fail
          go_roundw
          case rel => exact ⟨j + 1, by omega, by go_num, HG6.out⟩
          case measure => simp [intOf]; omega
        · have hge : ¬ (j : Int) < 12 := by omega
          obtain rfl : j = 12 := by omega
          have hmk : ∀ W, Calls Try.prog 35 #[.int .i64 k, .int .i64 ((N + 12 : Nat) : Int), .int .i64 60] W fun e w' => ∃ v, e = .returned v ∧ OwnsInts w' W.heap.size v (marksI k (N + 12) 60) ∧ Keeps [] W w' := fun W => markInts_any k (N + 12) 60 (by omega) (by omega) (by omega) W
          have HMK := Lib.hid hmk
          clear hmk
          go_wp2_with fail
          refine (HMK.out _).mono ?_
          rintro e w5 ⟨v5, rfl, hown5, k5⟩
          obtain ⟨g5, c5, hs5⟩ := own_block_slice hown5 (by rw [marksI_len]; omega)
          rw [marksI_len] at hs5
          subst hs5
          have HC5 := Lib.hid (World.ownsRow.cells hown5 (g := g5) rfl)
          have K5 := Lib.hid k5
          have hb5 : base ≤ w5.heap.size := by
            have h1 := HBS.out
            have h2 := HG2.out.keep.size
            have h3 := k5.size
            omega
          clear hown5 k5 HMK
          go_wp2_with (at_builtin; go_must (refine app_ints rfl _ _ rfl base (.slice ol (N + 12) cl) (marksI k 0 (N + 12)) rfl (ownsRow_keeps HG2.out.own K5.out (by simp)) ⟨g5, 0, none⟩ 60 c5 (marksI k (N + 12) 60) rfl (marksI_len ..) HC5.out (by rw [marksI_len]; omega) hb5 ?_))
          intro v6 w6 hown6 hk6 _ hb6
          have hg6 := HG2.out.step (fun x hx => Nat.lt_of_lt_of_le (HVL.out x hx) hzw) K5.out hown6 hk6 hb6
          obtain ⟨o6, c6, hv6⟩ := hg6.own.shape
          rw [marksI_len] at hv6
          subst hv6
          have HG6 := Lib.hid hg6
          have hol := World.ownsRow.lt HO.out
          have HOL := Lib.hid hol
          have hob : ∀ i, (Value.slice oo gs.length co).ownBlock = some i → i ∉ blks (.slice ov N c1) := fun i hi hm => by
            have e1 := (HOL.out i hi).1
            have e2 := HVL.out i hm
            omega
          have HOB := Lib.hid hob
          have hz6 := hg6.keep.size
          have HZ6 := Lib.hid hz6
          clear hown6 hk6 hb6 hg6 hol hob
          go_wp2_with (at_builtin; go_must (refine app_rows rfl _ _ rfl w.heap.size (.slice oo gs.length co) gs rfl (ownsRow_keeps (ownsRow_keeps HO.out HG6.out.keep HOB.out) ((Keeps.refl [] _).alloc _) (by simp)) ⟨_, 0, none⟩ 1 1 [.slice o6 (N + 12 + 60) c6] rfl rfl (cell_one_new _ _ _) (by simp; rfl) (by have := HGL.out; omega) (by have := HZ6.out; simp; omega) ?_))
          intro v8 w8 hown8 hk8 _ hb8
          obtain ⟨o8, c8, hv8⟩ := hown8.shape
          rw [List.length_append, List.length_singleton] at hv8
          subst hv8
          have H8 := Lib.hid hown8
          have K8 := Lib.hid (((Keeps.refl (blks (.slice oo gs.length co)) w6).alloc (.cells #[.slice o6 (N + 12 + 60) c6] 39)).trans hk8)
          have HB8 := Lib.hid (show (Value.slice o8 (gs.length + 1) c8).ownBlock = (Value.slice oo gs.length co).ownBlock ∨ (Value.slice o8 (gs.length + 1) c8).ownBlock = some (w6.heap.size + 1) from hb8.imp id fun h => h.1.trans (by simp))
          clear hown8 hk8 hb8
          go_wp2_with fail
          go_roundw
          case rel =>
            have hvlt : ∀ x ∈ blks (.slice ov N c1), x < w.heap.size := HVL.out
            have hout8 : ∀ x, x < w6.heap.size → x ∉ blks (.slice oo gs.length co) → x ∉ blks (.slice o8 (gs.length + 1) c8) := fun x hx hn hm => by
              rw [mem_blks] at hm
              rcases HB8.out with e | e
              · exact hn (mem_blks.2 (e ▸ hm))
              · rw [e] at hm
                injection hm with hm
                omega
            have hsmall : ∀ (i : Nat) (u : Value), vs[i]? = some u → ∀ x ∈ blks u, x < w.heap.size ∧ x ∉ blks (.slice oo gs.length co) := fun i u hu x hx => by
              have e1 := (World.ownsRow.lt (HR.out i u hu) x (mem_blks.1 hx)).2
              exact ⟨e1, fun hm => by have := (HOL.out x (mem_blks.1 hm)).1; omega⟩
            refine ⟨k + 1, gs ++ [.slice o6 (N + 12 + 60) c6], by omega, by go_num, by rw [List.length_append, List.length_singleton, HGL.out], H8.out, fun i g hg => ?_, fun i u hu => ?_, ?_⟩
            · by_cases hik : i < k
              · rw [List.getElem?_append_left (by rw [HGL.out]; exact hik)] at hg
                obtain ⟨e1, e2⟩ := HG.out i g hg
                have hnv : ∀ x ∈ blks g, x ∉ blks (.slice ov N c1) := fun x hx hm => by
                  rcases (e2 x hx).2.2 with h1 | ⟨u, h1, h2⟩
                  · have := hvlt x hm; omega
                  · exact HD.out i k u _ h1 HV.out (by omega) x h2 hm
                refine ⟨(e1.keepF HG6.out.keep hnv).keepF K8.out (fun x hx => (e2 x hx).1), fun x hx => ?_⟩
                obtain ⟨f1, f2, f3⟩ := e2 x hx
                have hz8 := K8.out.size
                exact ⟨hout8 x (by omega) f1, by omega, f3⟩
              · have hik2 : i = k := by
                  have := (List.getElem?_eq_some_iff.1 hg).1
                  rw [List.length_append, List.length_singleton, HGL.out] at this
                  omega
                subst hik2
                rw [List.getElem?_append_right (by rw [HGL.out]; exact Nat.le_refl _), HGL.out, Nat.sub_self, List.getElem?_cons_zero, Option.some.injEq] at hg
                subst hg
                have hno : ∀ x ∈ blks (.slice o6 (N + 12 + 60) c6), x ∉ blks (.slice oo gs.length co) := fun x hx hm => by
                  have e1 := HOL.out x (mem_blks.1 hm)
                  rcases HG6.out.where_ with h1 | h1
                  · have := hvlt x (mem_blks.2 (h1 ▸ mem_blks.1 hx)); omega
                  · have := h1 x hx; omega
                refine ⟨(MarkedAt.of_owns HG6.out.own (by omega) (by omega)).keepF K8.out hno, fun x hx => ?_⟩
                have e1 := (World.ownsRow.lt HG6.out.own x (mem_blks.1 hx)).2
                have hz8 := K8.out.size
                refine ⟨hout8 x e1 (hno x hx), by omega, ?_⟩
                rcases HG6.out.where_ with h1 | h1
                · exact Or.inr ⟨_, HV.out, mem_blks.2 (h1 ▸ mem_blks.1 hx)⟩
                · exact Or.inl (by have := h1 x hx; omega)
            · by_cases hik : i = k
              · subst hik
                rw [HV.out] at hu
                injection hu with hu
                subst hu
                rw [HN.out]
                exact ⟨HG6.out.still.keepF K8.out (fun x hx => (hsmall i _ HV.out x hx).2), fun h => by omega⟩
              · obtain ⟨e1, e2⟩ := HVS.out i u hu
                have hnv : ∀ x ∈ blks u, x ∉ blks (.slice ov N c1) := fun x hx => HD.out i k u _ hu HV.out hik x hx
                refine ⟨(e1.keepF HG6.out.keep hnv).keepF K8.out (fun x hx => (hsmall i u hu x hx).2), fun h => ?_⟩
                exact ownsRow_keeps (ownsRow_keeps (e2 (by omega)) HG6.out.keep (fun x hx => hnv x (mem_blks.2 hx))) K8.out (fun x hx => (hsmall i u hu x (mem_blks.2 hx)).2)
            · refine (HK.out.trans (HG6.out.keep.mono (fun x hx => List.mem_flatMap.2 ⟨_, List.mem_of_getElem? HV.out, hx⟩))).trans' K8.out (fun x hx => Or.inr (HOL.out x (mem_blks.1 hx)).1)
          case measure => simp [intOf]; omega
    · have hge : ¬ (k : Int) < (vs.length : Int) := by omega
      obtain rfl : k = vs.length := by omega
      obtain ⟨oo, co, hoo⟩ := hout.shape
      subst hoo
      clear hout
      go_wp2_with fail
      go_ret
      exact ⟨_, rfl, gs, HGL.out, HO.out, fun i g hg => (HG.out i g hg).1, fun i v hv => (HVS.out i v hv).1.marked (by have := (List.getElem?_eq_some_iff.1 hv).1; omega) (by have := HX.out i; omega), HK.out⟩
end Go.Proofs.Ytigajmfadfinpaa
