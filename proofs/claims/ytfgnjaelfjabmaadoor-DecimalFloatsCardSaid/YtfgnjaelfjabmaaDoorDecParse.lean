/-
  decimal.Parse's contract.
-/
import Derived.Test.YtfgnjaelfjabmaaDoorDecEnd
import Derived.Lib.OthersKept
import Derived.Laws.RangeAny
namespace Go.Proofs.YtfgnjaelfjabmaaDoor
open Go.RowKit Go.Tru

theorem has_iter {w : World} {b k : Nat} {cs : List Value} {t : TypeId} {s : ByteArray} {pos : Nat} (h : Has w b cs t) (hb : b ≠ k) : Has (w.iterAt k s pos) b cs t :=
  (Lib.iterAt_other w k b s pos hb).trans h

theorem keeps_iter {F : List Nat} {a w : World} {k : Nat} {s : ByteArray} {pos : Nat} (h : Keeps F a w) (hk : a.heap.size ≤ k) : Keeps F a (w.iterAt k s pos) :=
  h.trans' (G := [k]) ⟨rfl, rfl, rfl, by rw [Lib.iterAt_size]; exact Nat.le_refl _, fun i hi hn => Lib.iterAt_other w k i s pos (by simpa using hn)⟩ (fun i hi => Or.inr (by rw [List.mem_singleton.1 hi]; exact hk))

/-- behind a byte that is no ASCII there is no number -/
theorem parse_high {n : Num} (he : n.e = 0) {x : Int} (hx : 128 ≤ x) {b : UInt8} (hb : 128 ≤ b.toNat) (t : List UInt8) :
    (n.after x).e = (n.after b.toNat).e ∧ n.took x = false ∧ parseFrom n (b :: t) = (false, 0, if (n.after x).e ≠ 0 then (n.after x).e else 2) := by
  have hd : isDig x = false := by simp [isDig]; omega
  have hd2 : isDig (b.toNat : Int) = false := by simp [isDig]; omega
  have ht : n.took x = false := by simp [Num.took, hd]; intro _ h; omega
  have ht2 : n.took (b.toNat : Int) = false := by simp [Num.took, hd2]; intro _ h; omega
  have ha : (n.after x).e = (n.after b.toNat).e := by
    have x1 : ¬ x = 45 := by omega
    have x2 : ¬ x = 46 := by omega
    have x3 : ¬ x = 101 := by omega
    have x4 : ¬ x = 69 := by omega
    have y1 : ¬ (b.toNat : Int) = 45 := by omega
    have y2 : ¬ (b.toNat : Int) = 46 := by omega
    have y3 : ¬ (b.toNat : Int) = 101 := by omega
    have y4 : ¬ (b.toNat : Int) = 69 := by omega
    unfold Num.after
    simp only [he, hd, hd2, x1, x2, x3, x4, y1, y2, y3, y4, ne_eq, not_true_eq_false, if_false, false_and, Bool.false_eq_true, or_self, and_false]
  refine ⟨ha, ht, ?_⟩
  rw [parseFrom, ← ha]
  by_cases h0 : (n.after x).e = 0
  · rw [if_neg (by simp [h0]), if_neg (by simp [ht2]), if_neg (by simp [h0])]
  · rw [if_pos h0, if_pos h0]

theorem after_v {n : Num} (hv : n.v < 18446744073709551616) (x : Int) : (n.after x).v < 18446744073709551616 := by
  unfold Num.after
  split
  · exact hv
  · split
    · show (n.add _).v < _
      unfold Num.add
      split
      · exact hv
      · exact Nat.mod_lt _ (by decide)
    · split
      · exact hv
      · split
        · exact hv
        · split
          · exact hv
          · exact hv

theorem after_e {n : Num} {x : Int} (h : n.took x = true) : (n.after x).e = 0 := by
  have he : n.e = 0 := by
    simp only [Num.took, Bool.and_eq_true, beq_iff_eq] at h
    exact h.1
  have h2 : isDig x = true ∧ n.zero = false ∨ x = 45 ∧ n.minus = false ∧ n.digits = false := by
    simp only [Num.took, Bool.and_eq_true, Bool.or_eq_true, Bool.not_eq_true', beq_iff_eq] at h
    rcases h.2 with ⟨a, b⟩ | ⟨⟨a, b⟩, c⟩
    · exact Or.inl ⟨a, b⟩
    · exact Or.inr ⟨a, b, c⟩
  unfold Num.after
  rw [if_neg (by simp [he])]
  rcases h2 with h3 | h3
  · rw [if_pos h3]
    exact (add_neg _ _).2.2.trans he
  · rw [if_neg (by rintro ⟨h4, _⟩; rw [h3.1] at h4; simp [isDig] at h4), if_pos h3]
    exact he

set_option maxHeartbeats 1000000 in
set_option maxRecDepth 100000 in
theorem parse_any (s : ByteArray) (w : World) :
    Calls Tryd.prog 10 #[.string s] w fun e w' => e = .returned (resVal (parseFrom Num.new s.data.toList)) ∧ Keeps [] w w' := by
  go_enter Tryd.func10, Tryd.ntmps10
  go_wp2
  go_loopw [6, 7, 8] (fun _ _ _ wr => ∃ (pos : Nat) (n : Num), Has wr w.heap.size [.bool false, .int .u64 0] 24 ∧ Has wr (w.heap.size + 1) n.cells 34 ∧ wr.heap[w.heap.size + 2]? = some (.stringIter s pos) ∧ Keeps [] w wr ∧
    parseFrom n (s.data.toList.drop pos) = parseFrom Num.new s.data.toList ∧ n.e = 0 ∧ n.v < 18446744073709551616) (fun _ _ _ wr => s.size - wr.iterPos (w.heap.size + 2))
  case atStart =>
    refine ⟨0, Num.new, ?_, ?_, ?_, ?_, rfl, rfl, by decide⟩
    · exact ((Has.new' w #[.bool false, .int .u64 0] _ rfl).alloc _).alloc _
    · exact (Has.new' (w.alloc _) #[.bool false, .bool false, .bool false, .bool false, .int .u64 0, .bool false, .bool false, .int .i64 0] _ (by simp)).alloc _
    · have := World.iter_heap ((w.alloc (.cells #[.bool false, .int .u64 0] 24)).alloc (.cells #[.bool false, .bool false, .bool false, .bool false, .int .u64 0, .bool false, .bool false, .int .i64 0] 34)) s 0
      simpa using this
    · exact (((Keeps.refl [] w).alloc _).alloc _).alloc _
  case round =>
    obtain ⟨pos, n, hA, hB, hit, hk, hpar, hne, hnv⟩ := hrel
    have hsz : w.heap.size + 2 < wr.heap.size := (Array.getElem?_eq_some_iff.1 hit).1
    by_cases hp : pos < s.size
    · have hl : s.data.toList.drop pos = (s[pos]'hp) :: s.data.toList.drop (pos + 1) := by
        rw [List.drop_eq_getElem_cons (by simpa using hp)]
        rfl
      rw [hl] at hpar
      obtain ⟨b, hb⟩ : ∃ b, s[pos]'hp = b := ⟨_, rfl⟩
      rw [hb] at hpar hl
      have hb8 : b.toNat < 256 := b.toNat_lt
      obtain ⟨x, q, hdec, hlow, hhigh, hq1⟩ : ∃ (x : Int) (q : Nat), (Utf8.decode s pos).2 = q ∧ (b.toNat < 128 → ((Utf8.decode s pos).1 : Int) = b.toNat ∧ q = 1) ∧ (128 ≤ b.toNat → 128 ≤ ((Utf8.decode s pos).1 : Int)) ∧ x = ((Utf8.decode s pos).1 : Int) :=
        ⟨_, _, rfl, fun h => by rw [decode_ascii s pos hp (by rw [hb]; exact h), hb]; exact ⟨rfl, rfl⟩, fun h => by have := (decode_high s pos hp (by rw [hb]; exact h)).1; omega, rfl⟩
      have hit0 := hit
      have hnx : ∀ ty, (Instr.next (.pointer (some ⟨w.heap.size + 2, 0, none⟩)) true ty).run Tryd.prog wr = _ := fun ty => Lib.run_next_any_at wr (w.heap.size + 2) s pos ty hit hp
      rw [← hq1, hdec] at hnx
      rw [← hq1] at hlow hhigh
      have hA1 := has_iter (s := s) (pos := pos + q) hA (k := w.heap.size + 2) (by omega)
      have hB1 := has_iter (s := s) (pos := pos + q) hB (k := w.heap.size + 2) (by omega)
      have hk1 := keeps_iter (s := s) (pos := pos + q) hk (k := w.heap.size + 2) (by omega)
      have hit1 := Lib.iterAt_heap wr (w.heap.size + 2) s pos (pos + q) hit
      obtain ⟨wi, hwi⟩ : ∃ wi, wi = wr.iterAt (w.heap.size + 2) s (pos + q) := ⟨_, rfl⟩
      rw [← hwi] at hA1 hB1 hk1 hit1 hnx
      clear hwi
      obtain ⟨y, hy, hy2⟩ : ∃ y : Int, (if 128 < x then 128 else x) = y ∧ (0 ≤ y ∧ y ≤ 255) := ⟨_, rfl, by split <;> omega⟩
      have hwrap : IntKind.u8.wrap y = y := by rw [IntKind.wrap_u8]; omega
      have hstep := num_step (w.heap.size + 1) 34 n y wi hB1 hy2 hnv
      have hcase : n.took y = true ∧ (n.after y).e = 0 ∧ q = 1 ∧ y = b.toNat ∨ n.took y = false ∧ (n.after y).e = 0 ∧ parseFrom n (b :: s.data.toList.drop (pos + 1)) = (false, 0, 2) ∨ ¬ (n.after y).e = 0 ∧ parseFrom n (b :: s.data.toList.drop (pos + 1)) = (false, 0, (n.after y).e) := by
        rcases (show b.toNat < 128 ∨ 128 ≤ b.toNat by omega) with h | h
        · obtain ⟨h1, h2⟩ := hlow h
          have hyb : y = b.toNat := by rw [← hy, if_neg (by omega), h1]
          cases ht : n.took y with
          | true => exact Or.inl ⟨rfl, after_e ht, h2, hyb⟩
          | false =>
            by_cases he : (n.after y).e = 0
            · refine Or.inr (Or.inl ⟨rfl, he, ?_⟩)
              rw [parseFrom, ← hyb, if_neg (by simp [he]), if_neg (by simp [ht])]
            · refine Or.inr (Or.inr ⟨he, ?_⟩)
              rw [parseFrom, ← hyb, if_pos he]
        · have hyb : 128 ≤ y := by rw [← hy]; split <;> omega
          obtain ⟨h1, h2, h3⟩ := parse_high hne hyb h (s.data.toList.drop (pos + 1))
          by_cases he : (n.after y).e = 0
          · exact Or.inr (Or.inl ⟨h2, he, by rw [h3, if_neg (by simp [he])]⟩)
          · exact Or.inr (Or.inr ⟨he, by rw [h3, if_pos he]⟩)
      have HP := Lib.hid hpar
      have HA := Lib.hid hA1
      have HK := Lib.hid hk1
      have HI := Lib.hid hit1
      have HV := Lib.hid (after_v hnv y)
      clear hy2 hlow hhigh hb hdec hq1 hb8 hl hB1 hnv hA hB hit hpar hA1 hk1 hit1 hne hk
      rcases hcase with ⟨h1, h2, h3, h4⟩ | ⟨h1, h2, h3⟩ | ⟨h2, h3⟩
      · rw [h1, h2] at hstep
        have H1 := Lib.hid h1
        have H2 := Lib.hid h2
        have H4 := Lib.hid h4
        clear h1 h2 h4
        subst h3
        go_wp2_with (go_at_call 12; refine hstep.mono ?_; rintro e w1 ⟨rfl, g1, k1⟩; have G1 := Lib.hid g1; have K1 := Lib.hid k1; clear g1 k1)
        go_roundw
        case rel =>
          refine ⟨pos + 1, n.after y, HA.out.keeps K1.out (by simp), G1.out, K1.out.heap HI.out (by simp), HK.out.trans' K1.out (fun i hi => Or.inr (by rw [List.mem_singleton.1 hi]; omega)), ?_, H2.out, HV.out⟩
          rw [← HP.out, parse_took (b := b) (by rw [← H4.out]; exact H1.out) (by rw [← H4.out]; exact H2.out), ← H4.out]
        case measure =>
          have := K1.out.heap HI.out (by simp)
          simp only [World.iterPos, this, hit0]
          omega
      · rw [h1, h2] at hstep
        have H3 := Lib.hid h3
        clear h1 h2 h3
        go_wp2_with (go_at_call 12; refine hstep.mono ?_; rintro e w1 ⟨rfl, g1, k1⟩; have A1 := HA.out.keeps k1 (by simp); have a0 := A1.cell 0; have a1 := A1.cell 1; have f0 := A1.free 0; have f1 := A1.free 1; have l1 := A1.lt; have K1 := Lib.hid k1; have A1 := Lib.hid A1; clear g1 k1; simp only [List.getElem?_cons_zero, List.getElem?_cons_succ] at a0 a1)
        (try simp only [Exit.inBlock, Exit.then])
        have A2 := (A1.out.set 0 (.bool false)).set 1 (.int .u64 0)
        have b0 := A2.cell 0
        have b1 := A2.cell 1
        simp only [List.set_cons_zero, List.set_cons_succ, List.getElem?_cons_zero, List.getElem?_cons_succ] at b0 b1
        refine bodyPost_ret (v := resVal (false, 0, 2)) ?_ rfl ⟨by rw [← HP.out, H3.out], ?_⟩
        · clear a0 a1 f0 f1
          rw [results_cell_tmp rfl]
          go_simp
          simp [resVal]
        · exact (HK.out.trans' K1.out (fun i hi => Or.inr (by rw [List.mem_singleton.1 hi]; omega))) |>.setCell (Or.inr (Nat.le_refl _)) _ |>.setCell (Or.inr (Nat.le_refl _)) _
      · obtain ⟨E, hE⟩ : ∃ E, (n.after y).e = E := ⟨_, rfl⟩
        obtain ⟨tk, hT⟩ : ∃ tk, n.took y = tk := ⟨_, rfl⟩
        rw [hE] at h2 h3 hstep
        rw [hT] at hstep
        have H3 := Lib.hid h3
        clear h3 hE hT
        go_wp2_with (go_at_call 12; refine hstep.mono ?_; rintro e w1 ⟨rfl, g1, k1⟩; have A1 := HA.out.keeps k1 (by simp); have a0 := A1.cell 0; have a1 := A1.cell 1; have f0 := A1.free 0; have f1 := A1.free 1; have l1 := A1.lt; have K1 := Lib.hid k1; have A1 := Lib.hid A1; clear g1 k1; simp only [List.getElem?_cons_zero, List.getElem?_cons_succ] at a0 a1)
        (try simp only [Exit.inBlock, Exit.then])
        have A2 := (A1.out.set 0 (.bool false)).set 1 (.int .u64 0)
        have b0 := A2.cell 0
        have b1 := A2.cell 1
        simp only [List.set_cons_zero, List.set_cons_succ, List.getElem?_cons_zero, List.getElem?_cons_succ] at b0 b1
        refine bodyPost_ret (v := resVal (false, 0, E)) ?_ rfl ⟨by rw [← HP.out, H3.out], ?_⟩
        · clear a0 a1 f0 f1
          rw [results_cell_tmp rfl]
          go_simp
          simp [resVal]
        · exact (HK.out.trans' K1.out (fun i hi => Or.inr (by rw [List.mem_singleton.1 hi]; omega))) |>.setCell (Or.inr (Nat.le_refl _)) _ |>.setCell (Or.inr (Nat.le_refl _)) _
    · have hnx : ∀ ty, (Instr.next (.pointer (some ⟨w.heap.size + 2, 0, none⟩)) true ty).run Tryd.prog wr = _ := fun ty => Lib.run_next_end_at wr (w.heap.size + 2) s pos ty hit hp
      have hend := num_end (w.heap.size + 1) 34 n wr hB hnv
      have hpn : parseFrom Num.new s.data.toList = n.result := by
        rw [← hpar, List.drop_eq_nil_of_le (by simp; omega), parseFrom]
      obtain ⟨⟨r1, r2, r3⟩, hr⟩ : ∃ r, n.result = r := ⟨_, rfl⟩
      rw [hr] at hend hpn
      simp only [resVal] at hend
      clear hr
      have HP := Lib.hid hpn
      have HA := Lib.hid hA
      have HK := Lib.hid hk
      clear hpar hB hit hA hk hpn hnv hne
      go_wp2_with (go_at_call 13; refine hend.mono ?_; rintro e w1 ⟨rfl, k1⟩; have A1 := HA.out.keeps k1 (by simp); have a0 := A1.cell 0; have a1 := A1.cell 1; have f0 := A1.free 0; have f1 := A1.free 1; have l1 := A1.lt; have K1 := Lib.hid k1; have A1 := Lib.hid A1; clear k1; simp only [List.getElem?_cons_zero, List.getElem?_cons_succ] at a0 a1)
      (try simp only [Exit.inBlock, Exit.then])
      have A2 := (A1.out.set 0 (.bool r1)).set 1 (.int .u64 r2)
      have b0 := A2.cell 0
      have b1 := A2.cell 1
      simp only [List.set_cons_zero, List.set_cons_succ, List.getElem?_cons_zero, List.getElem?_cons_succ] at b0 b1
      refine bodyPost_ret (v := resVal (r1, r2, r3)) ?_ rfl ⟨by rw [HP.out], ?_⟩
      · clear a0 a1 f0 f1
        rw [results_cell_tmp rfl]
        go_simp
        simp [resVal]
      · exact (HK.out.trans' K1.out (fun i hi => Or.inr (by cases hi))) |>.setCell (Or.inr (Nat.le_refl _)) _ |>.setCell (Or.inr (Nat.le_refl _)) _
end Go.Proofs.YtfgnjaelfjabmaaDoor
