/-
  truchmanref1.Check: its contract.
-/
import Derived.Test.YtdjdbcppabiknaaRefMay
namespace Go.Tru
theorem stk_one (s : List Cont) : ∀ u ∈ stkCells s, u.oneCell' = true := by
  intro u hu
  obtain ⟨c, _, h⟩ := List.mem_flatMap.1 hu
  simp only [Cont.cells, List.mem_cons, List.not_mem_nil, or_false] at h
  rcases h with rfl | rfl | rfl <;> rfl
end Go.Tru
namespace Go.Proofs.Ytdjdbcppabiknaa
open Go.RowKit Go.Tru

theorem info_box : (Try.prog.info? 60).map (fun i => (i.zero, i.size, i.bytes)) = some (some (.agg #[.bool false, .int .i64 0, .int .i64 0]), 3, 24) := by kernel_rfl

/-- append to an own row of boxes -/
theorem app_boxes {ops : Array Oper} {rest : List Oper} {o : Oper} {a : Act} {w : World} {Q : Exit → Act → World → Prop} (hgd : o.guard = none) (s x : Operand)
    (ho : o.op = .call { callee := .builtin .append, args := #[s, x], argTypes := #[58, 58] })
    (base : Nat) (v : Value) (n : Nat) (xs : List Value) (hs : a.eval s = v) (hown : w.ownsRow base 60 3 v n xs)
    (ad : Addr) (m c : Nat) (ds : List Cont) (hx : a.eval x = .slice (some ad) m c) (hl : ds.length = m) (hnews : ∀ (j : Nat) (u : Value), (stkCells ds)[j]? = some u → w.cell? (ad.add j) = some u)
    (hlen : n + m ≤ 1000) (hbase : base ≤ w.heap.size)
    (h : ∀ v' w', w'.ownsRow base 60 3 v' (n + m) (xs ++ stkCells ds) → w.grownBy w' v.ownBlock → (v' = .slice none 0 0 ↔ v = .slice none 0 0 ∧ m = 0) → wpList Try.prog ops Q rest (a.put o.dst v') w') :
    wpList Try.prog ops Q (o :: rest) a w := by
  obtain ⟨i0, hi, hz0, hz1, hz2⟩ := info_parts info_box
  subst hl
  exact wpList_append_own w hgd s x 58 ho base 60 i0 (.agg #[.bool false, .int .i64 0, .int .i64 0]) 3 24 Try.underlying58 hi hz0 hz1 hz2 rfl (by decide) v n xs hs hown ad ds.length c (stkCells ds) hx (stkCells_len ds) hnews (stk_one ds) (by unfold maxLen; omega) (by omega) hbase h

theorem len_beq1 {α : Type} (r : List α) : ((r.length : Int) + 1 == 1) = r.isEmpty := by cases r <;> simp; omega

theorem stk_mono {w : World} {b b' E : Nat} {v : Value} {s : List Cont} (h : OwnsStk w b E v s) (hb : b' ≤ b) : OwnsStk w b' E v s :=
  ⟨h.1, h.2.imp id fun ⟨g, cap, cur, h1, h2, h3⟩ => ⟨g, cap, cur, h1, Nat.le_trans hb h2, h3⟩⟩

def RefRel (es : List Ev) (w : World) (v d i : Value) (wr : World) : Prop :=
  ∃ (k : Nat) (s : List Cont) (dn : Bool), k ≤ es.length ∧ i = .int .i64 k ∧ d = .bool dn ∧ ckRun [] false (es.take k) = .ok (s, dn) ∧ OwnsStk wr w.heap.size 60 v s ∧ s.length ≤ 16 ∧ (∀ c ∈ s, 0 ≤ c.parts ∧ c.parts ≤ k) ∧ Keeps [] w wr

set_option maxHeartbeats 4000000 in
set_option maxRecDepth 100000 in
theorem refCheck_any (o : Option Addr) (n cp : Nat) (es : List Ev) (w : World) (h : EvsIn w o n cp es) (hn40 : n ≤ 1099511627776) :
    Calls Try.prog 12 #[.slice o n cp] w fun r w' => r = .returned (.int .i64 (check es)) ∧ Keeps [] w w' := by
  have m1 : n ≤ 9223372036854775807 := by have := h.room; have := h.most; unfold maxLen at *; omega
  have hl := h.len
  have H := Lib.hid h
  have L := Lib.hid hl
  clear h
  go_enter Try.func12, Try.ntmps12
  go_wp2_with fail
  go_loopw [3, 4, 5] (fun v d i wr => RefRel es w v d i wr) (fun _ _ i _ => n - (intOf i).toNat)
  case atStart => exact ⟨0, [], false, Nat.zero_le _, rfl, rfl, rfl, OwnsStk.nil _ _ _, by simp, by simp, Keeps.refl _ _⟩
  case round =>
    obtain ⟨k, s, dn, hk, rfl, rfl, hrun, hown, hs16, hps, hK⟩ := hrel
    by_cases hlt : k < n
    · have hx : k < es.length := by omega
      obtain ⟨b1, f1, rfl, g0, g1, g2, g3, g4⟩ := (H.out.keeps hK).get hlt hx
      have HK := Lib.hid hK
      have HR := Lib.hid hrun
      have HO := Lib.hid hown
      clear hK hrun hown hl
      go_wp2_with fail
      refine (may_any es[k] _).mono ?_
      rintro e w1 ⟨rfl, k1⟩
      have K1 := Lib.hid k1
      have hz := HK.out.size
      have hzA := k1.size
      simp only [World.size_alloc] at hzA
      have hown1 : OwnsStk w1 w.heap.size 60 _ s := (HO.out.alloc _).kept (row := none) ⟨k1.os, k1.tape, k1.output, k1.size, fun i hi _ => k1.block i hi (by simp)⟩ (by cases Value.ownBlock _ <;> simp)
      have c0 : w1.cell? ⟨wr.heap.size, 0, none⟩ = some (.int .i64 es[k].kind) := k1.cell (by simp [World.cell?_alloc_new]) (by simp)
      have c4 : w1.cell? ⟨wr.heap.size, 4, none⟩ = some (.int .i64 es[k].count) := k1.cell (by simp [World.cell?_alloc_new]) (by simp)
      have HO1 := Lib.hid hown1
      clear k1 HO hown1 g0 g1 g2 g3 g4
      cases hti : tidy es[k] with
      | none =>
        have HT := Lib.hid hti
        have hmay : es[k].may = false := by unfold Ev.may; rw [hti]; rfl
        rw [hmay]
        clear hti hmay
        go_wp2_with fail
        go_ret
        refine ⟨ret_int ?_, ((HK.out.alloc _).trans K1.out)⟩
        exact (check_err hx HR.out (x := 2) (by unfold ckStep; rw [HT.out])).symm
      | some p =>
        have HT := Lib.hid hti
        have hmay : es[k].may = true := by unfold Ev.may; rw [hti]; rfl
        have HPK := Lib.hid (tidy_kind hti)
        rw [hmay]
        clear hti hmay
        cases dn with
        | true =>
          go_wp2_with fail
          go_ret
          refine ⟨ret_int ?_, ((HK.out.alloc _).trans K1.out)⟩
          exact (check_err hx HR.out (x := 2) (by unfold ckStep; rw [HT.out]; rfl)).symm
        | false =>
          cases s with
          | nil =>
            obtain ⟨a, cap, rfl⟩ := HO1.out.shape
            clear hps hs16
            by_cases h7 : es[k].kind = 7
            · have HK7 : Hid (p.kind = 7) := Lib.hid (by rw [HPK.out, h7])
              go_wp2_with fail
              go_ret
              refine ⟨ret_int ?_, ((HK.out.alloc _).trans K1.out)⟩
              exact (check_err hx HR.out (x := 2) (by unfold ckStep; rw [HT.out]; simp [HK7.out])).symm
            · have h77 : (es[k].kind == 7) = false := by simpa using h7
              have HK7 : Hid (p.kind ≠ 7) := Lib.hid (by rw [HPK.out]; exact h7)
              clear h7
              by_cases ho : es[k].kind = 5 ∨ es[k].kind = 6
              · rcases ho with h5 | h5
                · have HOP : Hid (isOpen p = true) := Lib.hid (by unfold isOpen; rw [HPK.out, h5]; rfl)
                  have HN : Hid (Cont.of p = ⟨false, es[k].count, 0⟩) := Lib.hid (by rw [tidy_cont HT.out HOP.out, h5]; rfl)
                  rw [h5] at c0
                  clear h5 h77
                  go_wp2_with (at_builtin; go_must (refine app_boxes rfl _ _ rfl w.heap.size _ 0 [] rfl (HO1.out.alloc _) ⟨_, 0, none⟩ 1 1 [⟨false, es[k].count, 0⟩] rfl rfl (cells_new _ (by simp)) (by omega) (by simp only [World.size_alloc]; omega) ?_))
                  intro v' w2 hown2 hgrow _hnil
                  have HO2 := Lib.hid hown2
                  have HG := Lib.hid hgrow
                  have hbl := HO1.out.lt
                  clear hown2 hgrow _hnil
                  go_wp2_with fail
                  go_roundw
                  case rel =>
                    refine ⟨k + 1, [Cont.of p], false, by omega, by go_num, rfl, ?_, ?_, by simp, ?_, ?_⟩
                    · rw [ckRun_snoc hx HR.out]; unfold ckStep; rw [HT.out]; simp [HK7.out, HOP.out]
                    · rw [HN.out]; exact HO2.out
                    · rw [HN.out]; simp; omega
                    · exact (((HK.out.alloc _).trans K1.out).alloc _).grown HG.out (fun j hj => Or.inr (hbl j hj).1)
                  case measure => simp [intOf]; omega
                · have HOP : Hid (isOpen p = true) := Lib.hid (by unfold isOpen; rw [HPK.out, h5]; rfl)
                  have HN : Hid (Cont.of p = ⟨true, es[k].count, 0⟩) := Lib.hid (by rw [tidy_cont HT.out HOP.out, h5]; rfl)
                  rw [h5] at c0
                  clear h5 h77
                  go_wp2_with (at_builtin; go_must (refine app_boxes rfl _ _ rfl w.heap.size _ 0 [] rfl (HO1.out.alloc _) ⟨_, 0, none⟩ 1 1 [⟨true, es[k].count, 0⟩] rfl rfl (cells_new _ (by simp)) (by omega) (by simp only [World.size_alloc]; omega) ?_))
                  intro v' w2 hown2 hgrow _hnil
                  have HO2 := Lib.hid hown2
                  have HG := Lib.hid hgrow
                  have hbl := HO1.out.lt
                  clear hown2 hgrow _hnil
                  go_wp2_with fail
                  go_roundw
                  case rel =>
                    refine ⟨k + 1, [Cont.of p], false, by omega, by go_num, rfl, ?_, ?_, by simp, ?_, ?_⟩
                    · rw [ckRun_snoc hx HR.out]; unfold ckStep; rw [HT.out]; simp [HK7.out, HOP.out]
                    · rw [HN.out]; exact HO2.out
                    · rw [HN.out]; simp; omega
                    · exact (((HK.out.alloc _).trans K1.out).alloc _).grown HG.out (fun j hj => Or.inr (hbl j hj).1)
                  case measure => simp [intOf]; omega
              · have h55 : (es[k].kind == 5) = false := beq_eq_false_iff_ne.2 (fun e => ho (Or.inl e))
                have h66 : (es[k].kind == 6) = false := beq_eq_false_iff_ne.2 (fun e => ho (Or.inr e))
                have HOP : Hid (isOpen p = false) := Lib.hid (by unfold isOpen; rw [HPK.out]; simpa using ho)
                clear ho
                go_wp2_with fail
                go_roundw
                case rel =>
                  refine ⟨k + 1, [], true, by omega, by go_num, rfl, ?_, HO1.out, by simp, by simp, (HK.out.alloc _).trans K1.out⟩
                  rw [ckRun_snoc hx HR.out]; unfold ckStep; rw [HT.out]; simp [HK7.out, HOP.out]
                case measure => simp [intOf]; omega
          | cons c r =>
            obtain ⟨pr, cn, pt⟩ := c
            obtain ⟨g, cap, rfl, hg1, hg2, hg3, hg4, t0, t1, t2, tf⟩ := HO1.out.some_
            have hr16 : r.length + 1 ≤ 16 := by simpa using hs16
            have hcp := hps _ (List.mem_cons_self ..)
            obtain ⟨hcp1, hcp2⟩ := hcp
            simp only at hcp1 hcp2 t0 t1 t2
            have HPS := Lib.hid hps
            clear hs16 hps
            unfold maxLen at hg4
            by_cases h7 : es[k].kind = 7
            · have HK7 : Hid (p.kind = 7) := Lib.hid (by rw [HPK.out, h7])
              rw [h7] at c0
              clear h7
              cases pr
              · have hcase : (cn < 0 ∧ Cont.full ⟨false, cn, pt⟩ = true) ∨ (0 ≤ cn ∧ (pt != cn) = false ∧ Cont.full ⟨false, cn, pt⟩ = true) ∨ (0 ≤ cn ∧ (pt != cn) = true ∧ Cont.full ⟨false, cn, pt⟩ = false) := by
                  unfold Cont.full
                  by_cases h0 : cn < 0
                  · exact Or.inl ⟨h0, by simp [h0]⟩
                  · by_cases h1 : pt = cn
                    · exact Or.inr (Or.inl ⟨by omega, by simpa using h1, by simp [h0, h1]⟩)
                    · exact Or.inr (Or.inr ⟨by omega, by simpa using h1, by simp [h0, h1]⟩)
                rcases hcase with ⟨h0, hf⟩ | ⟨h0, h1, hf⟩ | ⟨h0, h1, hf⟩
                · have HF := Lib.hid hf
                  clear hf
                  go_wp2_with (at_builtin; go_must (refine app_boxes rfl _ _ rfl w.heap.size (.slice none 0 0) 0 [] rfl (World.ownsRow_nil _ _ _ _) ⟨g, 0, none⟩ r.length cap r rfl rfl (World.ownsRow.cells (HO1.out.pop.alloc _) rfl) (by omega) (by simp only [World.size_alloc]; omega) ?_))
                  intro v' w2 hown2 hgrow _hnil
                  have hown3 : OwnsStk w2 w.heap.size 60 v' r := by simpa [OwnsStk] using hown2
                  have HO3 := Lib.hid hown3
                  have HG := Lib.hid hgrow
                  clear hown2 hgrow _hnil hown3
                  go_wp2_with fail
                  go_roundw
                  case rel =>
                    refine ⟨k + 1, r, r.isEmpty, by omega, by go_num, by rw [len_beq1], ?_, HO3.out, by omega, ?_, (((HK.out.alloc _).trans K1.out).alloc _).grown HG.out (fun j hj => by simp [Value.ownBlock] at hj)⟩
                    · rw [ckRun_snoc hx HR.out]; unfold ckStep; rw [HT.out]; simp [HF.out, HK7.out]
                    · exact parts_more (fun x hx => HPS.out x (List.mem_cons_of_mem _ hx))
                  case measure => simp [intOf]; omega
                · have HF := Lib.hid hf
                  clear hf
                  go_wp2_with (at_builtin; go_must (refine app_boxes rfl _ _ rfl w.heap.size (.slice none 0 0) 0 [] rfl (World.ownsRow_nil _ _ _ _) ⟨g, 0, none⟩ r.length cap r rfl rfl (World.ownsRow.cells (HO1.out.pop.alloc _) rfl) (by omega) (by simp only [World.size_alloc]; omega) ?_))
                  intro v' w2 hown2 hgrow _hnil
                  have hown3 : OwnsStk w2 w.heap.size 60 v' r := by simpa [OwnsStk] using hown2
                  have HO3 := Lib.hid hown3
                  have HG := Lib.hid hgrow
                  clear hown2 hgrow _hnil hown3
                  go_wp2_with fail
                  go_roundw
                  case rel =>
                    refine ⟨k + 1, r, r.isEmpty, by omega, by go_num, by rw [len_beq1], ?_, HO3.out, by omega, ?_, (((HK.out.alloc _).trans K1.out).alloc _).grown HG.out (fun j hj => by simp [Value.ownBlock] at hj)⟩
                    · rw [ckRun_snoc hx HR.out]; unfold ckStep; rw [HT.out]; simp [HF.out, HK7.out]
                    · exact parts_more (fun x hx => HPS.out x (List.mem_cons_of_mem _ hx))
                  case measure => simp [intOf]; omega
                · have HF := Lib.hid hf
                  clear hf
                  go_wp2_with fail
                  go_ret
                  refine ⟨ret_int ?_, (((HK.out.alloc _).trans K1.out).alloc _)⟩
                  exact (check_err hx HR.out (x := 2) (by unfold ckStep; rw [HT.out]; simp [HF.out, HK7.out])).symm
              · obtain ⟨W, hW⟩ : ∃ W, IntKind.i64.wrap (2 * cn) = W := ⟨_, rfl⟩
                have hWe : 0 ≤ cn → cn ≤ 2305843009213693952 → W = 2 * cn := fun h0 h1 => by rw [← hW]; exact IntWalk.i64_in _ (by omega)
                have hcase : (cn < 0 ∧ (pt % 2 != 0) = false ∧ Cont.full ⟨true, cn, pt⟩ = true) ∨ (cn < 0 ∧ (pt % 2 != 0) = true ∧ Cont.full ⟨true, cn, pt⟩ = false) ∨
                    (0 ≤ cn ∧ (pt != W) = true ∧ Cont.full ⟨true, cn, pt⟩ = false) ∨ (0 ≤ cn ∧ (pt != W) = false ∧ 2305843009213693952 < cn ∧ Cont.full ⟨true, cn, pt⟩ = false) ∨
                    (0 ≤ cn ∧ (pt != W) = false ∧ cn ≤ 2305843009213693952 ∧ (pt % 2 != 0) = false ∧ Cont.full ⟨true, cn, pt⟩ = true) := by
                  unfold Cont.full
                  by_cases h0 : cn < 0
                  · by_cases h1 : pt % 2 = 0
                    · exact Or.inl ⟨h0, by simpa using h1, by simp [h0, h1]⟩
                    · exact Or.inr (Or.inl ⟨h0, by simpa using h1, by simp [h0, h1]⟩)
                  · by_cases h1 : 2305843009213693952 < cn
                    · have hne : ¬ pt / 2 = cn := by omega
                      by_cases h2 : pt = W
                      · exact Or.inr (Or.inr (Or.inr (Or.inl ⟨by omega, by simpa using h2, h1, by simp [h0, hne]⟩)))
                      · exact Or.inr (Or.inr (Or.inl ⟨by omega, by simpa using h2, by simp [h0, hne]⟩))
                    · have hw := hWe (by omega) (by omega)
                      by_cases h2 : pt = W
                      · have he : pt % 2 = 0 := by omega
                        have hd : pt / 2 = cn := by omega
                        exact Or.inr (Or.inr (Or.inr (Or.inr ⟨by omega, by simpa using h2, by omega, by simpa using he, by simp [h0, he, hd]⟩)))
                      · have hne : ¬ (pt % 2 = 0 ∧ pt / 2 = cn) := by omega
                        exact Or.inr (Or.inr (Or.inl ⟨by omega, by simpa using h2, by simp only [h0, if_false, if_true]; rw [Bool.eq_false_iff]; simpa using hne⟩))
                clear hWe
                rcases hcase with ⟨h0, h1, hf⟩ | ⟨h0, h1, hf⟩ | ⟨h0, h1, hf⟩ | ⟨h0, h1, h2, hf⟩ | ⟨h0, h1, h2, h3, hf⟩
                · have HF := Lib.hid hf
                  clear hf
                  go_wp2_with (at_builtin; go_must (refine app_boxes rfl _ _ rfl w.heap.size (.slice none 0 0) 0 [] rfl (World.ownsRow_nil _ _ _ _) ⟨g, 0, none⟩ r.length cap r rfl rfl (World.ownsRow.cells (HO1.out.pop.alloc _) rfl) (by omega) (by simp only [World.size_alloc]; omega) ?_))
                  intro v' w2 hown2 hgrow _hnil
                  have hown3 : OwnsStk w2 w.heap.size 60 v' r := by simpa [OwnsStk] using hown2
                  have HO3 := Lib.hid hown3
                  have HG := Lib.hid hgrow
                  clear hown2 hgrow _hnil hown3
                  go_wp2_with fail
                  go_roundw
                  case rel =>
                    refine ⟨k + 1, r, r.isEmpty, by omega, by go_num, by rw [len_beq1], ?_, HO3.out, by omega, ?_, (((HK.out.alloc _).trans K1.out).alloc _).grown HG.out (fun j hj => by simp [Value.ownBlock] at hj)⟩
                    · rw [ckRun_snoc hx HR.out]; unfold ckStep; rw [HT.out]; simp [HF.out, HK7.out]
                    · exact parts_more (fun x hx => HPS.out x (List.mem_cons_of_mem _ hx))
                  case measure => simp [intOf]; omega
                · have HF := Lib.hid hf
                  clear hf
                  go_wp2_with fail
                  go_ret
                  refine ⟨ret_int ?_, (((HK.out.alloc _).trans K1.out).alloc _)⟩
                  exact (check_err hx HR.out (x := 2) (by unfold ckStep; rw [HT.out]; simp [HF.out, HK7.out])).symm
                · have HF := Lib.hid hf
                  clear hf
                  go_wp2_with fail
                  go_ret
                  refine ⟨ret_int ?_, (((HK.out.alloc _).trans K1.out).alloc _)⟩
                  exact (check_err hx HR.out (x := 2) (by unfold ckStep; rw [HT.out]; simp [HF.out, HK7.out])).symm
                · have HF := Lib.hid hf
                  clear hf
                  go_wp2_with fail
                  go_ret
                  refine ⟨ret_int ?_, (((HK.out.alloc _).trans K1.out).alloc _)⟩
                  exact (check_err hx HR.out (x := 2) (by unfold ckStep; rw [HT.out]; simp [HF.out, HK7.out])).symm
                · have HF := Lib.hid hf
                  clear hf
                  go_wp2_with (at_builtin; go_must (refine app_boxes rfl _ _ rfl w.heap.size (.slice none 0 0) 0 [] rfl (World.ownsRow_nil _ _ _ _) ⟨g, 0, none⟩ r.length cap r rfl rfl (World.ownsRow.cells (HO1.out.pop.alloc _) rfl) (by omega) (by simp only [World.size_alloc]; omega) ?_))
                  intro v' w2 hown2 hgrow _hnil
                  have hown3 : OwnsStk w2 w.heap.size 60 v' r := by simpa [OwnsStk] using hown2
                  have HO3 := Lib.hid hown3
                  have HG := Lib.hid hgrow
                  clear hown2 hgrow _hnil hown3
                  go_wp2_with fail
                  go_roundw
                  case rel =>
                    refine ⟨k + 1, r, r.isEmpty, by omega, by go_num, by rw [len_beq1], ?_, HO3.out, by omega, ?_, (((HK.out.alloc _).trans K1.out).alloc _).grown HG.out (fun j hj => by simp [Value.ownBlock] at hj)⟩
                    · rw [ckRun_snoc hx HR.out]; unfold ckStep; rw [HT.out]; simp [HF.out, HK7.out]
                    · exact parts_more (fun x hx => HPS.out x (List.mem_cons_of_mem _ hx))
                  case measure => simp [intOf]; omega
            · have hkk : es[k].kind = 3 ∨ es[k].kind = 5 ∨ es[k].kind = 6 ∨ (es[k].kind ≠ 3 ∧ es[k].kind ≠ 5 ∧ es[k].kind ≠ 6) := by omega
              rcases hkk with hk3 | hk3 | hk3 | hk3
              · have HK7 : Hid (p.kind ≠ 7) := Lib.hid (by rw [HPK.out, hk3]; decide)
                have HP3 : Hid (p.kind = 3) := Lib.hid (by rw [HPK.out, hk3])
                have HOP : Hid (isOpen p = false) := Lib.hid (by unfold isOpen; rw [HP3.out]; rfl)
                rw [hk3] at c0
                clear hk3
                clear h7
                have hlt6 : wr.heap.size < w1.heap.size := by omega
                cases pr
                · go_wp2_with (at_builtin; go_must (refine app_boxes rfl _ _ rfl w1.heap.size (.slice none 0 0) 0 [] rfl (World.ownsRow_nil _ _ _ _) ⟨g, 0, none⟩ (r.length + 1) cap (⟨false, cn, pt⟩ :: r) rfl rfl (World.ownsRow.cells (HO1.out.alloc _) rfl) (by omega) (by simp only [World.size_alloc]; omega) ?_))
                  intro v' w2 hown2 hgrow _hnil
                  have hown3 : OwnsStk w2 w1.heap.size 60 v' (⟨false, cn, pt⟩ :: r) := by simpa [OwnsStk] using hown2
                  have hk2 : Keeps [] w1 w2 := ((Keeps.refl _ _).alloc _).grown hgrow (fun j hj => by simp [Value.ownBlock] at hj)
                  obtain ⟨g', cap', rfl, hq1, hq2, hq3, hq4, u0, u1, u2, uf⟩ := hown3.some_
                  simp only at u0 u1 u2
                  unfold maxLen at hq4
                  have d0 := hk2.cell c0 (by simp)
                  have d4 := hk2.cell c4 (by simp)
                  have hz2 := hk2.size
                  have hgg : w.heap.size ≤ g' := by omega
                  have hlt7 : wr.heap.size < w2.heap.size := by omega
                  have HO3 := Lib.hid hown3
                  have HK2 := Lib.hid hk2
                  clear hown2 hgrow _hnil hown3 hk2
                  go_wp2_with fail
                  go_roundw
                  case rel =>
                    refine ⟨k + 1, ⟨false, cn, pt + 1⟩ :: r, false, by omega, by go_num, rfl, ?_, stk_mono (HO3.out.setParts (pt + 1)) (by omega), hr16, parts_top HPS.out, ((((HK.out.alloc _).trans K1.out).trans HK2.out).setCell (p := ⟨g', _, none⟩) (Or.inr hgg) _)⟩
                    rw [ckRun_snoc hx HR.out]; unfold ckStep; rw [HT.out]; simp [HK7.out, HOP.out]
                  case measure => simp [intOf]; omega
                · by_cases hpe : pt % 2 = 0
                  · have HPE := Lib.hid hpe
                    have hpb : (pt % 2 == 0) = true := by simp [hpe]
                    clear hpe
                    go_wp2_with (at_builtin; go_must (refine app_boxes rfl _ _ rfl w1.heap.size (.slice none 0 0) 0 [] rfl (World.ownsRow_nil _ _ _ _) ⟨g, 0, none⟩ (r.length + 1) cap (⟨true, cn, pt⟩ :: r) rfl rfl (World.ownsRow.cells (HO1.out.alloc _) rfl) (by omega) (by simp only [World.size_alloc]; omega) ?_))
                    intro v' w2 hown2 hgrow _hnil
                    have hown3 : OwnsStk w2 w1.heap.size 60 v' (⟨true, cn, pt⟩ :: r) := by simpa [OwnsStk] using hown2
                    have hk2 : Keeps [] w1 w2 := ((Keeps.refl _ _).alloc _).grown hgrow (fun j hj => by simp [Value.ownBlock] at hj)
                    obtain ⟨g', cap', rfl, hq1, hq2, hq3, hq4, u0, u1, u2, uf⟩ := hown3.some_
                    simp only at u0 u1 u2
                    unfold maxLen at hq4
                    have d0 := hk2.cell c0 (by simp)
                    have d4 := hk2.cell c4 (by simp)
                    have hz2 := hk2.size
                    have hgg : w.heap.size ≤ g' := by omega
                    have hlt7 : wr.heap.size < w2.heap.size := by omega
                    have HO3 := Lib.hid hown3
                    have HK2 := Lib.hid hk2
                    clear hown2 hgrow _hnil hown3 hk2
                    go_wp2_with fail
                    go_roundw
                    case rel =>
                      refine ⟨k + 1, ⟨true, cn, pt + 1⟩ :: r, false, by omega, by go_num, rfl, ?_, stk_mono (HO3.out.setParts (pt + 1)) (by omega), hr16, parts_top HPS.out, ((((HK.out.alloc _).trans K1.out).trans HK2.out).setCell (p := ⟨g', _, none⟩) (Or.inr hgg) _)⟩
                      rw [ckRun_snoc hx HR.out]; unfold ckStep; rw [HT.out]; simp [HOP.out, HP3.out]
                    case measure => simp [intOf]; omega
                  · have HPE := Lib.hid hpe
                    have hpb : (pt % 2 == 0) = false := by simpa using hpe
                    clear hpe
                    go_wp2_with (at_builtin; go_must (refine app_boxes rfl _ _ rfl w1.heap.size (.slice none 0 0) 0 [] rfl (World.ownsRow_nil _ _ _ _) ⟨g, 0, none⟩ (r.length + 1) cap (⟨true, cn, pt⟩ :: r) rfl rfl (World.ownsRow.cells (HO1.out.alloc _) rfl) (by omega) (by simp only [World.size_alloc]; omega) ?_))
                    intro v' w2 hown2 hgrow _hnil
                    have hown3 : OwnsStk w2 w1.heap.size 60 v' (⟨true, cn, pt⟩ :: r) := by simpa [OwnsStk] using hown2
                    have hk2 : Keeps [] w1 w2 := ((Keeps.refl _ _).alloc _).grown hgrow (fun j hj => by simp [Value.ownBlock] at hj)
                    obtain ⟨g', cap', rfl, hq1, hq2, hq3, hq4, u0, u1, u2, uf⟩ := hown3.some_
                    simp only at u0 u1 u2
                    unfold maxLen at hq4
                    have d0 := hk2.cell c0 (by simp)
                    have d4 := hk2.cell c4 (by simp)
                    have hz2 := hk2.size
                    have hgg : w.heap.size ≤ g' := by omega
                    have hlt7 : wr.heap.size < w2.heap.size := by omega
                    have HO3 := Lib.hid hown3
                    have HK2 := Lib.hid hk2
                    clear hown2 hgrow _hnil hown3 hk2
                    go_wp2_with fail
                    go_roundw
                    case rel =>
                      refine ⟨k + 1, ⟨true, cn, pt + 1⟩ :: r, false, by omega, by go_num, rfl, ?_, stk_mono (HO3.out.setParts (pt + 1)) (by omega), hr16, parts_top HPS.out, ((((HK.out.alloc _).trans K1.out).trans HK2.out).setCell (p := ⟨g', _, none⟩) (Or.inr hgg) _)⟩
                      rw [ckRun_snoc hx HR.out]; unfold ckStep; rw [HT.out]; simp [HK7.out, HOP.out, HPE.out]
                    case measure => simp [intOf]; omega
              · have HK7 : Hid (p.kind ≠ 7) := Lib.hid (by rw [HPK.out, hk3]; decide)
                have HP3 : Hid (p.kind ≠ 3) := Lib.hid (by rw [HPK.out, hk3]; decide)
                have HOP : Hid (isOpen p = true) := Lib.hid (by unfold isOpen; rw [HPK.out, hk3]; rfl)
                have HN : Hid (Cont.of p = ⟨false, es[k].count, 0⟩) := Lib.hid (by rw [tidy_cont HT.out HOP.out, hk3]; rfl)
                rw [hk3] at c0
                clear hk3
                clear h7
                have hlt6 : wr.heap.size < w1.heap.size := by omega
                cases pr
                · go_wp2_with (at_builtin; go_must (refine app_boxes rfl _ _ rfl w1.heap.size (.slice none 0 0) 0 [] rfl (World.ownsRow_nil _ _ _ _) ⟨g, 0, none⟩ (r.length + 1) cap (⟨false, cn, pt⟩ :: r) rfl rfl (World.ownsRow.cells (HO1.out.alloc _) rfl) (by omega) (by simp only [World.size_alloc]; omega) ?_))
                  intro v' w2 hown2 hgrow _hnil
                  have hown3 : OwnsStk w2 w1.heap.size 60 v' (⟨false, cn, pt⟩ :: r) := by simpa [OwnsStk] using hown2
                  have hk2 : Keeps [] w1 w2 := ((Keeps.refl _ _).alloc _).grown hgrow (fun j hj => by simp [Value.ownBlock] at hj)
                  obtain ⟨g', cap', rfl, hq1, hq2, hq3, hq4, u0, u1, u2, uf⟩ := hown3.some_
                  simp only at u0 u1 u2
                  unfold maxLen at hq4
                  have d0 := hk2.cell c0 (by simp)
                  have d4 := hk2.cell c4 (by simp)
                  have hz2 := hk2.size
                  have hgg : w.heap.size ≤ g' := by omega
                  have hlt7 : wr.heap.size < w2.heap.size := by omega
                  have HO3 := Lib.hid hown3
                  have HK2 := Lib.hid hk2
                  clear hown2 hgrow _hnil hown3 hk2
                  by_cases hd : r.length + 1 = 16
                  · have HD := Lib.hid hd
                    go_wp2_with fail
                    go_ret
                    refine ⟨ret_int ?_, ((((HK.out.alloc _).trans K1.out).trans HK2.out).setCell (p := ⟨g', _, none⟩) (Or.inr hgg) _)⟩
                    exact (check_err hx HR.out (x := 4) (by unfold ckStep; rw [HT.out]; simp [HK7.out, HOP.out, HD.out])).symm
                  · have HD := Lib.hid hd
                    have hd15 : r.length + 1 ≤ 15 := by omega
                    clear hd
                    go_wp2_with (at_builtin; go_must (refine app_boxes rfl _ _ rfl w.heap.size _ (r.length + 1) (stkCells (⟨false, cn, pt + 1⟩ :: r)) rfl ((stk_mono (HO3.out.setParts (pt + 1)) (by omega)).alloc _) ⟨_, 0, none⟩ 1 1 [⟨false, es[k].count, 0⟩] rfl rfl (cells_new _ (by simp)) (by omega) (by simp only [World.size_alloc, World.size_setCell]; omega) ?_))
                    intro v4 w4 hown4 hgrow4 _hnil4
                    have HO4 := Lib.hid hown4
                    have HG4 := Lib.hid hgrow4
                    clear hown4 hgrow4 _hnil4
                    go_wp2_with fail
                    go_roundw
                    case rel =>
                      refine ⟨k + 1, Cont.of p :: ⟨false, cn, pt + 1⟩ :: r, false, by omega, by go_num, rfl, ?_, ?_, by simp; omega, ?_, ?_⟩
                      · rw [ckRun_snoc hx HR.out]; unfold ckStep; rw [HT.out]; simp [HK7.out, HOP.out, HD.out]
                      · rw [HN.out]; exact OwnsStk.push HO4.out rfl
                      · rw [HN.out]; exact parts_push (parts_top HPS.out)
                      · exact (((((HK.out.alloc _).trans K1.out).trans HK2.out).setCell (p := ⟨g', _, none⟩) (Or.inr hgg) _).alloc _).grown HG4.out (fun j hj => by simp only [Value.ownBlock, Option.some.injEq] at hj; exact Or.inr (by omega))
                    case measure => simp [intOf]; omega
                · by_cases hpe : pt % 2 = 0
                  · have HPE := Lib.hid hpe
                    have hpb : (pt % 2 == 0) = true := by simp [hpe]
                    clear hpe
                    go_wp2_with fail
                    go_ret
                    refine ⟨ret_int ?_, (((HK.out.alloc _).trans K1.out).alloc _)⟩
                    exact (check_err hx HR.out (x := 8) (by unfold ckStep; rw [HT.out]; simp [HK7.out, HP3.out, HPE.out])).symm
                  · have HPE := Lib.hid hpe
                    have hpb : (pt % 2 == 0) = false := by simpa using hpe
                    clear hpe
                    go_wp2_with (at_builtin; go_must (refine app_boxes rfl _ _ rfl w1.heap.size (.slice none 0 0) 0 [] rfl (World.ownsRow_nil _ _ _ _) ⟨g, 0, none⟩ (r.length + 1) cap (⟨true, cn, pt⟩ :: r) rfl rfl (World.ownsRow.cells (HO1.out.alloc _) rfl) (by omega) (by simp only [World.size_alloc]; omega) ?_))
                    intro v' w2 hown2 hgrow _hnil
                    have hown3 : OwnsStk w2 w1.heap.size 60 v' (⟨true, cn, pt⟩ :: r) := by simpa [OwnsStk] using hown2
                    have hk2 : Keeps [] w1 w2 := ((Keeps.refl _ _).alloc _).grown hgrow (fun j hj => by simp [Value.ownBlock] at hj)
                    obtain ⟨g', cap', rfl, hq1, hq2, hq3, hq4, u0, u1, u2, uf⟩ := hown3.some_
                    simp only at u0 u1 u2
                    unfold maxLen at hq4
                    have d0 := hk2.cell c0 (by simp)
                    have d4 := hk2.cell c4 (by simp)
                    have hz2 := hk2.size
                    have hgg : w.heap.size ≤ g' := by omega
                    have hlt7 : wr.heap.size < w2.heap.size := by omega
                    have HO3 := Lib.hid hown3
                    have HK2 := Lib.hid hk2
                    clear hown2 hgrow _hnil hown3 hk2
                    by_cases hd : r.length + 1 = 16
                    · have HD := Lib.hid hd
                      go_wp2_with fail
                      go_ret
                      refine ⟨ret_int ?_, ((((HK.out.alloc _).trans K1.out).trans HK2.out).setCell (p := ⟨g', _, none⟩) (Or.inr hgg) _)⟩
                      exact (check_err hx HR.out (x := 4) (by unfold ckStep; rw [HT.out]; simp [HK7.out, HOP.out, HD.out, HPE.out])).symm
                    · have HD := Lib.hid hd
                      have hd15 : r.length + 1 ≤ 15 := by omega
                      clear hd
                      go_wp2_with (at_builtin; go_must (refine app_boxes rfl _ _ rfl w.heap.size _ (r.length + 1) (stkCells (⟨true, cn, pt + 1⟩ :: r)) rfl ((stk_mono (HO3.out.setParts (pt + 1)) (by omega)).alloc _) ⟨_, 0, none⟩ 1 1 [⟨false, es[k].count, 0⟩] rfl rfl (cells_new _ (by simp)) (by omega) (by simp only [World.size_alloc, World.size_setCell]; omega) ?_))
                      intro v4 w4 hown4 hgrow4 _hnil4
                      have HO4 := Lib.hid hown4
                      have HG4 := Lib.hid hgrow4
                      clear hown4 hgrow4 _hnil4
                      go_wp2_with fail
                      go_roundw
                      case rel =>
                        refine ⟨k + 1, Cont.of p :: ⟨true, cn, pt + 1⟩ :: r, false, by omega, by go_num, rfl, ?_, ?_, by simp; omega, ?_, ?_⟩
                        · rw [ckRun_snoc hx HR.out]; unfold ckStep; rw [HT.out]; simp [HK7.out, HOP.out, HD.out, HPE.out]
                        · rw [HN.out]; exact OwnsStk.push HO4.out rfl
                        · rw [HN.out]; exact parts_push (parts_top HPS.out)
                        · exact (((((HK.out.alloc _).trans K1.out).trans HK2.out).setCell (p := ⟨g', _, none⟩) (Or.inr hgg) _).alloc _).grown HG4.out (fun j hj => by simp only [Value.ownBlock, Option.some.injEq] at hj; exact Or.inr (by omega))
                      case measure => simp [intOf]; omega
              · have HK7 : Hid (p.kind ≠ 7) := Lib.hid (by rw [HPK.out, hk3]; decide)
                have HP3 : Hid (p.kind ≠ 3) := Lib.hid (by rw [HPK.out, hk3]; decide)
                have HOP : Hid (isOpen p = true) := Lib.hid (by unfold isOpen; rw [HPK.out, hk3]; rfl)
                have HN : Hid (Cont.of p = ⟨true, es[k].count, 0⟩) := Lib.hid (by rw [tidy_cont HT.out HOP.out, hk3]; rfl)
                rw [hk3] at c0
                clear hk3
                clear h7
                have hlt6 : wr.heap.size < w1.heap.size := by omega
                cases pr
                · go_wp2_with (at_builtin; go_must (refine app_boxes rfl _ _ rfl w1.heap.size (.slice none 0 0) 0 [] rfl (World.ownsRow_nil _ _ _ _) ⟨g, 0, none⟩ (r.length + 1) cap (⟨false, cn, pt⟩ :: r) rfl rfl (World.ownsRow.cells (HO1.out.alloc _) rfl) (by omega) (by simp only [World.size_alloc]; omega) ?_))
                  intro v' w2 hown2 hgrow _hnil
                  have hown3 : OwnsStk w2 w1.heap.size 60 v' (⟨false, cn, pt⟩ :: r) := by simpa [OwnsStk] using hown2
                  have hk2 : Keeps [] w1 w2 := ((Keeps.refl _ _).alloc _).grown hgrow (fun j hj => by simp [Value.ownBlock] at hj)
                  obtain ⟨g', cap', rfl, hq1, hq2, hq3, hq4, u0, u1, u2, uf⟩ := hown3.some_
                  simp only at u0 u1 u2
                  unfold maxLen at hq4
                  have d0 := hk2.cell c0 (by simp)
                  have d4 := hk2.cell c4 (by simp)
                  have hz2 := hk2.size
                  have hgg : w.heap.size ≤ g' := by omega
                  have hlt7 : wr.heap.size < w2.heap.size := by omega
                  have HO3 := Lib.hid hown3
                  have HK2 := Lib.hid hk2
                  clear hown2 hgrow _hnil hown3 hk2
                  by_cases hd : r.length + 1 = 16
                  · have HD := Lib.hid hd
                    go_wp2_with fail
                    go_ret
                    refine ⟨ret_int ?_, ((((HK.out.alloc _).trans K1.out).trans HK2.out).setCell (p := ⟨g', _, none⟩) (Or.inr hgg) _)⟩
                    exact (check_err hx HR.out (x := 4) (by unfold ckStep; rw [HT.out]; simp [HK7.out, HOP.out, HD.out])).symm
                  · have HD := Lib.hid hd
                    have hd15 : r.length + 1 ≤ 15 := by omega
                    clear hd
                    go_wp2_with (at_builtin; go_must (refine app_boxes rfl _ _ rfl w.heap.size _ (r.length + 1) (stkCells (⟨false, cn, pt + 1⟩ :: r)) rfl ((stk_mono (HO3.out.setParts (pt + 1)) (by omega)).alloc _) ⟨_, 0, none⟩ 1 1 [⟨true, es[k].count, 0⟩] rfl rfl (cells_new _ (by simp)) (by omega) (by simp only [World.size_alloc, World.size_setCell]; omega) ?_))
                    intro v4 w4 hown4 hgrow4 _hnil4
                    have HO4 := Lib.hid hown4
                    have HG4 := Lib.hid hgrow4
                    clear hown4 hgrow4 _hnil4
                    go_wp2_with fail
                    go_roundw
                    case rel =>
                      refine ⟨k + 1, Cont.of p :: ⟨false, cn, pt + 1⟩ :: r, false, by omega, by go_num, rfl, ?_, ?_, by simp; omega, ?_, ?_⟩
                      · rw [ckRun_snoc hx HR.out]; unfold ckStep; rw [HT.out]; simp [HK7.out, HOP.out, HD.out]
                      · rw [HN.out]; exact OwnsStk.push HO4.out rfl
                      · rw [HN.out]; exact parts_push (parts_top HPS.out)
                      · exact (((((HK.out.alloc _).trans K1.out).trans HK2.out).setCell (p := ⟨g', _, none⟩) (Or.inr hgg) _).alloc _).grown HG4.out (fun j hj => by simp only [Value.ownBlock, Option.some.injEq] at hj; exact Or.inr (by omega))
                    case measure => simp [intOf]; omega
                · by_cases hpe : pt % 2 = 0
                  · have HPE := Lib.hid hpe
                    have hpb : (pt % 2 == 0) = true := by simp [hpe]
                    clear hpe
                    go_wp2_with fail
                    go_ret
                    refine ⟨ret_int ?_, (((HK.out.alloc _).trans K1.out).alloc _)⟩
                    exact (check_err hx HR.out (x := 8) (by unfold ckStep; rw [HT.out]; simp [HK7.out, HP3.out, HPE.out])).symm
                  · have HPE := Lib.hid hpe
                    have hpb : (pt % 2 == 0) = false := by simpa using hpe
                    clear hpe
                    go_wp2_with (at_builtin; go_must (refine app_boxes rfl _ _ rfl w1.heap.size (.slice none 0 0) 0 [] rfl (World.ownsRow_nil _ _ _ _) ⟨g, 0, none⟩ (r.length + 1) cap (⟨true, cn, pt⟩ :: r) rfl rfl (World.ownsRow.cells (HO1.out.alloc _) rfl) (by omega) (by simp only [World.size_alloc]; omega) ?_))
                    intro v' w2 hown2 hgrow _hnil
                    have hown3 : OwnsStk w2 w1.heap.size 60 v' (⟨true, cn, pt⟩ :: r) := by simpa [OwnsStk] using hown2
                    have hk2 : Keeps [] w1 w2 := ((Keeps.refl _ _).alloc _).grown hgrow (fun j hj => by simp [Value.ownBlock] at hj)
                    obtain ⟨g', cap', rfl, hq1, hq2, hq3, hq4, u0, u1, u2, uf⟩ := hown3.some_
                    simp only at u0 u1 u2
                    unfold maxLen at hq4
                    have d0 := hk2.cell c0 (by simp)
                    have d4 := hk2.cell c4 (by simp)
                    have hz2 := hk2.size
                    have hgg : w.heap.size ≤ g' := by omega
                    have hlt7 : wr.heap.size < w2.heap.size := by omega
                    have HO3 := Lib.hid hown3
                    have HK2 := Lib.hid hk2
                    clear hown2 hgrow _hnil hown3 hk2
                    by_cases hd : r.length + 1 = 16
                    · have HD := Lib.hid hd
                      go_wp2_with fail
                      go_ret
                      refine ⟨ret_int ?_, ((((HK.out.alloc _).trans K1.out).trans HK2.out).setCell (p := ⟨g', _, none⟩) (Or.inr hgg) _)⟩
                      exact (check_err hx HR.out (x := 4) (by unfold ckStep; rw [HT.out]; simp [HK7.out, HOP.out, HD.out, HPE.out])).symm
                    · have HD := Lib.hid hd
                      have hd15 : r.length + 1 ≤ 15 := by omega
                      clear hd
                      go_wp2_with (at_builtin; go_must (refine app_boxes rfl _ _ rfl w.heap.size _ (r.length + 1) (stkCells (⟨true, cn, pt + 1⟩ :: r)) rfl ((stk_mono (HO3.out.setParts (pt + 1)) (by omega)).alloc _) ⟨_, 0, none⟩ 1 1 [⟨true, es[k].count, 0⟩] rfl rfl (cells_new _ (by simp)) (by omega) (by simp only [World.size_alloc, World.size_setCell]; omega) ?_))
                      intro v4 w4 hown4 hgrow4 _hnil4
                      have HO4 := Lib.hid hown4
                      have HG4 := Lib.hid hgrow4
                      clear hown4 hgrow4 _hnil4
                      go_wp2_with fail
                      go_roundw
                      case rel =>
                        refine ⟨k + 1, Cont.of p :: ⟨true, cn, pt + 1⟩ :: r, false, by omega, by go_num, rfl, ?_, ?_, by simp; omega, ?_, ?_⟩
                        · rw [ckRun_snoc hx HR.out]; unfold ckStep; rw [HT.out]; simp [HK7.out, HOP.out, HD.out, HPE.out]
                        · rw [HN.out]; exact OwnsStk.push HO4.out rfl
                        · rw [HN.out]; exact parts_push (parts_top HPS.out)
                        · exact (((((HK.out.alloc _).trans K1.out).trans HK2.out).setCell (p := ⟨g', _, none⟩) (Or.inr hgg) _).alloc _).grown HG4.out (fun j hj => by simp only [Value.ownBlock, Option.some.injEq] at hj; exact Or.inr (by omega))
                      case measure => simp [intOf]; omega
              · obtain ⟨n3, n5, n6⟩ := hk3
                have HK7 : Hid (p.kind ≠ 7) := Lib.hid (by rw [HPK.out]; exact h7)
                have HP3 : Hid (p.kind ≠ 3) := Lib.hid (by rw [HPK.out]; exact n3)
                have HOP : Hid (isOpen p = false) := Lib.hid (by unfold isOpen; rw [HPK.out]; simp [n5, n6])
                have h77 : (es[k].kind == 7) = false := beq_eq_false_iff_ne.2 h7
                have h33 : (es[k].kind != 3) = true := bne_iff_ne.2 n3
                have h55 : (es[k].kind == 5) = false := beq_eq_false_iff_ne.2 n5
                have h66 : (es[k].kind == 6) = false := beq_eq_false_iff_ne.2 n6
                clear n3 n5 n6
                clear h7
                have hlt6 : wr.heap.size < w1.heap.size := by omega
                cases pr
                · go_wp2_with (at_builtin; go_must (refine app_boxes rfl _ _ rfl w1.heap.size (.slice none 0 0) 0 [] rfl (World.ownsRow_nil _ _ _ _) ⟨g, 0, none⟩ (r.length + 1) cap (⟨false, cn, pt⟩ :: r) rfl rfl (World.ownsRow.cells (HO1.out.alloc _) rfl) (by omega) (by simp only [World.size_alloc]; omega) ?_))
                  intro v' w2 hown2 hgrow _hnil
                  have hown3 : OwnsStk w2 w1.heap.size 60 v' (⟨false, cn, pt⟩ :: r) := by simpa [OwnsStk] using hown2
                  have hk2 : Keeps [] w1 w2 := ((Keeps.refl _ _).alloc _).grown hgrow (fun j hj => by simp [Value.ownBlock] at hj)
                  obtain ⟨g', cap', rfl, hq1, hq2, hq3, hq4, u0, u1, u2, uf⟩ := hown3.some_
                  simp only at u0 u1 u2
                  unfold maxLen at hq4
                  have d0 := hk2.cell c0 (by simp)
                  have d4 := hk2.cell c4 (by simp)
                  have hz2 := hk2.size
                  have hgg : w.heap.size ≤ g' := by omega
                  have hlt7 : wr.heap.size < w2.heap.size := by omega
                  have HO3 := Lib.hid hown3
                  have HK2 := Lib.hid hk2
                  clear hown2 hgrow _hnil hown3 hk2
                  go_wp2_with fail
                  go_roundw
                  case rel =>
                    refine ⟨k + 1, ⟨false, cn, pt + 1⟩ :: r, false, by omega, by go_num, rfl, ?_, stk_mono (HO3.out.setParts (pt + 1)) (by omega), hr16, parts_top HPS.out, ((((HK.out.alloc _).trans K1.out).trans HK2.out).setCell (p := ⟨g', _, none⟩) (Or.inr hgg) _)⟩
                    rw [ckRun_snoc hx HR.out]; unfold ckStep; rw [HT.out]; simp [HK7.out, HOP.out]
                  case measure => simp [intOf]; omega
                · by_cases hpe : pt % 2 = 0
                  · have HPE := Lib.hid hpe
                    have hpb : (pt % 2 == 0) = true := by simp [hpe]
                    clear hpe
                    go_wp2_with fail
                    go_ret
                    refine ⟨ret_int ?_, (((HK.out.alloc _).trans K1.out).alloc _)⟩
                    exact (check_err hx HR.out (x := 8) (by unfold ckStep; rw [HT.out]; simp [HK7.out, HP3.out, HPE.out])).symm
                  · have HPE := Lib.hid hpe
                    have hpb : (pt % 2 == 0) = false := by simpa using hpe
                    clear hpe
                    go_wp2_with (at_builtin; go_must (refine app_boxes rfl _ _ rfl w1.heap.size (.slice none 0 0) 0 [] rfl (World.ownsRow_nil _ _ _ _) ⟨g, 0, none⟩ (r.length + 1) cap (⟨true, cn, pt⟩ :: r) rfl rfl (World.ownsRow.cells (HO1.out.alloc _) rfl) (by omega) (by simp only [World.size_alloc]; omega) ?_))
                    intro v' w2 hown2 hgrow _hnil
                    have hown3 : OwnsStk w2 w1.heap.size 60 v' (⟨true, cn, pt⟩ :: r) := by simpa [OwnsStk] using hown2
                    have hk2 : Keeps [] w1 w2 := ((Keeps.refl _ _).alloc _).grown hgrow (fun j hj => by simp [Value.ownBlock] at hj)
                    obtain ⟨g', cap', rfl, hq1, hq2, hq3, hq4, u0, u1, u2, uf⟩ := hown3.some_
                    simp only at u0 u1 u2
                    unfold maxLen at hq4
                    have d0 := hk2.cell c0 (by simp)
                    have d4 := hk2.cell c4 (by simp)
                    have hz2 := hk2.size
                    have hgg : w.heap.size ≤ g' := by omega
                    have hlt7 : wr.heap.size < w2.heap.size := by omega
                    have HO3 := Lib.hid hown3
                    have HK2 := Lib.hid hk2
                    clear hown2 hgrow _hnil hown3 hk2
                    go_wp2_with fail
                    go_roundw
                    case rel =>
                      refine ⟨k + 1, ⟨true, cn, pt + 1⟩ :: r, false, by omega, by go_num, rfl, ?_, stk_mono (HO3.out.setParts (pt + 1)) (by omega), hr16, parts_top HPS.out, ((((HK.out.alloc _).trans K1.out).trans HK2.out).setCell (p := ⟨g', _, none⟩) (Or.inr hgg) _)⟩
                      rw [ckRun_snoc hx HR.out]; unfold ckStep; rw [HT.out]; simp [HK7.out, HOP.out, HPE.out]
                    case measure => simp [intOf]; omega
    · have e1 : es.take k = es := List.take_of_length_le (by omega)
      rw [e1] at hrun
      have HR := Lib.hid hrun
      have HK := Lib.hid hK
      clear hrun hK e1
      cases dn
      all_goals
        go_wp2_with fail
        go_ret
        exact ⟨ret_int (by rw [check_end HR.out]; rfl), HK.out⟩
end Go.Proofs.Ytdjdbcppabiknaa
