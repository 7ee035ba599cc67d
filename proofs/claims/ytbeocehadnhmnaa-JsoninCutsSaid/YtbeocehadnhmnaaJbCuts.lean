/-
  A document as JSON: its last byte ends its last token, which is no number, if it is no number.
  JsoninCuts' walk.
-/
import Derived.Test.YtbeocehadnhmnaaJbText
import Derived.Test.YtbeocehadnhmnaaJsAlive
import Derived.Test.YtbeocehadnhmnaaJbDoc
import Derived.Test.YtbeocehadnhmnaaJbStep
import Derived.Lib.IndexBytes

namespace Go.Tru

theorem tr_split {n : Nat} {b : List Ev} (hb : b ≠ []) : ∀ (a : List Ev) {s t : List Cont}, Tr n s (a ++ b) t → ∃ u, Tr n s a u ∧ Tr n u b t
  | [], s, t, h => ⟨s, Tr.nil, h⟩
  | e :: a, s, t, h => by
    rw [List.cons_append] at h
    cases h with
    | cons h hn hr =>
      obtain ⟨u, h1, h2⟩ := tr_split hb a hr
      exact ⟨u, Tr.cons h (fun _ => hn (by simp [hb])) h1, h2⟩

theorem tr_first {n : Nat} {e : Ev} {r : List Ev} {t : List Cont} (h : Tr n [] (e :: r) t) : WOk [] e := by
  cases h with
  | cons h _ _ => exact h

theorem leaf_first {e : Ev} (h : WOk [] e) (ho : isOpen e = false) (h7 : e.kind ≠ 7) : DLeaf e := by
  obtain ⟨_, ⟨h, _⟩ | ⟨_, c, r, h, _⟩ | ⟨⟨m, n, _, rfl⟩, _⟩ | ⟨rfl, _⟩⟩ := h
  · exact h
  · cases h
  · exfalso
    cases m <;> simp [isOpen, beginEv, evArr, evMap] at ho
  · exact absurd rfl h7

/-- a leaf that is no number -/
theorem leaf_drop {e : Ev} (h : DLeaf e) (h2 : e.kind ≠ 2) (hu : TextOk e) : (Lex.new.run (bodyJ [] e).dropLast).2.length < 1 ∧ bodyJ [] e ≠ [] ∧ (bodyK [] e).kind ≠ 110 := by
  rcases h with rfl | ⟨b, rfl⟩ | ⟨b, m, hm, rfl⟩ | ⟨t, ht, rfl⟩
  · exact ⟨by decide, by decide, by decide⟩
  · cases b
    · exact ⟨by decide, by decide, by decide⟩
    · exact ⟨by decide, by decide, by decide⟩
  · exact absurd rfl h2
  · have e1 : bodyJ [] (evText t) = 34 :: (writeOf t.data.toList ++ [34]) := rfl
    have e2 : (34 :: (writeOf t.data.toList ++ [34])).dropLast = 34 :: writeOf t.data.toList := by
      rw [show (34 : UInt8) :: (writeOf t.data.toList ++ [34]) = (34 :: writeOf t.data.toList) ++ [34] from rfl, List.dropLast_concat]
    rw [e1, e2]
    obtain ⟨h1, _⟩ := Lex.string_run (L := Lex.new) rfl rfl (hu rfl)
    have h1' : (Lex.new.run (34 :: writeOf t.data.toList)).2 = [] := h1
    refine ⟨by rw [h1']; decide, by simp, ?_⟩
    show (115 : Int) ≠ 110
    decide

theorem doc_cut (xs : List Int) (dep : Nat) (hd : 1 ≤ dep ∧ dep ≤ 16) (h2 : ∀ e, (doc xs dep).head? = some e → e.kind ≠ 2) :
    ∃ L' ts es, Doc110 dep (textJ [] [] [] (doc xs dep)) L' ts es := by
  have htr := doc_tr xs dep hd.2
  have hte := doc_text dep xs
  obtain ⟨q, q1, q2, q3⟩ := doc_js xs dep hd.2
  have hit := items_one (items_doc dep xs)
  have hds : (docItem dep xs).1 = doc xs dep := rfl
  rw [hds] at hit hte
  generalize doc xs dep = l at htr hte h2 hit q1
  have hdi : 1 ≤ (dep : Int) ∧ (dep : Int) ≤ 16 := ⟨by omega, by omega⟩
  rcases hit with ⟨p, rfl, ho, h7⟩ | ⟨p, m, i, rfl, ho, hI⟩
  · have hl := leaf_first (tr_first htr) ho h7
    have hk := h2 p rfl
    have hu := hte p (List.mem_cons_self ..)
    obtain ⟨L', ts, pd, r1, r2, r3, r4⟩ := body_leaf (L := Lex.new) ⟨rfl, rfl⟩ (s := []) hl hu
    obtain rfl : pd = [] := by
      by_cases h : pd = []
      · exact h
      · exact absurd (r4 h) hk
    rw [List.append_nil] at r3
    subst r3
    obtain ⟨d1, d2, d3⟩ := leaf_drop hl hk hu
    have hs : sepJ [] p = [] := by unfold sepJ; rw [if_neg h7]
    have e1 : textJ [] [] [] [p] = bodyJ [] p := by simp [textJ, partJ, hs]
    have e2 : toksJ [] [p] = [bodyK [] p] := by simp [toksJ, partK, hs]
    rw [e2] at q1
    rw [e1]
    exact ⟨L', _, _, hdi, r1, r2.rest, rfl, by rw [q1]; exact q2, by rw [q1]; exact q3, d2, by simpa using d1, fun t ht => by
      simp only [List.getLast?_singleton, Option.some.injEq] at ht
      rw [← ht]; exact d3⟩
  · have e0 : p :: (i ++ [evEnd]) = (p :: i) ++ [evEnd] := rfl
    rw [e0] at htr hte q1 ⊢
    obtain ⟨u, t1, t2⟩ := tr_split (by simp) (p :: i) htr
    have hu := tr_end t1
    have hok : WOk u evEnd := by cases t2 with | cons h _ _ => exact h
    obtain ⟨L1, ts1, pd1, r1, r2, r3⟩ := text_run (pre := []) (post := []) (by simp) (by simp) t1 (LexAt.of (L := Lex.new) ⟨rfl, rfl⟩) (fun h => absurd rfl h) (fun e he => hte e (List.mem_append_left _ he))
    rw [List.nil_append] at r3
    have hc : ∃ c : UInt8, bodyJ u evEnd = [c] ∧ isMark c.toNat = true ∧ bodyK u evEnd = tokB c ∧ (c.toNat : Int) ≠ 110 := by
      by_cases h : topMap u = true
      · exact ⟨125, by simp [bodyJ, evEnd, h], rfl, by simp [bodyK, evEnd, h]; rfl, by decide⟩
      · exact ⟨93, by simp [bodyJ, evEnd, h], rfl, by simp [bodyK, evEnd, h]; rfl, by decide⟩
    obtain ⟨c, c1, c2, c3, c4⟩ := hc
    obtain ⟨L', s1, s2⟩ := r2.mark c2
    have e1 : textJ [] [] [] ((p :: i) ++ [evEnd]) = textJ [] [] [] (p :: i) ++ [c] := by
      rw [textJ_snoc, hu]
      simp [partJ, sepJ, evEnd, ← c1]
    have e2 : toksJ [] ((p :: i) ++ [evEnd]) = ts1 ++ (pd1 ++ [tokB c]) := by
      rw [toksJ_snoc, hu, ← r3]
      simp [partK, sepJ, evEnd, ← c3]
    rw [e2] at q1
    rw [e1]
    have hrun : Lex.new.run (textJ [] [] [] (p :: i) ++ [c]) = (L', ts1 ++ (pd1 ++ [tokB c])) := by
      rw [Lex.run_append, r1]
      simp only []
      rw [s1]
    refine ⟨L', _, _, hdi, hrun, s2, rfl, by rw [q1]; exact q2, by rw [q1]; exact q3, by simp, ?_, fun t ht => ?_⟩
    · rw [List.dropLast_concat, r1]
      simp only [List.length_append, List.length_cons, List.length_nil]
      omega
    · rw [← List.append_assoc, List.getLast?_concat, Option.some.injEq] at ht
      rw [← ht]
      exact c4
end Go.Tru

namespace Go.Tru

/-- (a % z + z) % z as Go reckons it: a number from 0 to z less 1 -/
theorem mod_facts (a : Int) {z : Nat} (h : 0 < z) : -(z : Int) < a.tmod z ∧ a.tmod z < z ∧ ∃ j : Nat, a.tmod z % z = j ∧ j < z := by
  refine ⟨by have := Int.lt_tmod_of_pos a (b := (z : Int)) (by omega); omega, Int.tmod_lt_of_pos a (by omega), (a.tmod z % z).toNat, ?_, ?_⟩
  · have := Int.emod_nonneg (a.tmod z) (b := (z : Int)) (by omega); omega
  · have := Int.emod_nonneg (a.tmod z) (b := (z : Int)) (by omega); have := Int.emod_lt_of_pos (a.tmod z) (b := (z : Int)) (by omega); omega

/-- what the beginning of a document tells -/
theorem cut_at {d : Int} {S : List UInt8} {L' : Lex} {ts : List Tok} {es : List Ev} (h : Doc110 d S L' ts es) {j : Nat} (hj : j < S.length) :
    (jsAll (S.take j) d).2 = 3 ∨ (jsAll (S.take j) d).2 = 2 ∧ (S.take j).getLast? = some 45 :=
  cut_more h (List.take_append_drop j S) (by intro h0; have := congrArg List.length h0; simp at this; omega)

theorem blank_ways (y : UInt8) : ((y.toNat : Int) = 32 ∨ (y.toNat : Int) = 10 ∨ (y.toNat : Int) = 13 ∨ (y.toNat : Int) = 9) ∧ isBlank y.toNat = true ∨ ((y.toNat : Int) ≠ 32 ∧ (y.toNat : Int) ≠ 10 ∧ (y.toNat : Int) ≠ 13 ∧ (y.toNat : Int) ≠ 9) ∧ isBlank y.toNat = false := by
  by_cases h : (y.toNat : Int) = 32 ∨ (y.toNat : Int) = 10 ∨ (y.toNat : Int) = 13 ∨ (y.toNat : Int) = 9
  · refine Or.inl ⟨h, ?_⟩
    unfold isBlank
    exact decide_eq_true (by omega)
  · refine Or.inr ⟨by omega, ?_⟩
    unfold isBlank
    exact decide_eq_false (by omega)
/-- a text that ends with a minus -/
theorem last45 {C : ByteArray} (h : C.data.toList.getLast? = some 45) (hb : C.size ≤ 1000000) :
    ∃ m : Nat, ∃ hm : m < C.size, RowKit.wrap64 ((C.size : Int) - 1) = m ∧ (((C[m]'hm).toNat : Int) == 45) = true ∧ ¬ C.toList = [] ∧ (!C.toList.isEmpty) = true := by
  have hz : C.data.toList.length = C.size := by rw [Array.length_toList]; rfl
  have hne : C.data.toList ≠ [] := by intro h0; rw [h0] at h; cases h
  have hpos := List.length_pos_iff.2 hne
  have hm : C.size - 1 < C.size := by omega
  refine ⟨C.size - 1, hm, by unfold RowKit.wrap64; omega, ?_, ?_, ?_⟩
  · rw [List.getLast?_eq_getElem?, hz, Lib.data_getElem? C _ hm, Option.some.injEq] at h
    rw [h]
    rfl
  · rw [Lib.toList_data]; exact hne
  · rw [Lib.toList_data]
    cases hc : C.data.toList with
    | nil => exact absurd hc hne
    | cons a l => rfl
end Go.Tru
namespace Go.Proofs.Ytbeocehadnhmnaa
open Go.RowKit Go.Tru

/-- so many parts have been written -/
def JcRel (ds : List Ev) (B b : Nat) (o3 : Option Addr) (c3 : Nat) (w : World) (x i : Value) (wr : World) : Prop :=
  ∃ (k : Nat) (ov : Value), k ≤ ds.length ∧ i = .int .i64 k ∧ x = .string (bytesOf (textJ [] [] [] (ds.take k))) ∧ WrIn wr B b 1 ov (opn (wAfter [] (ds.take k))) (decide (k = ds.length)) ∧ (k = 0 → ov = .slice none 0 0) ∧ EvsIn wr o3 ds.length c3 (ds.map openEv) ∧ B ≤ wr.heap.size ∧ Keeps [] w wr

theorem conv_byte (c : UInt8) (W : World) (n : Nat) (hn : n = W.heap.size) :
    (convert 42 9 (.slice (some ⟨n, 0, none⟩) 1 1)).run Try.prog (W.alloc (.cells #[.int .u8 c.toNat] 5)) = .ok (.string (bytesOf [c])) (W.alloc (.cells #[.int .u8 c.toNat] 5)) := by
  have h := run_bytes_lit (P := Try.prog) 42 9 5 Try.underlying42 Try.underlying5 Try.underlying9 [(c.toNat : Int)] W n hn
  have e : strOfNums [(c.toNat : Int)] = bytesOf [c] := by
    unfold bytesOf
    apply ByteArray.ext
    apply Array.toList_inj.1
    rw [str_data]
    simp
  rw [e] at h
  exact h

set_option maxHeartbeats 6400000 in
set_option maxRecDepth 100000 in
theorem jcuts_yes (o : Option Addr) (n c : Nat) (xs : List Int) (kk : Int) (y : UInt8) (w : World) (h : IntsIn w o n c xs) (hn : n ≤ 40) (hkk : -9223372036854775808 ≤ kk ∧ kk ≤ 9223372036854775807) :
    Calls Try.prog 5 #[.slice o n c, .int .i64 kk, .int .u8 (y.toNat : Int)] w fun r w' => r = .returned (.bool true) ∧ Keeps [] w w' := by
  have htr := doc_tr xs 8 (by omega)
  have hcut := doc_cut xs 8 ⟨by omega, by omega⟩
  have hdl : (doc xs 8).length ≤ 500 := by
    have h1 := docItem_len 8 xs
    have h2 := h.len
    unfold doc
    omega
  have hds1 : 1 ≤ (doc xs 8).length := by
    have h1 := doc_ne 8 xs
    rcases hcase : doc xs 8 with _ | ⟨e, r⟩
    · exact absurd hcase h1
    · simp
  have i1 : ¬ 40 < (n : Int) := by omega
  have HDOC := Lib.hid (fun W hW => doc_any o n c xs 8 (by omega) (by omega) W hW)
  have H := Lib.hid h
  generalize doc xs 8 = ds at hcut htr hdl hds1 HDOC
  have HCUT := Lib.hid hcut
  have HTR := Lib.hid htr
  have HDL := Lib.hid hdl
  have HD1 := Lib.hid hds1
  have HKK := Lib.hid hkk
  clear h hcut htr hdl hds1 hn hkk
  go_enter Try.func5, Try.ntmps5
  go_wp2_with fail
  refine (jalive_any w).mono ?_
  rintro e w1 ⟨rfl, k1⟩
  have K1 := Lib.hid k1
  clear k1
  go_wp2_with fail
  refine (HDOC.out _ (H.out.keeps K1.out)).mono ?_
  rintro e w2 ⟨v2, rfl, hown2, k2⟩
  obtain ⟨o2, c2, rfl, hin2⟩ := evsIn_of_owns hown2
  have K2 := Lib.hid (K1.out.trans k2)
  have HI2 := Lib.hid hin2
  clear hown2 hin2 k2
  go_wp2_with fail
  refine (bookOpen_any o2 ds.length c2 ds _ HI2.out (by have := HDL.out; omega)).mono ?_
  rintro e w3 ⟨v3, rfl, hown3, k3⟩
  obtain ⟨o3, c3, rfl, hin3⟩ := evsIn_of_owns hown3
  rw [List.length_map] at hin3 ⊢
  have K3 := Lib.hid (K2.out.trans k3)
  have HI3 := Lib.hid hin3
  have z3 := K3.out.size
  have hm3 := hin3.most
  have hr3 := hin3.room
  unfold maxLen at hm3
  have hlt0 : 0 < ds.length := HD1.out
  obtain ⟨b0, f0, rfl, d0, -, -, -, -⟩ := hin3.get (k := 0) hlt0 (by rw [List.length_map]; exact hlt0)
  simp only [List.getElem_map, openEv_kind] at d0
  have hlt0' : (0 : Int) < (ds.length : Int) := by omega
  clear hown3 hin3 k3
  obtain ⟨kd, hkd⟩ : ∃ kd, ds[0].kind = kd := ⟨_, rfl⟩
  rw [hkd] at d0
  have hd0 : f0 + 0 * 5 = f0 := by omega
  rw [hd0] at d0
  by_cases hk2 : kd = 2
  · subst hk2
    clear hkd
    go_wp2_with fail
    go_ret
    exact ⟨rfl, K3.out⟩
  have hk2' : (kd == 2) = false := beq_eq_false_iff_ne.2 hk2
  have HC := Lib.hid (HCUT.out (fun e he => by
    rw [List.head?_eq_getElem?, List.getElem?_eq_getElem hlt0, Option.some.injEq] at he
    rw [← he, hkd]
    exact hk2))
  clear hkd hk2
  go_wp2_with fail
  clear d0 hlt0' hd0 hk2'
  go_loopw [9, 39] (fun x i wr => JcRel ds w3.heap.size w3.heap.size (some ⟨b0, f0, none⟩) c3 w x i wr) (fun _ i _ => ds.length - (intOf i).toNat)
  case atStart =>
    refine ⟨0, .slice none 0 0, Nat.zero_le _, rfl, rfl, ⟨?_, OwnsStk.nil _ _ _, by simp [blks_nil]⟩, fun _ => rfl, HI3.out.keeps ((Keeps.refl [] w3).alloc _), by simp, K3.out.alloc _⟩
    have hdec : decide (0 = ds.length) = false := by have := HD1.out; simp; omega
    rw [hdec]
    exact Has.new' w3 _ _ rfl
  case round =>
    obtain ⟨k, ov, hk, rfl, rfl, hwr, hov, hin, hB, hK⟩ := hrel
    have hbl := hwr.blk.lt
    by_cases hlt : k < ds.length
    · obtain ⟨b1, f1, hbf, g0, g1, g2, g3, g4⟩ := hin.get hlt (by rw [List.length_map]; exact hlt)
      simp only [Option.some.injEq, Addr.mk.injEq, and_true] at hbf
      obtain ⟨rfl, rfl⟩ := hbf
      simp only [List.getElem_map] at g0 g1 g2 g3 g4
      have hget : ds[k]? = some ds[k] := List.getElem?_eq_getElem hlt
      obtain ⟨t1, t2, t3⟩ := tr_at HTR.out k _ hget
      have hdec : decide (k = ds.length) = false := by simp; omega
      rw [hdec] at hwr
      have hstep := wstepJ t1 hwr (fun h0 => by
        rcases Nat.eq_zero_or_pos k with hk0 | hk0
        · exact hov hk0
        · have h1 := (tr_at HTR.out (k - 1) ds[k - 1] (List.getElem?_eq_getElem (by omega))).2.1 (by omega)
          rw [show k - 1 + 1 = k by omega, h0] at h1
          simp at h1) hB
      have hx1 : (bytesOf (textJ [] [] [] (ds.take k))).size ≤ 200000 := by
        rw [bytesJ_sz]
        have h1 := textJ_len [] [] HTR.out (fun s e h => bodyJ_len h) k
        have h2 := HDL.out
        simp only [List.length_nil, Nat.add_zero] at h1
        omega
      have hx2 : (bytesOf (sepJ (wAfter [] (ds.take k)) ds[k] ++ bodyJ (wAfter [] (ds.take k)) ds[k])).size ≤ 201 := by
        rw [bytesJ_sz, List.length_append]
        have h1 := bodyJ_len t1
        have h2 := sepJ_len (wAfter [] (ds.take k)) ds[k]
        omega
      have htk : ds.take k ++ [ds[k]] = ds.take (k + 1) := by rw [List.take_succ_eq_append_getElem hlt]
      have hcat : bytesOf (textJ [] [] [] (ds.take k)) ++ bytesOf (sepJ (wAfter [] (ds.take k)) ds[k] ++ bodyJ (wAfter [] (ds.take k)) ds[k]) = bytesOf (textJ [] [] [] (ds.take (k + 1))) := by
        rw [← htk, textJ_snoc]
        unfold bytesOf partJ
        rw [jb_cat]
        simp
      rw [← t3] at hstep
      have hfin : (wAfter [] (ds.take (k + 1))).isEmpty = decide (k + 1 = ds.length) := by
        by_cases hl : k + 1 = ds.length
        · rw [hl, List.take_length, tr_end HTR.out]; simp
        · have := t2 (by omega)
          rcases hc : wAfter [] (ds.take (k + 1)) with _ | ⟨a, l⟩
          · rw [hc] at this; simp at this
          · simp [hl]
      rw [hfin] at hstep
      have HIN := Lib.hid hin
      have HK := Lib.hid hK
      have HST := Lib.hid hstep
      have HFB := Lib.hid hB
      have hblks : ∀ i ∈ blks ov, w3.heap.size ≤ i := fun i hi => (World.ownsRow.lt hwr.opn i (mem_blks.1 hi)).1
      have HBL := Lib.hid hblks
      have hb1 : b0 < w3.heap.size := by
        rcases HI3.out.at_ with h0 | ⟨b', off', e', hb', _⟩
        · have := HD1.out; omega
        · simp only [Option.some.injEq, Addr.mk.injEq] at e'
          omega
      have hi : (k : Int) < (ds.length : Int) := by omega
      obtain ⟨X, hX⟩ : ∃ X, bytesOf (textJ [] [] [] (ds.take k)) = X := ⟨_, rfl⟩
      obtain ⟨Y, hY⟩ : ∃ Y, bytesOf (sepJ (wAfter [] (ds.take k)) ds[k] ++ bodyJ (wAfter [] (ds.take k)) ds[k]) = Y := ⟨_, rfl⟩
      rw [hX, hY] at hcat
      rw [hY] at HST hx2
      rw [hX] at hx1
      have s1 : ¬ 281474976710656 < X.size + Y.size := by omega
      rw [hX]
      generalize hae : openEv ds[k] = p at g0 g1 g2 g3 g4 HST
      clear hae hin hK hstep hB hblks hwr hov hX hY hx1 hx2 t1 t2 t3 htk hfin hdec hget
      go_wp2_with fail
      refine HST.out.mono ?_
      rintro r w4 ⟨rfl, ov4, hwr4, k4, hb4⟩
      have HW4 := Lib.hid hwr4
      have HIN4 := Lib.hid (HIN.out.keepsF k4 (fun b' off' e1 hm => by
        simp only [Option.some.injEq, Addr.mk.injEq] at e1
        rcases List.mem_cons.1 hm with h | h
        · omega
        · have := HBL.out _ h; omega))
      have K4 := Lib.hid (HK.out.trans' k4 (fun i hi => Or.inr (by
        rcases List.mem_cons.1 hi with h | h
        · omega
        · have := HBL.out _ h; omega)))
      have hB4 := Lib.hid (Nat.le_trans HFB.out k4.size)
      clear hwr4 k4 hb4
      go_wp2_with fail
      go_roundw
      case rel => exact ⟨k + 1, ov4, by omega, by go_num, rfl, HW4.out, fun h => by omega, HIN4.out, hB4.out, K4.out⟩
      case measure => simp [intOf]; omega
    · have hke : k = ds.length := by omega
      subst hke
      have hge : ¬ (ds.length : Int) < (ds.length : Int) := by omega
      rw [List.take_length] at *
      obtain ⟨L', ts, es, HD⟩ := HC.out
      have hlen : (textJ [] [] [] ds).length ≤ 200000 := by
        have h1 := textJ_len [] [] HTR.out (fun s e h => bodyJ_len h) ds.length
        have h2 := HDL.out
        rw [List.take_length] at h1
        simp only [List.length_nil, Nat.add_zero] at h1
        omega
      generalize textJ [] [] [] ds = T at HD hlen
      obtain ⟨X, hX⟩ : ∃ X, bytesOf T = X := ⟨_, rfl⟩
      have hXd : X.data.toList = T := by rw [← hX]; exact jb_list _
      have hXs : X.size = T.length := by rw [← hX]; exact bytesJ_sz _
      have hX1 : 1 ≤ X.size := by
        rw [hXs]
        have := HD.ne
        exact List.length_pos_iff.2 this
      rw [hX]
      have hkk := HKK.out
      obtain ⟨q1, q2, j, hj, hjX⟩ := mod_facts kk (z := X.size) (by omega)
      have hd0 : ((X.size : Int) == 0) = false := beq_eq_false_iff_ne.2 (by omega)
      have hpre := fun W => jsAll_any (X.extract 0 j) 8 W (by simp [ByteArray.size_extract]; omega)
      have hcut2 := cut_at HD (j := j) (by omega)
      have hcs : (X.extract 0 j).size ≤ 1000000 := by simp [ByteArray.size_extract]; omega
      have hed : (X.extract 0 j).data.toList = T.take j := by rw [Lib.extract_data, hXd]; simp
      rw [hed] at hpre
      obtain ⟨C, hC⟩ : ∃ C, X.extract 0 j = C := ⟨_, rfl⟩
      rw [hC] at hpre hed hcs
      have HCS := Lib.hid hcs
      clear hcs
      have hconv := conv_byte y
      obtain ⟨Y, hY⟩ : ∃ Y, bytesOf [y] = Y := ⟨_, rfl⟩
      have hYs : Y.size = 1 := by rw [← hY]; rfl
      obtain ⟨Z, hZ⟩ : ∃ Z, X ++ Y = Z := ⟨_, rfl⟩
      have hZd : Z.data.toList = T ++ [y] := by
        rw [← hZ, ByteArray.data_append, Array.toList_append, hXd, ← hY, jb_list]
      have hZs : Z.size ≤ 1000000 := by rw [← hZ, ByteArray.size_append, hYs]; omega
      have hall := fun W => jsAll_any Z 8 W hZs
      have hm2 := more_byte HD y
      rw [hZd] at hall
      have hsum : ¬ 281474976710656 < X.size + Y.size := by rw [hYs]; omega
      obtain ⟨yi, hyi⟩ : ∃ yi : Int, (y.toNat : Int) = yi := ⟨_, rfl⟩
      have hbw := blank_ways y
      rw [hY] at hconv
      rw [hyi] at hconv hbw hm2 ⊢
      have hcut2' : (jsAll (T.take j) 8).2 = 3 ∨ (jsAll (T.take j) 8).2 = 2 ∧ C.data.toList.getLast? = some 45 := by rw [hed]; exact hcut2
      have hm2' : if isBlank yi = true then (jsAll (T ++ [y]) 8).2 = 0 else (jsAll (T ++ [y]) 8).2 = 2 ∨ (jsAll (T ++ [y]) 8).2 = 3 := hm2
      generalize jsAll (T ++ [y]) 8 = r2 at hall hm2'
      generalize jsAll (T.take j) 8 = r1 at hpre hcut2'
      obtain ⟨es1, e1⟩ := r1
      obtain ⟨es2, e2⟩ := r2
      simp only at hpre hall hcut2' hm2'
      have HALL := Lib.hid hall
      have HPRE := Lib.hid hpre
      have HIN := Lib.hid hin
      have HK := Lib.hid hK
      have HE := Lib.hid hcut2'
      have HF := Lib.hid hm2'
      have HBW := Lib.hid hbw
      clear hall hin hK hwr hov hB hX hbl hXd hXs hpre hcut2 hcut2' hm2 hm2' hbw hed hY hYs hZd hZs hyi hkk hX1 hlen HD
      obtain ⟨wo, rfl⟩ : ∃ wo : World, wo = wr := ⟨_, rfl⟩
      go_wp2_with fail
      refine (HPRE.out _).mono ?_
      rintro r w4 ⟨v4, rfl, hown4, k4⟩
      have K4 := Lib.hid (HK.out.trans k4)
      obtain ⟨o4', c4', rfl⟩ := hown4.shape
      clear hown4 k4 q1 q2 hj hjX hC hd0
      rcases HE.out with rfl | ⟨rfl, hlast⟩
      · go_wp2_with fail
        refine (HALL.out _).mono ?_
        rintro r w5 ⟨v5, rfl, hown5, k5⟩
        obtain ⟨o5, c5, rfl⟩ := hown5.shape
        have K5 := Lib.hid (K4.out.trans (((Keeps.refl [] w4).alloc (.cells #[.int .u8 yi] 5)).trans k5))
        clear hown5 k5 hconv hsum hZ
        rcases HBW.out with ⟨hy, hb⟩ | ⟨⟨y1, y2, y3, y4⟩, hb⟩
        · have hf := HF.out
          rw [if_pos hb] at hf
          subst hf
          clear hb HF HBW HE HALL HPRE
          rcases hy with rfl | rfl | rfl | rfl
          all_goals
            go_wp2_with fail
            go_ret
            exact ⟨rfl, K5.out⟩
        · have hf := HF.out
          rw [if_neg (by simp [hb])] at hf
          have z1 : (yi == 32) = false := beq_eq_false_iff_ne.2 y1
          have z2 : (yi == 10) = false := beq_eq_false_iff_ne.2 y2
          have z3 : (yi == 13) = false := beq_eq_false_iff_ne.2 y3
          have z4 : (yi == 9) = false := beq_eq_false_iff_ne.2 y4
          clear hb HF HBW HE HALL HPRE y1 y2 y3 y4
          rcases hf with rfl | rfl
          all_goals
            go_wp2_with fail
            go_ret
            exact ⟨rfl, K5.out⟩
      · obtain ⟨m, hm, hw, hix, hne, hem⟩ := last45 hlast HCS.out
        have hm0 : (0 : Int) ≤ (m : Int) := by omega
        have hm1 : (m : Int) < (C.size : Int) := by omega
        clear hlast
        go_wp2_with fail
        refine (HALL.out _).mono ?_
        rintro r w5 ⟨v5, rfl, hown5, k5⟩
        obtain ⟨o5, c5, rfl⟩ := hown5.shape
        have K5 := Lib.hid (K4.out.trans (((Keeps.refl [] w4).alloc (.cells #[.int .u8 yi] 5)).trans k5))
        clear hown5 k5 hconv hsum hZ
        rcases HBW.out with ⟨hy, hb⟩ | ⟨⟨y1, y2, y3, y4⟩, hb⟩
        · have hf := HF.out
          rw [if_pos hb] at hf
          subst hf
          clear hb HF HBW HE HALL HPRE
          rcases hy with rfl | rfl | rfl | rfl
          all_goals
            go_wp2_with fail
            go_ret
            exact ⟨rfl, K5.out⟩
        · have hf := HF.out
          rw [if_neg (by simp [hb])] at hf
          have z1 : (yi == 32) = false := beq_eq_false_iff_ne.2 y1
          have z2 : (yi == 10) = false := beq_eq_false_iff_ne.2 y2
          have z3 : (yi == 13) = false := beq_eq_false_iff_ne.2 y3
          have z4 : (yi == 9) = false := beq_eq_false_iff_ne.2 y4
          clear hb HF HBW HE HALL HPRE y1 y2 y3 y4
          rcases hf with rfl | rfl
          all_goals
            go_wp2_with fail
            go_ret
            exact ⟨rfl, K5.out⟩

theorem jsoninCuts_walk (o : Option Addr) (n c : Nat) (xs : List Int) (kk x : Int) (w : World) (h : IntsIn w o n c xs) (hk : -9223372036854775808 ≤ kk ∧ kk ≤ 9223372036854775807) (hx : 0 ≤ x ∧ x ≤ 255) :
    Calls Try.prog 5 #[.slice o n c, .int .i64 kk, .int .u8 x] w fun r w' => r = .returned (.bool true) ∧ Below w.heap.size w w' := by
  refine Calls.mono (R := fun r w' => r = .returned (.bool true) ∧ Keeps [] w w') ?_ (fun r w' h => ⟨h.1, h.2.all⟩)
  have m1 : n ≤ 9223372036854775807 := by have := h.room; have := h.most; unfold maxLen at *; omega
  by_cases h1 : 40 < (n : Int)
  · clear h
    go_enter Try.func5, Try.ntmps5
    go_wp2_with fail
    refine (jalive_any w).mono ?_
    rintro e w1 ⟨rfl, k1⟩
    have K1 := Lib.hid k1
    clear k1
    go_wp2_with fail
    go_ret
    exact ⟨rfl, K1.out⟩
  · have hy : (((UInt8.ofNat x.toNat).toNat : Nat) : Int) = x := by rw [UInt8.toNat_ofNat']; omega
    have := jcuts_yes o n c xs kk (UInt8.ofNat x.toNat) w h (by omega) hk
    rw [hy] at this
    exact this
end Go.Proofs.Ytbeocehadnhmnaa
