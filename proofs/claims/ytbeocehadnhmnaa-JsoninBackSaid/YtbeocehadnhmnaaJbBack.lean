/-
  JsoninBack's walk.
-/
import Derived.Test.YtbeocehadnhmnaaJsAlive
import Derived.Test.YtbeocehadnhmnaaJbDoc
import Derived.Test.YtbeocehadnhmnaaJbStep
import Derived.Test.YtbeocehadnhmnaaJbText

namespace Go.Tru
theorem EvsIn.keepsF {F : List Nat} {w w' : World} {o : Option Addr} {n c : Nat} {es : List Ev} (h : EvsIn w o n c es) (k : Keeps F w w') (hF : ∀ b off, o = some ⟨b, off, none⟩ → b ∉ F) : EvsIn w' o n c es :=
  ⟨h.len, h.room, h.most, h.at_.imp id fun ⟨b, off, h1, h2, h3⟩ => ⟨b, off, h1, Nat.lt_of_lt_of_le h2 k.size, fun i e he j v hv => k.cell (h3 i e he j v hv) (hF b off h1)⟩⟩

theorem jb_cat (a b : List UInt8) : (⟨a.toArray⟩ : ByteArray) ++ ⟨b.toArray⟩ = ⟨(a ++ b).toArray⟩ := by
  apply ByteArray.ext
  apply Array.toList_inj.1
  simp [ByteArray.data_append]

theorem jb_list (l : List UInt8) : (bytesOf l).data.toList = l := by simp [bytesOf]

theorem partJ_len (pre post : List UInt8) {s : List Cont} {e : Ev} (hb : (bodyJ s e).length ≤ 200) : (partJ pre post s e).length ≤ 201 + pre.length + post.length := by
  have h1 : (sepJ s e).length ≤ 1 := by rcases sep_case s e with h | ⟨c, h, _⟩ <;> rw [h] <;> simp
  unfold partJ
  simp only [List.length_append]
  omega

theorem textJ_len (pre post : List UInt8) : ∀ {s t : List Cont} {n : Nat} {l : List Ev}, Tr n s l t → (∀ s e, WOk s e → (bodyJ s e).length ≤ 200) → ∀ k, (textJ pre post s (l.take k)).length ≤ (201 + pre.length + post.length) * l.length := by
  intro s t n l h hb
  induction h with
  | nil => intro k; simp [textJ]
  | @cons s t e r h _ _ ih =>
    intro k
    cases k with
    | zero => simp [textJ]
    | succ k =>
      have h1 := partJ_len pre post (hb s e h)
      have h2 := ih k
      simp only [List.take_succ_cons, textJ, List.length_append, List.length_cons, Nat.mul_add, Nat.mul_one]
      omega
end Go.Tru
namespace Go.Proofs.Ytbeocehadnhmnaa
open Go.RowKit Go.Tru

/-- so many parts have been written -/
def JbRel (ds : List Ev) (B b : Nat) (o3 : Option Addr) (c3 : Nat) (w : World) (x y i : Value) (wr : World) : Prop :=
  ∃ (k : Nat) (ov : Value), k ≤ ds.length ∧ i = .int .i64 k ∧ x = .string (bytesOf (textJ [] [] [] (ds.take k))) ∧ y = .string (bytesOf ([32] ++ textJ [10] [9] [] (ds.take k))) ∧ WrIn wr B b 1 ov (opn (wAfter [] (ds.take k))) (decide (k = ds.length)) ∧ (k = 0 → ov = .slice none 0 0) ∧ EvsIn wr o3 ds.length c3 (ds.map openEv) ∧ B ≤ wr.heap.size ∧ Keeps [] w wr

set_option maxHeartbeats 6400000 in
set_option maxRecDepth 100000 in
theorem jback_yes (o : Option Addr) (n c : Nat) (xs : List Int) (dep : Nat) (w : World) (h : IntsIn w o n c xs) (hn : n ≤ 60) (hd1 : 1 ≤ dep) (hd2 : dep ≤ 16) :
    Calls Try.prog 3 #[.slice o n c, .int .i64 (dep : Int)] w fun r w' => r = .returned (.bool true) ∧ Keeps [] w w' := by
  have hback := js_back (ini := []) (pre := []) (post := []) (by simp) (by simp) (by simp) xs dep ⟨hd1, hd2⟩
  have hback2 := js_back (ini := [32]) (pre := [10]) (post := [9]) (by decide) (by decide) (by decide) xs dep ⟨hd1, hd2⟩
  have htr := doc_tr xs dep hd2
  have hdl : (doc xs dep).length ≤ 500 := by
    have h1 := docItem_len dep xs
    have h2 := h.len
    unfold doc
    omega
  have hds1 : 1 ≤ (doc xs dep).length := by
    have h1 := doc_ne dep xs
    rcases hcase : doc xs dep with _ | ⟨e, r⟩
    · exact absurd hcase h1
    · simp
  have i1 : ¬ 60 < (n : Int) := by omega
  have i2 : ¬ (dep : Int) < 1 := by omega
  have i3 : ¬ 16 < (dep : Int) := by omega
  have HDOC := Lib.hid (fun W hW => doc_any o n c xs dep (by omega) (by omega) W hW)
  have H := Lib.hid h
  generalize doc xs dep = ds at hback hback2 htr hdl hds1 HDOC
  rw [List.nil_append] at hback
  have HBACK := Lib.hid hback
  have HBACK2 := Lib.hid hback2
  have HTR := Lib.hid htr
  have HDL := Lib.hid hdl
  have HD1 := Lib.hid hds1
  clear h hback hback2 htr hdl hds1 hn hd1 hd2
  go_enter Try.func3, Try.ntmps3
  go_wp2_with fail
  refine (jalive_any w).mono ?_
  rintro e w1 ⟨rfl, k1⟩
  have K1 := Lib.hid k1
  clear k1
  go_wp2_with fail
  refine (HDOC.out _ (H.out.keeps K1.out)).mono ?_
  rintro e w2 ⟨v2, rfl, hown2, k2⟩
  obtain ⟨o2, c2, rfl, hin2⟩ := evsIn_of_owns hown2
  have K2 := Lib.hid (K1.out.trans k2)
  have HI2 := Lib.hid hin2
  clear hown2 hin2 k2
  go_wp2_with fail
  refine (bookOpen_any o2 ds.length c2 ds _ HI2.out (by have := HDL.out; omega)).mono ?_
  rintro e w3 ⟨v3, rfl, hown3, k3⟩
  obtain ⟨o3, c3, rfl, hin3⟩ := evsIn_of_owns hown3
  rw [List.length_map] at hin3 ⊢
  have K3 := Lib.hid (K2.out.trans k3)
  have HI3 := Lib.hid hin3
  have z3 := K3.out.size
  have hm3 := hin3.most
  have hr3 := hin3.room
  unfold maxLen at hm3
  clear hown3 hin3 k3
  go_wp2_with fail
  go_loopw [7, 8, 40] (fun x y i wr => JbRel ds w3.heap.size w3.heap.size o3 c3 w x y i wr) (fun _ _ i _ => ds.length - (intOf i).toNat)
  case atStart =>
    refine ⟨0, .slice none 0 0, Nat.zero_le _, rfl, rfl, rfl, ⟨?_, OwnsStk.nil _ _ _, by simp [blks_nil]⟩, fun _ => rfl, HI3.out.keeps ((Keeps.refl [] w3).alloc _), by simp, K3.out.alloc _⟩
    have hdec : decide (0 = ds.length) = false := by have := HD1.out; simp; omega
    rw [hdec]
    exact Has.new' w3 _ _ rfl
  case round =>
    obtain ⟨k, ov, hk, rfl, rfl, rfl, hwr, hov, hin, hB, hK⟩ := hrel
    have hbl := hwr.blk.lt
    by_cases hlt : k < ds.length
    · obtain ⟨b1, f1, rfl, g0, g1, g2, g3, g4⟩ := hin.get hlt (by rw [List.length_map]; exact hlt)
      simp only [List.getElem_map] at g0 g1 g2 g3 g4
      have hget : ds[k]? = some ds[k] := List.getElem?_eq_getElem hlt
      obtain ⟨t1, t2, t3⟩ := tr_at HTR.out k _ hget
      have hdec : decide (k = ds.length) = false := by simp; omega
      rw [hdec] at hwr
      have hstep := wstepJ t1 hwr (fun h0 => by
        rcases Nat.eq_zero_or_pos k with hk0 | hk0
        · exact hov hk0
        · have h1 := (tr_at HTR.out (k - 1) ds[k - 1] (List.getElem?_eq_getElem (by omega))).2.1 (by omega)
          rw [show k - 1 + 1 = k by omega, h0] at h1
          simp at h1) hB
      have hx1 : (bytesOf (textJ [] [] [] (ds.take k))).size ≤ 200000 := by
        rw [bytesJ_sz]
        have h1 := textJ_len [] [] HTR.out (fun s e h => bodyJ_len h) k
        have h2 := HDL.out
        simp only [List.length_nil, Nat.add_zero] at h1
        omega
      have hx3 : (bytesOf ([32] ++ textJ [10] [9] [] (ds.take k))).size ≤ 200000 := by
        rw [bytesJ_sz]
        have h1 := textJ_len [10] [9] HTR.out (fun s e h => bodyJ_len h) k
        have h2 := HDL.out
        simp only [List.length_cons, List.length_nil, List.length_append] at h1 ⊢
        omega
      have hx2 : (bytesOf (sepJ (wAfter [] (ds.take k)) ds[k] ++ bodyJ (wAfter [] (ds.take k)) ds[k])).size ≤ 201 := by
        rw [bytesJ_sz, List.length_append]
        have h1 := bodyJ_len t1
        have h2 := sepJ_len (wAfter [] (ds.take k)) ds[k]
        omega
      have htk : ds.take k ++ [ds[k]] = ds.take (k + 1) := by rw [List.take_succ_eq_append_getElem hlt]
      have hcat : bytesOf (textJ [] [] [] (ds.take k)) ++ bytesOf (sepJ (wAfter [] (ds.take k)) ds[k] ++ bodyJ (wAfter [] (ds.take k)) ds[k]) = bytesOf (textJ [] [] [] (ds.take (k + 1))) := by
        rw [← htk, textJ_snoc]
        unfold bytesOf partJ
        rw [jb_cat]
        simp
      have hcatT : bytesOf ([32] ++ textJ [10] [9] [] (ds.take k)) ++ ((⟨#[10]⟩ : ByteArray) ++ bytesOf (sepJ (wAfter [] (ds.take k)) ds[k] ++ bodyJ (wAfter [] (ds.take k)) ds[k]) ++ (⟨#[9]⟩ : ByteArray)) = bytesOf ([32] ++ textJ [10] [9] [] (ds.take (k + 1))) := by
        rw [← htk, textJ_snoc]
        unfold bytesOf partJ
        rw [show (⟨#[10]⟩ : ByteArray) = ⟨[10].toArray⟩ from rfl, show (⟨#[9]⟩ : ByteArray) = ⟨[9].toArray⟩ from rfl, jb_cat, jb_cat, jb_cat]
        simp
      rw [← t3] at hstep
      have hfin : (wAfter [] (ds.take (k + 1))).isEmpty = decide (k + 1 = ds.length) := by
        by_cases hl : k + 1 = ds.length
        · rw [hl, List.take_length, tr_end HTR.out]; simp
        · have := t2 (by omega)
          rcases hc : wAfter [] (ds.take (k + 1)) with _ | ⟨a, l⟩
          · rw [hc] at this; simp at this
          · simp [hl]
      rw [hfin] at hstep
      have HIN := Lib.hid hin
      have HK := Lib.hid hK
      have HST := Lib.hid hstep
      have HFB := Lib.hid hB
      have hblks : ∀ i ∈ blks ov, w3.heap.size ≤ i := fun i hi => (World.ownsRow.lt hwr.opn i (mem_blks.1 hi)).1
      have HBL := Lib.hid hblks
      have hb1 : b1 < w3.heap.size := by
        rcases HI3.out.at_ with h0 | ⟨b', off', e', hb', _⟩
        · have := HD1.out; omega
        · simp only [Option.some.injEq, Addr.mk.injEq] at e'
          omega
      have hi : (k : Int) < (ds.length : Int) := by omega
      obtain ⟨X, hX⟩ : ∃ X, bytesOf (textJ [] [] [] (ds.take k)) = X := ⟨_, rfl⟩
      obtain ⟨T, hT⟩ : ∃ T, bytesOf ([32] ++ textJ [10] [9] [] (ds.take k)) = T := ⟨_, rfl⟩
      obtain ⟨Y, hY⟩ : ∃ Y, bytesOf (sepJ (wAfter [] (ds.take k)) ds[k] ++ bodyJ (wAfter [] (ds.take k)) ds[k]) = Y := ⟨_, rfl⟩
      obtain ⟨A, hA⟩ : ∃ A, (⟨#[10]⟩ : ByteArray) ++ Y = A := ⟨_, rfl⟩
      obtain ⟨D, hD⟩ : ∃ D, A ++ (⟨#[9]⟩ : ByteArray) = D := ⟨_, rfl⟩
      rw [hX, hY] at hcat
      rw [hT, hY, hA, hD] at hcatT
      rw [hY] at HST hx2
      rw [hX] at hx1
      rw [hT] at hx3
      have hAs : A.size = 1 + Y.size := by rw [← hA]; simp [ByteArray.size_append]; rfl
      have hDs : D.size = A.size + 1 := by rw [← hD]; simp [ByteArray.size_append]; rfl
      have s1 : ¬ 281474976710656 < X.size + Y.size := by omega
      have s2 : ¬ 281474976710656 < (⟨#[10]⟩ : ByteArray).size + Y.size := by show ¬ _ < 1 + Y.size; omega
      have s3 : ¬ 281474976710656 < A.size + (⟨#[9]⟩ : ByteArray).size := by show ¬ _ < A.size + 1; omega
      have s4 : ¬ 281474976710656 < T.size + D.size := by omega
      rw [hX, hT]
      generalize hae : openEv ds[k] = p at g0 g1 g2 g3 g4 HST
      clear hae hin hK hstep hB hblks hwr hov hX hT hY hx1 hx2 hx3 t1 t2 t3 htk hfin hdec hget hAs hDs
      go_wp2_with fail
      refine HST.out.mono ?_
      rintro r w4 ⟨rfl, ov4, hwr4, k4, hb4⟩
      have HW4 := Lib.hid hwr4
      have HIN4 := Lib.hid (HIN.out.keepsF k4 (fun b' off' e1 hm => by
        simp only [Option.some.injEq, Addr.mk.injEq] at e1
        rcases List.mem_cons.1 hm with h | h
        · omega
        · have := HBL.out _ h; omega))
      have K4 := Lib.hid (HK.out.trans' k4 (fun i hi => Or.inr (by
        rcases List.mem_cons.1 hi with h | h
        · omega
        · have := HBL.out _ h; omega)))
      have hB4 := Lib.hid (Nat.le_trans HFB.out k4.size)
      clear hwr4 k4 hb4
      go_wp2_with fail
      go_roundw
      case rel => exact ⟨k + 1, ov4, by omega, by go_num, rfl, rfl, HW4.out, fun h => by omega, HIN4.out, hB4.out, K4.out⟩
      case measure => simp [intOf]; omega
    · have hke : k = ds.length := by omega
      subst hke
      have hge : ¬ (ds.length : Int) < (ds.length : Int) := by omega
      rw [List.take_length] at *
      have hsz : (bytesOf (textJ [] [] [] ds)).size ≤ 1000000 := by
        rw [bytesJ_sz]
        have h1 := textJ_len [] [] HTR.out (fun s e h => bodyJ_len h) ds.length
        have h2 := HDL.out
        rw [List.take_length] at h1
        simp only [List.length_nil, Nat.add_zero] at h1
        omega
      have hsz2 : (bytesOf ([32] ++ textJ [10] [9] [] ds)).size ≤ 1000000 := by
        rw [bytesJ_sz]
        have h1 := textJ_len [10] [9] HTR.out (fun s e h => bodyJ_len h) ds.length
        have h2 := HDL.out
        rw [List.take_length] at h1
        simp only [List.length_cons, List.length_nil, List.length_append] at h1 ⊢
        omega
      have hall := fun W => jsAll_any (bytesOf (textJ [] [] [] ds)) dep W hsz
      rw [jb_list, HBACK.out] at hall
      have hall2 := fun W => jsAll_any (bytesOf ([32] ++ textJ [10] [9] [] ds)) dep W hsz2
      rw [jb_list, HBACK2.out] at hall2
      have HALL := Lib.hid hall
      have HALL2 := Lib.hid hall2
      have HIN := Lib.hid hin
      have HK := Lib.hid hK
      obtain ⟨X, hX⟩ : ∃ X, bytesOf (textJ [] [] [] ds) = X := ⟨_, rfl⟩
      obtain ⟨T, hT⟩ : ∃ T, bytesOf ([32] ++ textJ [10] [9] [] ds) = T := ⟨_, rfl⟩
      rw [hX] at HALL ⊢
      rw [hT] at HALL2 ⊢
      clear hall hall2 hin hK hwr hov hB hX hT hsz hsz2 hbl
      obtain ⟨wo, rfl⟩ : ∃ wo : World, wo = wr := ⟨_, rfl⟩
      go_wp2_with fail
      refine (HALL.out _).mono ?_
      rintro r w4 ⟨v4, rfl, hown4, k4⟩
      obtain ⟨o4, c4, rfl, hin4⟩ := evsIn_of_owns hown4
      rw [List.length_map] at hin4 ⊢
      have K4 := Lib.hid (HK.out.trans k4)
      have HIN4 := Lib.hid hin4
      have HIN5 := Lib.hid (HIN.out.keeps k4)
      clear hown4 hin4 k4
      go_wp2_with fail
      refine (HALL2.out _).mono ?_
      rintro r w5 ⟨v5, rfl, hown5, k5⟩
      obtain ⟨o5, c5, rfl, hin5⟩ := evsIn_of_owns hown5
      rw [List.length_map] at hin5 ⊢
      have K5 := Lib.hid (K4.out.trans k5)
      have HA5 := Lib.hid (HIN4.out.keeps k5)
      have HD5 := Lib.hid (HIN5.out.keeps k5)
      have HB5 := Lib.hid hin5
      clear hown5 hin5 k5
      go_wp2_with fail
      refine (sameEvs_yes _ _ _ _ _ _ _ HA5.out HD5.out).mono ?_
      rintro r w6 ⟨rfl, k6⟩
      have K6 := Lib.hid (K5.out.trans k6)
      have HB6 := Lib.hid (HB5.out.keeps k6)
      have HD6 := Lib.hid (HD5.out.keeps k6)
      clear k6
      go_wp2_with fail
      refine (sameEvs_yes _ _ _ _ _ _ _ HB6.out HD6.out).mono ?_
      rintro r w7 ⟨rfl, k7⟩
      have K7 := Lib.hid (K6.out.trans k7)
      clear k7
      go_wp2_with fail
      go_ret
      exact ⟨rfl, K7.out⟩

theorem jsoninBack_walk (o : Option Addr) (n c : Nat) (xs : List Int) (d : Int) (w : World) (h : IntsIn w o n c xs) (_ : -9223372036854775808 ≤ d ∧ d ≤ 9223372036854775807) :
    Calls Try.prog 3 #[.slice o n c, .int .i64 d] w fun r w' => r = .returned (.bool true) ∧ Below w.heap.size w w' := by
  refine Calls.mono (R := fun r w' => r = .returned (.bool true) ∧ Keeps [] w w') ?_ (fun r w' h => ⟨h.1, h.2.all⟩)
  have m1 : n ≤ 9223372036854775807 := by have := h.room; have := h.most; unfold maxLen at *; omega
  by_cases hbad : 60 < n ∨ d < 1 ∨ 16 < d
  · clear h
    by_cases h1 : 60 < (n : Int)
    · clear hbad
      go_enter Try.func3, Try.ntmps3
      go_wp2_with fail
      refine (jalive_any w).mono ?_
      rintro e w1 ⟨rfl, k1⟩
      have K1 := Lib.hid k1
      clear k1
      go_wp2_with fail
      go_ret
      exact ⟨rfl, K1.out⟩
    rcases (show d < 1 ∨ ¬ d < 1 ∧ 16 < d by omega) with h2 | ⟨h2, h3⟩
    all_goals
      clear hbad
      go_enter Try.func3, Try.ntmps3
      go_wp2_with fail
      refine (jalive_any w).mono ?_
      rintro e w1 ⟨rfl, k1⟩
      have K1 := Lib.hid k1
      clear k1
      go_wp2_with fail
      go_ret
      exact ⟨rfl, K1.out⟩
  · obtain ⟨dep, rfl⟩ : ∃ dep : Nat, d = dep := ⟨d.toNat, by omega⟩
    exact jback_yes o n c xs dep w h (by omega) (by omega) (by omega)
end Go.Proofs.Ytbeocehadnhmnaa
