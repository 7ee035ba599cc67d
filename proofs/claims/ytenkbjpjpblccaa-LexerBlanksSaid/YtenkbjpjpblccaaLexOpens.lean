/-
  LexerOpens' walk.
-/
import Derived.Test.YtenkbjpjpblccaaLexAlive
import Derived.Test.YtenkbjpjpblccaaArith
namespace Go.Tru

def openL : Nat → List UInt8
  | 0 => [34, 97, 98, 34]
  | 1 => [116, 114, 117, 101]
  | 2 => [110, 117, 108, 108]
  | 3 => [91]
  | _ => [34, 92, 110, 34]

theorem opens_ok : ∀ j : Fin 5, ∀ i : Fin 4, i.1 < (openL j.1).length → (Lex.new.run ((openL j.1).take (i.1 + 1))).1.e = 0 := by decide +kernel
theorem opens_fin : ∀ j : Fin 5, ∀ m : Fin 5, m.1 ≤ (openL j.1).length →
    (Lex.new.run ((openL j.1).take m.1)).1.fin.2.length = 0 ∧ (Lex.new.run ((openL j.1).take m.1)).1.fin.1.e = if m.1 = 0 ∨ m.1 = (openL j.1).length then 0 else 3 := by decide +kernel
theorem openL_len : ∀ j : Fin 5, 1 ≤ (openL j.1).length ∧ (openL j.1).length ≤ 4 := by decide
end Go.Tru
namespace Go.Proofs.Ytenkbjpjpblccaa
open Go.RowKit Go.Tru

/-- the end of a law's Lexer -/
theorem finned {w0 w : World} {base b : Nat} {L : Lex} {F : List Nat} (h : LexAt w0 w base b L F) (hw : w0.heap.size ≤ base) (hr : L.fin.1.Fit ∧ L.fin.1.Mid) :
    Calls Try.prog 14 #[.pointer (some ⟨b, 0, none⟩)] w (Lexed w0 w base b F L.fin) :=
  (lex_fin base b [] _ L F w h.in_ h.fit.1).mono fun _ _ hp => lexed_of h hw hr hp

theorem fin_ok {L : Lex} (h : L.Fit ∧ L.Mid) : L.fin.1.Fit ∧ L.fin.1.Mid := by
  unfold Lex.fin
  repeat' split
  · exact h
  · refine ⟨Lex.fit_ended h.1, fun he => ?_⟩
    rw [Lex.ended_s]
    rename_i h1 _
    exact h.2 (Decidable.not_not.1 (fun hh => h1 (Or.inl hh)))
  · exact ⟨⟨h.1.r, h.1.v, h.1.s, h.1.rest⟩, fun he => by simp at he⟩

def OpenRel (w0 : World) (base b : Nat) (bs : List UInt8) (m : Nat) (i : Value) (wr : World) : Prop :=
  ∃ (k : Nat) (F : List Nat), k ≤ m ∧ i = .int .i64 k ∧ LexAt w0 wr base b (Lex.new.run (bs.take k)).1 F

set_option maxHeartbeats 4000000 in
set_option maxRecDepth 100000 in
theorem lexerOpens_walk (k n : Int) (w : World) (hk : -9223372036854775808 ≤ k ∧ k ≤ 9223372036854775807) (hn : -9223372036854775808 ≤ n ∧ n ≤ 9223372036854775807) :
    Calls Try.prog 7 #[.int .i64 k, .int .i64 n] w fun e w' => e = .returned (.bool true) ∧ Below w.heap.size w w' := by
  obtain ⟨hk1, hk2⟩ := hk
  obtain ⟨hn1, hn2⟩ := hn
  obtain ⟨m1, m2, j, hj, hj5⟩ := mod_facts k (z := 5) (by omega)
  have m1 : -5 < k.tmod 5 := m1
  have m2 : k.tmod 5 < 5 := m2
  have hj : k.tmod 5 % 5 = (j : Int) := hj
  obtain ⟨hl1, hl4⟩ := openL_len ⟨j, hj5⟩
  obtain ⟨l, hl⟩ : ∃ l, openL j = l := ⟨_, rfl⟩
  have hok := opens_ok ⟨j, hj5⟩
  have hfin := opens_fin ⟨j, hj5⟩
  simp only [hl] at hl1 hl4 hok hfin
  obtain ⟨sv, hsv⟩ : ∃ sv : ByteArray, ⟨l.toArray⟩ = sv := ⟨_, rfl⟩
  have hsize : sv.size = l.length := by rw [← hsv]; rfl
  have hcell : ∀ (W : World) (p : Nat), p = W.heap.size → (W.alloc (.cells #[.string ⟨#[34, 97, 98, 34]⟩, .string ⟨#[116, 114, 117, 101]⟩, .string ⟨#[110, 117, 108, 108]⟩, .string ⟨#[91]⟩, .string ⟨#[34, 92, 110, 34]⟩] 9)).cell? ⟨p, j, none⟩ = some (.string sv) := by
    intro W p hp
    subst hp
    rw [World.cell?_alloc_at _ _ _ _ rfl, ← hsv, ← hl]
    match j, hj5 with
    | 0, _ => rfl
    | 1, _ => rfl
    | 2, _ => rfl
    | 3, _ => rfl
    | 4, _ => rfl
  have hc0 := hcell w w.heap.size rfl
  obtain ⟨Z, hZ⟩ : ∃ Z : Nat, sv.size = Z := ⟨_, rfl⟩
  have hZ1 : 1 ≤ Z := by omega
  have hZ4 : Z ≤ 4 := by omega
  have hZl : l.length = Z := by omega
  obtain ⟨m, hm, hml⟩ : ∃ m : Nat, (wrap64 (wrap64 (n.tmod ((Z : Int) + 1) + Z) + 1)).tmod ((Z : Int) + 1) = m ∧ m ≤ Z := by
    obtain ⟨q1, q2, m, hm, hml⟩ := mod_facts n (z := Z + 1) (by omega)
    simp only [Int.natCast_add, Int.cast_ofNat_Int] at q1 q2 hm
    refine ⟨m, ?_, by omega⟩
    have e1 : wrap64 (n.tmod ((Z : Int) + 1) + Z) = n.tmod ((Z : Int) + 1) + Z := by unfold wrap64; omega
    have e2 : wrap64 (n.tmod ((Z : Int) + 1) + Z + 1) = n.tmod ((Z : Int) + 1) + Z + 1 := by unfold wrap64; omega
    rw [e1, e2, ← hm, Int.tmod_eq_emod_of_nonneg (by omega)]
    rw [show n.tmod ((Z : Int) + 1) + Z + 1 = n.tmod ((Z : Int) + 1) + ((Z : Int) + 1) by omega, Int.add_emod_right]
  have HS := Lib.hid hsv
  have HOK := Lib.hid hok
  have HFIN := Lib.hid hfin
  have HZL := Lib.hid hZl
  clear hcell hok hfin hsv hl hsize hZl hl1 hl4
  go_enter Try.func7, Try.ntmps7
  go_wp2_with fail
  refine (alive_any _).mono ?_
  rintro e w1 ⟨rfl, k1⟩
  have K1 := Lib.hid (((Keeps.refl [] w).alloc _).trans k1)
  clear k1
  go_wp2_with fail
  clear hc0
  have hz1 := K1.out.size
  go_loopw [8] (fun i wr => OpenRel w w1.heap.size w1.heap.size l m i wr) (fun i _ => 20 - (intOf i).toNat)
  case atStart =>
    exact ⟨0, [w1.heap.size], by omega, rfl, lexAt_new K1.out rfl (Nat.le_refl _) lexZero lexZero_eq⟩
  case round =>
    obtain ⟨q, F, hq, rfl, hg⟩ := hrel
    by_cases hlt : q < m
    · have hql : q < l.length := by have := HZL.out; omega
      have hqs : q < sv.size := by omega
      obtain ⟨x, hx⟩ : ∃ x : UInt8, sv[q]'hqs = x := ⟨_, rfl⟩
      have hxl : l[q]'hql = x := by
        rw [← hx]
        simp only [← HS.out]
        rfl
      have hx8 : x.toNat < 256 := x.toNat_lt
      have hok := HOK.out ⟨q, by omega⟩ hql
      have hrt := run_take (bs := l) hql Lex.new
      rw [hxl] at hrt
      have hst := lexed hg (by omega) (x.toNat : Int) (by omega) (by omega)
      obtain ⟨r, hr⟩ : ∃ r, (Lex.new.run (l.take q)).1.step x.toNat = r := ⟨_, rfl⟩
      rw [hr] at hst hrt
      have he0 : r.1.e = 0 := by rw [hrt] at hok; exact hok
      have HRT := Lib.hid hrt
      have HE := Lib.hid he0
      have hqi : (q : Int) < (m : Int) := by omega
      clear hok hrt hr hg hq he0 hxl
      go_wp2_with fail
      refine hst.mono ?_
      rintro e w2 ⟨v1, F1, rfl, ho1, h1, k1, hn1, _⟩
      simp only [ToksVal]
      rw [HE.out]
      have H1 := Lib.hid h1
      clear hst h1 k1 hn1 ho1
      go_wp2_with fail
      go_roundw
      case rel => exact ⟨q + 1, F1, by omega, by go_num, by rw [HRT.out]; exact H1.out⟩
      case measure => simp [intOf]; omega
    · obtain rfl : q = m := by omega
      have hst := finned hg (by omega) (fin_ok hg.fit)
      obtain ⟨f1, f2⟩ := HFIN.out ⟨q, by omega⟩ (by show q ≤ l.length; have := HZL.out; omega)
      obtain ⟨⟨L2, t2⟩, hr⟩ : ∃ r, (Lex.new.run (l.take q)).1.fin = r := ⟨_, rfl⟩
      rw [hr] at hst
      simp only [hr, HZL.out] at f1 f2
      have ht2 : t2 = [] := List.eq_nil_of_length_eq_zero f1
      subst ht2
      have HR := Lib.hid f2
      have hge : ¬ (q : Int) < (q : Int) := by omega
      clear f1 f2 hr hg hq hlt
      go_wp2_with fail
      refine hst.mono ?_
      rintro e w2 ⟨v1, F1, rfl, ho1, h1, k1, hn1, _⟩
      have hv1 := ho1.2 rfl
      subst hv1
      simp only [ToksVal]
      have H1 := Lib.hid h1.keeps
      clear hst h1 k1 hn1 ho1
      by_cases hc : q = 0 ∨ q = Z
      · have he : L2.e = 0 := by rw [HR.out, if_pos hc]
        rw [he]
        by_cases h0 : q = 0
        · subst h0
          go_wp2_with fail
          go_ret
          exact ⟨rfl, H1.out.all⟩
        · have h0' : ((q : Int) == 0) = false := by rw [beq_eq_false_iff_ne]; omega
          have h1' : ((q : Int) == (Z : Int)) = true := by rw [beq_iff_eq]; omega
          clear hc h0 he
          go_wp2_with fail
          go_ret
          exact ⟨rfl, H1.out.all⟩
      · have he : L2.e = 3 := by rw [HR.out, if_neg hc]
        rw [he]
        have h0' : ((q : Int) == 0) = false := by rw [beq_eq_false_iff_ne]; omega
        have h1' : ((q : Int) == (Z : Int)) = false := by rw [beq_eq_false_iff_ne]; omega
        clear hc he
        go_wp2_with fail
        go_ret
        exact ⟨rfl, H1.out.all⟩

end Go.Proofs.Ytenkbjpjpblccaa
