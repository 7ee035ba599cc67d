/-
  LexerWords' walk.
-/
import Derived.Test.YtenkbjpjpblccaaLexAlive
import Derived.Test.YtenkbjpjpblccaaArith
import Derived.Laws.BitsAllLaws
namespace Go.Tru

def wordL : Nat → List UInt8
  | 0 => [116, 114, 117, 101]
  | 1 => [102, 97, 108, 115, 101]
  | _ => [110, 117, 108, 108]

theorem words_ok : ∀ j : Fin 3, ∀ i : Fin 5, i.1 < (wordL j.1).length → (Lex.new.run ((wordL j.1).take (i.1 + 1))).1.e = 0 ∧ ((Lex.new.run ((wordL j.1).take i.1)).1.step ((wordL j.1).getD i.1 0).toNat).2.length = if i.1 + 1 = (wordL j.1).length then 1 else 0 := by decide +kernel
theorem words_rest : ∀ j : Fin 3, ∀ n : Fin 5, 1 ≤ n.1 → n.1 < (wordL j.1).length → (Lex.new.run ((wordL j.1).take n.1)).1.state = 3 ∧ (Lex.new.run ((wordL j.1).take n.1)).1.e = 0 ∧ (Lex.new.run ((wordL j.1).take n.1)).1.rest = (wordL j.1).drop n.1 := by decide +kernel
theorem wordL_len : ∀ j : Fin 3, 4 ≤ (wordL j.1).length ∧ (wordL j.1).length ≤ 5 := by decide

/-- a word's byte turned -/
theorem word_off {L : Lex} (h0 : L.e = 0) (h1 : L.state = 3) {x : UInt8} {t : List UInt8} (hr : L.rest = x :: t) {y : Int} (hy : (x.toNat : Int) ≠ y) : L.step y = ({ L with e := 2 }, []) := by
  unfold Lex.step Lex.turn Lex.word
  rw [if_neg (by simp [h0]), if_neg (by rw [h1]; decide), if_pos h1, hr]
  simp [hy]

theorem step_bad {L : Lex} (h : L.e ≠ 0) (y : Int) : L.step y = (L, []) := by unfold Lex.step; rw [if_pos h]

theorem xor_ne (a b : Nat) (hb : b ≠ 0) : a ^^^ b ≠ a := fun h => hb (by
  have h2 : a ^^^ (a ^^^ b) = a ^^^ a := by rw [h]
  rw [← Nat.xor_assoc, Nat.xor_self, Nat.zero_xor] at h2
  exact h2)
end Go.Tru
namespace Go.Proofs.Ytenkbjpjpblccaa
open Go.RowKit Go.Tru

def WordsRel (w0 : World) (base b : Nat) (bs : List UInt8) (m : Nat) (i : Value) (wr : World) : Prop :=
  ∃ (k : Nat) (F : List Nat), k ≤ m ∧ i = .int .i64 k ∧ LexAt w0 wr base b (Lex.new.run (bs.take k)).1 F

set_option maxHeartbeats 8000000 in
set_option maxRecDepth 100000 in
theorem lexerWords_walk (k n y : Int) (w : World) (hk : -9223372036854775808 ≤ k ∧ k ≤ 9223372036854775807) (hn : -9223372036854775808 ≤ n ∧ n ≤ 9223372036854775807) (hy : 0 ≤ y ∧ y ≤ 255) :
    Calls Try.prog 4 #[.int .i64 k, .int .i64 n, .int .u8 y] w fun e w' => e = .returned (.bool true) ∧ Below w.heap.size w w' := by
  obtain ⟨hk1, hk2⟩ := hk
  obtain ⟨hn1, hn2⟩ := hn
  obtain ⟨hy1, hy2⟩ := hy
  obtain ⟨m1, m2, j, hj, hj3⟩ := mod_facts k (z := 3) (by omega)
  have m1 : -3 < k.tmod 3 := m1
  have m2 : k.tmod 3 < 3 := m2
  have hj : k.tmod 3 % 3 = (j : Int) := hj
  obtain ⟨hl1, hl4⟩ := wordL_len ⟨j, hj3⟩
  obtain ⟨l, hl⟩ : ∃ l, wordL j = l := ⟨_, rfl⟩
  have hok := words_ok ⟨j, hj3⟩
  have hrest := words_rest ⟨j, hj3⟩
  simp only [hl] at hl1 hl4 hok hrest
  obtain ⟨sv, hsv⟩ : ∃ sv : ByteArray, ⟨l.toArray⟩ = sv := ⟨_, rfl⟩
  have hsize : sv.size = l.length := by rw [← hsv]; rfl
  have hcell : ∀ (W : World) (p : Nat), p = W.heap.size → (W.alloc (.cells #[.string ⟨#[116, 114, 117, 101]⟩, .string ⟨#[102, 97, 108, 115, 101]⟩, .string ⟨#[110, 117, 108, 108]⟩] 9)).cell? ⟨p, j, none⟩ = some (.string sv) := by
    intro W p hp
    subst hp
    rw [World.cell?_alloc_at _ _ _ _ rfl, ← hsv, ← hl]
    match j, hj3 with
    | 0, _ => rfl
    | 1, _ => rfl
    | 2, _ => rfl
  have hc0 := hcell w w.heap.size rfl
  obtain ⟨Z, hZ⟩ : ∃ Z : Nat, sv.size = Z := ⟨_, rfl⟩
  have hZ1 : 4 ≤ Z := by omega
  have hZ4 : Z ≤ 5 := by omega
  have hZl : l.length = Z := by omega
  obtain ⟨m, hm, hm0, hml⟩ : ∃ m : Nat, (wrap64 (wrap64 (n.tmod ((Z : Int) - 1) + Z) - 1)).tmod ((Z : Int) - 1) = (m : Int) - 1 ∧ 1 ≤ m ∧ m < Z := by
    obtain ⟨q1, q2, m, hm, hml⟩ := mod_facts n (z := Z - 1) (by omega)
    rw [show ((Z - 1 : Nat) : Int) = (Z : Int) - 1 by omega] at q1 q2 hm
    refine ⟨m + 1, ?_, by omega, by omega⟩
    have e1 : wrap64 (n.tmod ((Z : Int) - 1) + Z) = n.tmod ((Z : Int) - 1) + Z := by unfold wrap64; omega
    have e2 : wrap64 (n.tmod ((Z : Int) - 1) + Z - 1) = n.tmod ((Z : Int) - 1) + Z - 1 := by unfold wrap64; omega
    rw [e1, e2, Int.tmod_eq_emod_of_nonneg (by omega), show n.tmod ((Z : Int) - 1) + Z - 1 = n.tmod ((Z : Int) - 1) + ((Z : Int) - 1) by omega, Int.add_emod_right, hm]
    omega
  have HS := Lib.hid hsv
  have HOK := Lib.hid hok
  have HREST := Lib.hid hrest
  have HZL := Lib.hid hZl
  have hz1 : ((Z : Int) - 1 == 0) = false := by rw [beq_eq_false_iff_ne]; omega
  clear hcell hok hrest hsv hl hsize hZl hl1 hl4
  have hat : ∀ q (h : q < Z), ∃ x : UInt8, sv[q]'(by omega) = x ∧ l[q]'(by have := HZL.out; omega) = x := fun q h => ⟨_, rfl, by simp only [← HS.out]; rfl⟩
  have HAT := Lib.hid hat
  clear hat
  go_enter Try.func4, Try.ntmps4
  go_wp2_with fail
  refine (alive_any _).mono ?_
  rintro e w1 ⟨rfl, k1⟩
  have K1 := Lib.hid (((Keeps.refl [] w).alloc _).trans k1)
  clear k1
  go_wp2_with fail
  clear hc0
  have hz1 := K1.out.size
  go_loopw [9] (fun i wr => WordsRel w w1.heap.size w1.heap.size l Z i wr) (fun i _ => 20 - (intOf i).toNat)
  case atStart =>
    exact ⟨0, [w1.heap.size], by omega, rfl, lexAt_new K1.out rfl (Nat.le_refl _) lexZero lexZero_eq⟩
  case round =>
    obtain ⟨q, F, hq, rfl, hg⟩ := hrel
    by_cases hlt : q < Z
    · have hql : q < l.length := by have := HZL.out; omega
      obtain ⟨x, hx, hxl⟩ := HAT.out q hlt
      have hx8 : x.toNat < 256 := x.toNat_lt
      obtain ⟨hok, hlen⟩ := HOK.out ⟨q, by omega⟩ hql
      have hrt := run_take (bs := l) hql Lex.new
      have hgd : l.getD q 0 = x := by rw [← hxl]; simp [List.getD, hql]
      simp only [hgd] at hlen
      rw [hxl] at hrt
      have hst := lexed hg (by omega) (x.toNat : Int) (by omega) (by omega)
      obtain ⟨r, hr⟩ : ∃ r, (Lex.new.run (l.take q)).1.step x.toNat = r := ⟨_, rfl⟩
      rw [hr] at hst hrt hlen
      have he0 : r.1.e = 0 := by rw [hrt] at hok; exact hok
      have HRT := Lib.hid hrt
      have HE := Lib.hid he0
      have hqi : (q : Int) < (Z : Int) := by omega
      obtain ⟨t2, ht2⟩ : ∃ t2 : Nat, r.2.length = t2 := ⟨_, rfl⟩
      rw [ht2, HZL.out] at hlen
      clear hok hrt hr hg hq he0 hxl hgd
      go_wp2_with fail
      refine hst.mono ?_
      rintro e w2 ⟨v1, F1, rfl, ho1, h1, k1, hn1⟩
      obtain ⟨o1, c1, hv1⟩ := ToksOut.shape ho1
      rw [ht2] at hv1
      subst hv1
      simp only [ToksVal]
      rw [HE.out]
      have H1 := Lib.hid h1
      clear hst h1 k1 hn1 ho1 ht2
      by_cases hq1 : q + 1 = Z
      · rw [if_pos hq1] at hlen
        subst hlen
        have hqz : ((q : Int) == (Z : Int) - 1) = true := by rw [beq_iff_eq]; omega
        go_wp2_with fail
        go_roundw
        case rel => exact ⟨q + 1, F1, by omega, by go_num, by rw [HRT.out]; exact H1.out⟩
        case measure => simp [intOf]; omega
      · rw [if_neg hq1] at hlen
        subst hlen
        have hqz : ((q : Int) == (Z : Int) - 1) = false := by rw [beq_eq_false_iff_ne]; omega
        go_wp2_with fail
        go_roundw
        case rel => exact ⟨q + 1, F1, by omega, by go_num, by rw [HRT.out]; exact H1.out⟩
        case measure => simp [intOf]; omega
    · obtain rfl : q = Z := by omega
      obtain ⟨wo, rfl⟩ : ∃ wo : World, wo = wr := ⟨_, rfl⟩
      have HK := Lib.hid hg.keeps
      clear hg hq hlt
      by_cases h0 : y = 0
      · subst h0
        go_wp2_with fail
        go_ret
        exact ⟨rfl, HK.out.all⟩
      · have h0' : (y == 0) = false := by simp [h0]
        have H0 := Lib.hid h0
        clear h0
        go_wp2_with fail
        have hzo := HK.out.size
        obtain ⟨z, hz, hzl⟩ := HAT.out m hml
        have hz8 : z.toNat < 256 := z.toNat_lt
        obtain ⟨u, hu, hu0, hu1, hune⟩ : ∃ u : Int, bits .xor .u8 (z.toNat : Int) y = u ∧ 0 ≤ u ∧ u ≤ 255 ∧ (z.toNat : Int) ≠ u := by
          have hb : z.toNat ^^^ y.toNat < 256 := Nat.xor_lt_two_pow (n := 8) hz8 (by omega)
          refine ⟨((z.toNat ^^^ y.toNat : Nat) : Int), ?_, by omega, by omega, fun h => ?_⟩
          · rw [u8_xor _ _ (by omega) (by omega) (by omega) (by omega), Int.toNat_natCast]
          · have := xor_ne z.toNat y.toNat (by have := H0.out; omega)
            omega
        have HU := Lib.hid hune
        clear hune
        go_loopw [14] (fun i wr => WordsRel w wo.heap.size wo.heap.size l m i wr) (fun i _ => 20 - (intOf i).toNat)
        case atStart =>
          exact ⟨0, [wo.heap.size], by omega, rfl, lexAt_new HK.out rfl (Nat.le_refl _) lexZero lexZero_eq⟩
        case round =>
          obtain ⟨p, F, hp, rfl, hg⟩ := hrel
          by_cases hlt : p < m
          · have hql : p < l.length := by have := HZL.out; omega
            obtain ⟨x, hx, hxl⟩ := HAT.out p (by omega)
            have hx8 : x.toNat < 256 := x.toNat_lt
            have hrt := run_take (bs := l) hql Lex.new
            rw [hxl] at hrt
            have hst := lexed hg (by omega) (x.toNat : Int) (by omega) (by omega)
            obtain ⟨r, hr⟩ : ∃ r, (Lex.new.run (l.take p)).1.step x.toNat = r := ⟨_, rfl⟩
            rw [hr] at hst hrt
            have HRT := Lib.hid hrt
            have hqi : (p : Int) < (m : Int) := by omega
            clear hrt hr hg hp hxl
            go_wp2_with fail
            refine hst.mono ?_
            rintro e w2 ⟨v1, F1, rfl, ho1, h1, k1, hn1⟩
            simp only [ToksVal]
            have H1 := Lib.hid h1
            clear hst h1 k1 hn1 ho1
            go_wp2_with fail
            go_roundw
            case rel => exact ⟨p + 1, F1, by omega, by go_num, by rw [HRT.out]; exact H1.out⟩
            case measure => simp [intOf]; omega
          · obtain rfl : p = m := by omega
            obtain ⟨r1, r2, r3⟩ := HREST.out ⟨p, by omega⟩ hm0 (by show p < l.length; have := HZL.out; omega)
            have hpl : p < l.length := by have := HZL.out; omega
            have r3' : (Lex.new.run (l.take p)).1.rest = z :: l.drop (p + 1) := by
              have e : l.drop p = l[p] :: l.drop (p + 1) := List.drop_eq_getElem_cons hpl
              rw [show (Lex.new.run (l.take p)).1.rest = l.drop p from r3, e, hzl]
            have hst := lexed hg (by omega) u hu0 hu1
            rw [word_off r2 r1 r3' HU.out] at hst
            clear r1 r2 r3 r3' hg hp hlt hzl
            go_wp2_with fail
            refine hst.mono ?_
            rintro e w2 ⟨v1, F1, rfl, ho1, h1, k1, hn1⟩
            have hv1 := ho1.2 rfl
            subst hv1
            simp only [ToksVal]
            have hst2 := lexed h1 (by omega) 32 (by omega) (by omega)
            rw [step_bad (by simp)] at hst2
            clear hst h1 k1 hn1 ho1
            go_wp2_with fail
            refine hst2.mono ?_
            rintro e w3 ⟨v2, F2, rfl, ho2, h2, k2, hn2⟩
            simp only [ToksVal]
            have H2 := Lib.hid h2.keeps
            clear hst2 h2 k2 hn2 ho2
            go_wp2_with fail
            go_ret
            exact ⟨rfl, H2.out.all⟩

end Go.Proofs.Ytenkbjpjpblccaa
