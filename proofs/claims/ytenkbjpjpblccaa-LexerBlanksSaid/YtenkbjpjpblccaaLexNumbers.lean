/-
  LexerNumbers' walk.
-/
import Derived.Test.YtenkbjpjpblccaaLexAlive
import Derived.Test.YtenkbjpjpblccaaRefPrint
import Derived.Test.YtenkbjpjpblccaaLexOpens
namespace Go.Tru

def numLex (g : Bool) (m : Nat) : Lex := { Lex.new with state := 2, n := Num.new.ran (printW g m) }
def numTok (g : Bool) (m : Nat) : Tok := ⟨110, ⟨#[]⟩, g, m⟩

theorem num_run (g : Bool) (m : Nat) : Lex.new.run (printW g m) = (numLex g m, []) := Lex.run_print rfl rfl g m

theorem num_blank (g : Bool) {m : Nat} (hm : m < 18446744073709551616) {c : Int} (hc : c = 32 ∨ c = 10 ∨ c = 9 ∨ c = 13) : (numLex g m).step c = ({ numLex g m with state := 0 }, [numTok g m]) := by
  obtain ⟨z, h1, h2⟩ := at_print g hm
  rw [Lex.step_num (L := numLex g m) rfl rfl h1 h2 (by simp only [isDig, decide_eq_false_iff_not]; omega) (by omega)]
  have hb : isBlank c = true := by simp only [isBlank, decide_eq_true_eq]; omega
  have : Lex.between { numLex g m with state := 0 } c = ({ numLex g m with state := 0 }, []) := by unfold Lex.between; rw [if_pos hb]
  rw [this]
  rfl

theorem num_mark (g : Bool) {m : Nat} (hm : m < 18446744073709551616) {c : Int} (hc : c = 44 ∨ c = 93 ∨ c = 125 ∨ c = 58 ∨ c = 91 ∨ c = 123) : (numLex g m).step c = ({ numLex g m with state := 0 }, [numTok g m, Tok.of c]) := by
  obtain ⟨z, h1, h2⟩ := at_print g hm
  rw [Lex.step_num (L := numLex g m) rfl rfl h1 h2 (by simp only [isDig, decide_eq_false_iff_not]; omega) (by omega)]
  have hb : isBlank c = false := by simp only [isBlank, decide_eq_false_iff_not]; omega
  have hk : isMark c = true := by simp only [isMark, decide_eq_true_eq]; omega
  have : Lex.between { numLex g m with state := 0 } c = ({ numLex g m with state := 0 }, [Tok.of c]) := by unfold Lex.between; rw [if_neg (by simp [hb]), if_pos hk]
  rw [this]
  rfl

theorem num_fin (g : Bool) {m : Nat} (hm : m < 18446744073709551616) : (numLex g m).fin = ({ numLex g m with state := 0 }, [numTok g m]) := by
  obtain ⟨z, h1, h2⟩ := at_print g hm
  exact Lex.fin_num rfl rfl h2

theorem num_fin2 (g : Bool) (m : Nat) : Lex.fin { numLex g m with state := 0 } = ({ numLex g m with state := 0 }, []) := by
  unfold Lex.fin
  rw [if_pos (Or.inr rfl)]

theorem num_prefix (g : Bool) (m : Nat) {k : Nat} (_hk : k ≤ (printW g m).length) : (Lex.new.run ((printW g m).take k)).1.e = 0 ∧ (Lex.new.run ((printW g m).take k)).2 = [] := by
  have h := num_run g m
  have he : (printW g m).take k ++ (printW g m).drop k = printW g m := List.take_append_drop _ _
  constructor
  · refine Lex.run_e (m := (printW g m).drop k) ?_
    rw [he, h]
    rfl
  · refine Lex.run_none (m := (printW g m).drop k) ?_
    rw [he, h]

theorem print_len (g : Bool) {m : Nat} (hm : m < 18446744073709551616) : (printW g m).length ≤ 21 := by
  cases g
  · have := dec_size m hm
    simp only [printW, Bool.false_eq_true, if_false]
    omega
  · by_cases ht : m = 18446744073709551615
    · subst ht
      simp only [printW, if_true]
      rw [dec_top]
      decide
    · have := dec_size (m + 1) (by omega)
      simp only [printW, if_true, List.length_cons]
      omega
end Go.Tru
namespace Go.Proofs.Ytenkbjpjpblccaa
open Go.RowKit Go.Tru

def NumsRel (g : Bool) (m : Nat) (w0 : World) (base b bw : Nat) (i : Value) (wr : World) : Prop :=
  ∃ (k : Nat) (F : List Nat), k ≤ (printW g m).length ∧ i = .int .i64 k ∧ LexAt w0 wr base b (Lex.new.run ((printW g m).take k)).1 F ∧ Has wr bw [.bool g, .int .u64 m] 44

set_option maxHeartbeats 8000000 in
set_option maxRecDepth 100000 in
theorem lexerNumbers_walk (g : Bool) (m : Nat) (c : Int) (w : World) (hm : m < 18446744073709551616) (hc : 0 ≤ c ∧ c ≤ 255) :
    Calls Try.prog 6 #[.agg #[.bool g, .int .u64 m], .int .u8 c] w fun e w' => e = .returned (.bool true) ∧ Below w.heap.size w w' := by
  obtain ⟨hc1, hc2⟩ := hc
  have hpl := print_len g hm
  obtain ⟨sv, hsv⟩ : ∃ sv : ByteArray, ⟨(printW g m).toArray⟩ = sv := ⟨_, rfl⟩
  obtain ⟨Z, hZ⟩ : ∃ Z : Nat, sv.size = Z := ⟨_, rfl⟩
  have hsize : (printW g m).length = Z := by rw [← hZ, ← hsv]; rfl
  have hat : ∀ q (h : q < Z), ∃ x : UInt8, sv[q]'(by omega) = x ∧ (printW g m)[q]? = some x := fun q h => ⟨_, rfl, by
    have hq : q < (printW g m).length := by omega
    rw [List.getElem?_eq_getElem hq]
    simp only [← hsv]
    rfl⟩
  have hpr := fun W => refPrint g m hm W
  rw [hsv] at hpr
  have HAT := Lib.hid hat
  have HZ := Lib.hid hsize
  have HM := Lib.hid hm
  have hZ21 : Z ≤ 21 := by omega
  clear hat hsize hpl hm hsv
  go_enter Try.func6, Try.ntmps6
  go_wp2_with fail
  refine (alive_any _).mono ?_
  rintro e w1 ⟨rfl, k1⟩
  have K1 := Lib.hid (((Keeps.refl [] w).alloc (.cells #[.bool g, .int .u64 m] 44)).trans k1)
  have HB1 := Lib.hid ((Has.new' w #[.bool g, .int .u64 m] 44 rfl).keeps k1 (by simp))
  clear k1
  have c0 := (HB1.out.alloc (.cells lexZero 39)).cell 0
  have c1 := (HB1.out.alloc (.cells lexZero 39)).cell 1
  simp only [List.getElem?_cons_zero, List.getElem?_cons_succ, lexZero] at c0 c1
  have hlt1 := HB1.out.lt
  go_wp2_with fail
  refine (hpr _).mono ?_
  rintro e w2 ⟨rfl, k2⟩
  have h2 := (lexAt_new K1.out (base := w1.heap.size) rfl (Nat.le_refl _) lexZero lexZero_eq).keeps' k2 (by simp) (by simp)
  have HB2 := Lib.hid ((HB1.out.alloc (.cells lexZero 39)).keeps k2 (by simp))
  have H2 := Lib.hid h2
  have hz2 := h2.base_le
  have hz1 := K1.out.size
  clear k2 h2 c0 c1 hpr
  go_wp2_with fail
  go_loopw [7] (fun i wr => NumsRel g m w w1.heap.size w1.heap.size w.heap.size i wr) (fun i _ => 100 - (intOf i).toNat)
  case atStart =>
    exact ⟨0, [w1.heap.size], by omega, rfl, H2.out, HB2.out⟩
  case round =>
    obtain ⟨q, F, hq, rfl, hg, hB⟩ := hrel
    rw [HZ.out] at hq
    by_cases hlt : q < Z
    · have hql : q < (printW g m).length := by have := HZ.out; omega
      obtain ⟨x, hx, hxl⟩ := HAT.out q hlt
      have hx8 : x.toNat < 256 := x.toNat_lt
      obtain ⟨hok, hno⟩ := num_prefix g m (k := q + 1) (by omega)
      have hrt := run_take' hxl Lex.new
      have hst := lexed hg (by omega) (x.toNat : Int) (by omega) (by omega)
      obtain ⟨⟨r1, r2⟩, hr⟩ : ∃ r, (Lex.new.run ((printW g m).take q)).1.step x.toNat = r := ⟨_, rfl⟩
      rw [hr] at hst hrt
      rw [hrt] at hok hno
      have he0 : r1.e = 0 := hok
      have ht0 : r2 = [] := (List.append_eq_nil_iff.1 hno).2
      subst ht0
      have HRT := Lib.hid hrt
      have HE := Lib.hid he0
      have hqi : (q : Int) < (Z : Int) := by omega
      have HB := Lib.hid hB
      have hbF : w.heap.size ∉ F := fun hm => by have := hg.low _ hm; omega
      have HBF := Lib.hid hbF
      clear hok hno hrt hr hg hq he0 hxl hB hbF
      go_wp2_with fail
      refine hst.mono ?_
      rintro e w3 ⟨v1, F1, rfl, ho1, h1, k1, hn1, _⟩
      have hv1 := ho1.2 rfl
      subst hv1
      simp only [ToksVal]
      rw [HE.out]
      have H1 := Lib.hid h1
      have HB3 := Lib.hid (HB.out.keeps k1 HBF.out)
      clear hst h1 k1 hn1 ho1
      go_wp2_with fail
      go_roundw
      case rel => exact ⟨q + 1, F1, by have := HZ.out; omega, by go_num, by rw [HRT.out]; exact H1.out, HB3.out⟩
      case measure => simp [intOf]; omega
    · obtain rfl : q = Z := by omega
      have hrun : Lex.new.run ((printW g m).take q) = (numLex g m, []) := by rw [← HZ.out, List.take_length, num_run]
      rw [hrun] at hg
      have hbF : w.heap.size ∉ F := fun hm => by have := hg.low _ hm; omega
      have HG := Lib.hid hg
      have HB := Lib.hid hB
      have HBF := Lib.hid hbF
      clear hrun hg hB hbF hq hlt
      by_cases hb : c = 32 ∨ c = 10 ∨ c = 9 ∨ c = 13
      · have hst := lexed HG.out (by omega) c hc1 hc2
        rw [num_blank g HM.out hb] at hst
        rcases hb with rfl | rfl | rfl | rfl
        all_goals
          go_wp2_with fail
          refine hst.mono ?_
          rintro e w3 ⟨v1, F1, rfl, ho1, h1, k1, hn1, _⟩
          obtain ⟨gg, cap, rfl, hgb, hglt, hget⟩ := OwnsToks.get ho1.1 (by simp)
          have t0 := hget 0 _ rfl 0 (by omega)
          have t2 := hget 0 _ rfl 2 (by omega)
          have t3 := hget 0 _ rfl 3 (by omega)
          simp only [numTok, Tok.cells, Nat.zero_mul, Nat.zero_add, List.getElem?_cons_zero, List.getElem?_cons_succ] at t0 t2 t3
          simp only [ToksVal, List.length_singleton]
          have hB3 := HB.out.keeps k1 HBF.out
          have b0 := hB3.cell 0
          have b1 := hB3.cell 1
          simp only [List.getElem?_cons_zero, List.getElem?_cons_succ] at b0 b1
          have H1 := Lib.hid h1.keeps
          have hne0 : (numLex g m).e = 0 := rfl
          clear hst h1 k1 hn1 ho1 hget hB3
          go_wp2_with fail
          go_region
          all_goals
            go_wp2_with fail
            go_ret
            exact ⟨ret_bool (by simp), H1.out.drew.all⟩
      · by_cases hk : c = 44 ∨ c = 93 ∨ c = 125 ∨ c = 58 ∨ c = 91 ∨ c = 123
        · have hst := lexed HG.out (by omega) c hc1 hc2
          rw [num_mark g HM.out hk] at hst
          clear hb
          rcases hk with rfl | rfl | rfl | rfl | rfl | rfl
          all_goals
            go_wp2_with fail
            refine hst.mono ?_
            rintro e w3 ⟨v1, F1, rfl, ho1, h1, k1, hn1, _⟩
            obtain ⟨gg, cap, rfl, hgb, hglt, hget⟩ := OwnsToks.get ho1.1 (by simp)
            have t2 := hget 0 _ rfl 2 (by omega)
            have t3 := hget 0 _ rfl 3 (by omega)
            have t4 := hget 1 _ rfl 0 (by omega)
            simp only [numTok, Tok.cells, Tok.of, Nat.zero_mul, Nat.zero_add, Nat.one_mul, Nat.add_zero, List.getElem?_cons_zero, List.getElem?_cons_succ] at t2 t3 t4
            simp only [ToksVal, List.length_cons, List.length_nil]
            have hne0 : (numLex g m).e = 0 := rfl
            have hB3 := HB.out.keeps k1 HBF.out
            have b0 := hB3.cell 0
            have b1 := hB3.cell 1
            simp only [List.getElem?_cons_zero, List.getElem?_cons_succ] at b0 b1
            have H1 := Lib.hid h1.keeps
            clear hst h1 k1 hn1 ho1 hget hB3
            go_wp2_with fail
            go_region
            all_goals
              go_wp2_with fail
              go_ret
              exact ⟨ret_bool (by simp), H1.out.drew.all⟩
        · have hst := finned HG.out (by omega) (fin_ok HG.out.fit)
          rw [num_fin g HM.out] at hst
          have n1 : (c == 32) = false := by rw [beq_eq_false_iff_ne]; omega
          have n2 : (c == 10) = false := by rw [beq_eq_false_iff_ne]; omega
          have n3 : (c == 9) = false := by rw [beq_eq_false_iff_ne]; omega
          have n4 : (c == 13) = false := by rw [beq_eq_false_iff_ne]; omega
          have n5 : (c == 44) = false := by rw [beq_eq_false_iff_ne]; omega
          have n6 : (c == 93) = false := by rw [beq_eq_false_iff_ne]; omega
          have n7 : (c == 125) = false := by rw [beq_eq_false_iff_ne]; omega
          have n8 : (c == 58) = false := by rw [beq_eq_false_iff_ne]; omega
          have n9 : (c == 91) = false := by rw [beq_eq_false_iff_ne]; omega
          have n0 : (c == 123) = false := by rw [beq_eq_false_iff_ne]; omega
          clear hb hk
          go_wp2_with fail
          refine hst.mono ?_
          rintro e w3 ⟨v1, F1, rfl, ho1, h1, k1, hn1, hd1⟩
          have hst2 := finned h1 (by omega) (fin_ok h1.fit)
          rw [num_fin2] at hst2
          obtain ⟨gg, cap, rfl, hgb, hglt, hget⟩ := OwnsToks.get ho1.1 (by simp)
          have t2 := hget 0 _ rfl 2 (by omega)
          have t3 := hget 0 _ rfl 3 (by omega)
          simp only [numTok, Tok.cells, Nat.zero_mul, Nat.zero_add, List.getElem?_cons_zero, List.getElem?_cons_succ] at t2 t3
          simp only [ToksVal, List.length_singleton]
          have hne0 : (numLex g m).e = 0 := rfl
          have HB3 := Lib.hid (HB.out.keeps k1 HBF.out)
          have hgF : gg ∉ F1 := fun hm => hd1 gg hm (mem_blks.2 rfl)
          have hbF1 : w.heap.size ∉ F1 := fun hm => by have := h1.low _ hm; omega
          have HGF := Lib.hid hgF
          have HBF1 := Lib.hid hbF1
          clear hst h1 k1 hn1 ho1 hd1 hget hgF hbF1
          go_wp2_with fail
          refine hst2.mono ?_
          rintro e w4 ⟨v2, F2, rfl, ho2, h2, k2, hn2, _⟩
          have hv2 := ho2.2 rfl
          subst hv2
          have u2 := k2.cell t2 HGF.out
          have u3 := k2.cell t3 HGF.out
          have hB4 := HB3.out.keeps k2 HBF1.out
          have b0 := hB4.cell 0
          have b1 := hB4.cell 1
          simp only [List.getElem?_cons_zero, List.getElem?_cons_succ] at b0 b1
          simp only [ToksVal]
          have H2 := Lib.hid h2.keeps
          have hg4 : gg < w4.heap.size := Nat.lt_of_lt_of_le hglt k2.size
          clear hst2 h2 k2 hn2 ho2 hB4 t2 t3
          go_wp2_with fail
          go_region
          all_goals
            go_wp2_with fail
            go_ret
            exact ⟨ret_bool (by simp), H2.out.drew.all⟩

end Go.Proofs.Ytenkbjpjpblccaa
