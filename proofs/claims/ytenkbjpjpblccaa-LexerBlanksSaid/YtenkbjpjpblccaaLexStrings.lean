/-
  LexerStrings' walk.
-/
import Derived.Test.YtenkbjpjpblccaaLexNumbers
import Derived.Test.YtenkbjpjpblccaaRefText
namespace Go.Tru

theorem Chk.clean_put {c : Chk} (h : c.Clean) (r : Int) : (c.run (putOf r)).Clean := by
  unfold putOf
  split
  · exact Chk.run_enc_clean h (by unfold isRune; assumption)
  · exact h

theorem Chk.clean_puts : ∀ (l : List Int) {c : Chk}, c.Clean → (c.run (l.flatMap putOf)).Clean
  | [], _, h => h
  | r :: l, c, h => by
    rw [List.flatMap_cons, Chk.run_append]
    exact Chk.clean_puts l (Chk.clean_put h r)

theorem Chk.clean_as : ∀ (n : Nat) {c : Chk}, c.Clean → (c.run (List.replicate n 97)).Clean
  | 0, _, h => h
  | n + 1, c, h => by
    rw [List.replicate_succ, Chk.run_cons]
    refine Chk.clean_as n ?_
    rw [Chk.step_ascii h (by show (97 : Int) < 128; omega)]
    exact ⟨rfl, rfl⟩

theorem strs_utf8 (l : List Int) (n : Nat) : utf8 (l.flatMap putOf ++ List.replicate n 97) = true := by
  unfold utf8
  rw [Chk.clean_whole, Chk.run_append]
  exact Chk.clean_as n (Chk.clean_puts l Chk.clean_zero)

theorem puts_len (l : List Int) : (l.flatMap putOf).length ≤ l.length * 4 := by
  induction l with
  | nil => simp
  | cons r l ih =>
    have := putOf_len r
    rw [List.flatMap_cons, List.length_append, List.length_cons]
    omega

theorem puts_take {l : List Int} {k : Nat} {x : Int} (h : l[k]? = some x) : (l.take (k + 1)).flatMap putOf = (l.take k).flatMap putOf ++ putOf x := by
  obtain ⟨hk, rfl⟩ := List.getElem?_eq_some_iff.1 h
  have e : l.take (k + 1) = l.take k ++ [l[k]] := List.take_succ_eq_append_getElem hk
  rw [e, List.flatMap_append]
  simp

/-- a string's bytes -/
def quotedL (T : List UInt8) : List UInt8 := 34 :: (writeOf T ++ [34])

theorem quoted_len (T : List UInt8) : (quotedL T).length = (writeOf T).length + 2 := by simp [quotedL]

/-- a beginning of them, without the last quote -/
theorem quoted_take (T : List UInt8) {k : Nat} (hk : k + 1 < (quotedL T).length) : (quotedL T).take (k + 1) = 34 :: (writeOf T).take k := by
  rw [quoted_len] at hk
  unfold quotedL
  rw [List.take_succ_cons, List.take_append_of_le_length (by omega)]

theorem quoted_pre (T : List UInt8) : (quotedL T).take ((quotedL T).length - 1) = 34 :: writeOf T := by
  have h := quoted_take T (k := (writeOf T).length) (by rw [quoted_len]; omega)
  rw [List.take_length] at h
  rw [quoted_len]
  exact h

theorem quoted_prefix {T : List UInt8} (hu : utf8 T = true) {k : Nat} (hk : k < (quotedL T).length) :
    (Lex.new.run ((quotedL T).take k)).2 = [] ∧ ((Lex.new.run ((quotedL T).take k)).1.e = 5 ∧ 200 < T.length ∨ (Lex.new.run ((quotedL T).take k)).1.e = 0) := by
  cases k with
  | zero => exact ⟨rfl, Or.inr rfl⟩
  | succ k =>
    rw [quoted_take T hk]
    rw [quoted_len] at hk
    have hw := Chk.clean_whole.1 hu
    have hcalm := Rdr.calm_write T Rdr.at_new Chk.high_zero hw.1
    obtain ⟨r1, r2⟩ := Rdr.run_write T Rdr.at_new Chk.high_zero hw.1
    have hsplit : (writeOf T).take k ++ (writeOf T).drop k = writeOf T := List.take_append_drop _ _
    rw [← hsplit, Rdr.calm_append] at hcalm
    rw [← hsplit, Rdr.run_append] at r2
    have e1 := Lex.step_quote (L := Lex.new) rfl rfl
    obtain ⟨i1, i2⟩ := Lex.run_in ((writeOf T).take k) (L := { Lex.new with state := 1, r := Rdr.new, s := [] }) rfl rfl (by simp) hcalm.1
    have e2 : Lex.new.run (34 :: (writeOf T).take k) = ((Lex.run { Lex.new with state := 1, r := Rdr.new, s := [] } ((writeOf T).take k)).1, (Lex.run { Lex.new with state := 1, r := Rdr.new, s := [] } ((writeOf T).take k)).2) := by
      show (((Lex.new.step ((34 : UInt8).toNat : Int)).1.run _).1, (Lex.new.step ((34 : UInt8).toNat : Int)).2 ++ ((Lex.new.step ((34 : UInt8).toNat : Int)).1.run _).2) = _
      have : Lex.new.step ((34 : UInt8).toNat : Int) = Lex.new.step 34 := rfl
      rw [this, e1]
      rfl
    rw [e2]
    refine ⟨i1, ?_⟩
    have hlen : (Rdr.new.run ((writeOf T).take k)).2.length ≤ T.length := by
      have := congrArg List.length r2
      simp only [List.length_append] at this
      omega
    simp only [List.nil_append] at i2
    rcases i2 with ⟨a, b⟩ | ⟨a, b⟩
    · exact Or.inl ⟨a, Nat.lt_of_lt_of_le b hlen⟩
    · right
      rw [a]
      rfl

theorem quoted_last {T : List UInt8} (hu : utf8 T = true) (he : (Lex.new.run ((quotedL T).take ((quotedL T).length - 1))).1.e = 0) :
    T.length ≤ 200 ∧ (Lex.new.run ((quotedL T).take ((quotedL T).length - 1))).1.step 34 = ({ (Lex.new.run ((quotedL T).take ((quotedL T).length - 1))).1 with state := 0, s := [] }, [⟨115, ⟨T.toArray⟩, false, 0⟩]) := by
  rw [quoted_pre] at he ⊢
  obtain ⟨_, h2⟩ := Lex.string_run (L := Lex.new) rfl rfl hu
  rcases h2 with ⟨a, _⟩ | ⟨a, r, b, c⟩
  · rw [a] at he; cases he
  · refine ⟨a, ?_⟩
    rw [b, Lex.step_unquote rfl rfl c]

theorem quoted_get (T : List UInt8) : (quotedL T)[(quotedL T).length - 1]? = some 34 := by
  rw [quoted_len]
  unfold quotedL
  rw [show (writeOf T).length + 2 - 1 = (writeOf T).length + 1 by omega, List.getElem?_cons_succ, List.getElem?_append_right (by omega)]
  simp

/-- each step: too much text; the token at the last byte; nothing -/
theorem quoted_step {T : List UInt8} (hu : utf8 T = true) {k : Nat} {x : UInt8} (hk : (quotedL T)[k]? = some x) (he : (Lex.new.run ((quotedL T).take k)).1.e = 0) {r : Lex × List Tok} (hr : (Lex.new.run ((quotedL T).take k)).1.step x.toNat = r) :
    r.1.e = 5 ∧ r.2 = [] ∧ 200 < T.length ∨ r.1.e = 0 ∧ (k + 1 < (quotedL T).length ∧ r.2 = [] ∨ k + 1 = (quotedL T).length ∧ r.2 = [⟨115, ⟨T.toArray⟩, false, 0⟩] ∧ T.length ≤ 200 ∧ r.1.state = 0) := by
  have hkl : k < (quotedL T).length := (List.getElem?_eq_some_iff.1 hk).1
  have hrt := run_take' hk Lex.new
  rw [hr] at hrt
  by_cases hlast : k + 1 = (quotedL T).length
  · have hk' : k = (quotedL T).length - 1 := by omega
    have hg := quoted_get T
    rw [← hk', hk] at hg
    simp only [Option.some.injEq] at hg
    subst hg
    rw [hk'] at he hr
    obtain ⟨a, b⟩ := quoted_last hu he
    have : (Lex.new.run ((quotedL T).take ((quotedL T).length - 1))).1.step ((34 : UInt8).toNat : Int) = r := hr
    rw [show ((34 : UInt8).toNat : Int) = 34 from rfl, b] at this
    subst this
    exact Or.inr ⟨he, Or.inr ⟨hlast, rfl, a, rfl⟩⟩
  · obtain ⟨p1, p2⟩ := quoted_prefix hu (k := k + 1) (by omega)
    rw [hrt] at p1 p2
    have hn : r.2 = [] := (List.append_eq_nil_iff.1 p1).2
    rcases p2 with ⟨a, b⟩ | a
    · exact Or.inl ⟨a, hn, b⟩
    · exact Or.inr ⟨a, Or.inl ⟨by omega, hn⟩⟩
end Go.Tru
namespace Go.Proofs.Ytenkbjpjpblccaa
open Go.RowKit Go.Tru

def CatRel (xs : List Int) (n : Nat) (w : World) (s i : Value) (wr : World) : Prop :=
  ∃ (k : Nat) (S : ByteArray), k ≤ n ∧ i = .int .i64 k ∧ s = .string S ∧ S.data.toList = (xs.take k).flatMap putOf ∧ Keeps [] w wr

def PadRel (T0 : List UInt8) (w : World) (s : Value) (wr : World) : Prop :=
  ∃ (m : Nat) (S : ByteArray), s = .string S ∧ S.data.toList = T0 ++ List.replicate m 97 ∧ S.size ≤ T0.length + 220 ∧ Keeps [] w wr

def QRel (T : List UInt8) (w0 : World) (base b : Nat) (i : Value) (wr : World) : Prop :=
  ∃ (k : Nat) (F : List Nat), k ≤ (quotedL T).length ∧ i = .int .i64 k ∧ LexAt w0 wr base b (Lex.new.run ((quotedL T).take k)).1 F ∧ (Lex.new.run ((quotedL T).take k)).1.e = 0 ∧
    (k = (quotedL T).length → (Lex.new.run ((quotedL T).take k)).1.state = 0 ∧ T.length ≤ 200)

set_option maxHeartbeats 8000000 in
set_option maxRecDepth 100000 in
theorem lexerStrings_walk (o : Option Addr) (n c : Nat) (xs : List Int) (z : Int) (w : World) (h : IntsIn w o n c xs) (hz : -9223372036854775808 ≤ z ∧ z ≤ 9223372036854775807) :
    Calls Try.prog 5 #[.slice o n c, .int .i64 z] w fun e w' => e = .returned (.bool true) ∧ Below w.heap.size w w' := by
  refine Calls.mono (R := fun e w' => e = .returned (.bool true) ∧ Keeps [] w w') ?_ (fun e w' h => ⟨h.1, h.2.all⟩)
  have m1 : n ≤ 9223372036854775807 := by have := h.room; have := h.most; unfold maxLen at *; omega
  have hl := h.len
  obtain ⟨hz1, hz2⟩ := hz
  have H := Lib.hid h
  have L := Lib.hid hl
  clear h hl
  by_cases hbad : 40 < n ∨ z < 0 ∨ 220 < z
  · have hb : 40 < n ∨ n ≤ 40 ∧ z < 0 ∨ n ≤ 40 ∧ 0 ≤ z ∧ 220 < z := by omega
    clear hbad
    rcases hb with hb | ⟨hb, hb2⟩ | ⟨hb, hb2, hb3⟩
    all_goals
      have hb' : (40 : Int) < (n : Int) ∨ (n : Int) ≤ 40 := by omega
      go_enter Try.func5, Try.ntmps5
      go_wp2_with fail
      refine (alive_any _).mono ?_
      rintro e w1 ⟨rfl, k1⟩
      have K1 := Lib.hid k1
      clear k1
      go_wp2_with fail
      go_ret
      exact ⟨rfl, K1.out⟩
  · obtain ⟨b1, b2, b3⟩ : n ≤ 40 ∧ 0 ≤ z ∧ z ≤ 220 := by omega
    clear hbad
    go_enter Try.func5, Try.ntmps5
    go_wp2_with fail
    refine (alive_any _).mono ?_
    rintro e w1 ⟨rfl, k1⟩
    have K1 := Lib.hid k1
    clear k1
    go_wp2_with fail
    go_loopw [5, 31] (fun s i wr => CatRel xs n w s i wr) (fun _ i _ => n - (intOf i).toNat)
    case atStart => exact ⟨0, ⟨#[]⟩, Nat.zero_le _, rfl, rfl, rfl, K1.out⟩
    case round =>
      obtain ⟨k, S, hk, rfl, rfl, hS, hK⟩ := hrel
      by_cases hlt : k < n
      · have hx : k < xs.length := by rw [L.out]; exact hlt
        obtain ⟨bb, off, rfl, hcell⟩ := (H.out.keeps hK).get hlt hx
        have hnext := puts_take (l := xs) (k := k) (x := xs[k]) (List.getElem?_eq_getElem hx)
        obtain ⟨x, hxx⟩ : ∃ x, xs[k] = x := ⟨_, rfl⟩
        rw [hxx] at hcell hnext
        obtain ⟨D, hD⟩ : ∃ D : ByteArray, ⟨(putOf x).toArray⟩ = D := ⟨_, rfl⟩
        have hDd : D.data.toList = putOf x := by rw [← hD]
        have hr := fun W => refRune x W
        rw [hD] at hr
        have hz : ¬ 281474976710656 < S.size + D.size := by
          have h1 := puts_len (xs.take k)
          have h2 := putOf_len x
          rw [tx_size, tx_size, hS, hDd]
          simp only [List.length_take] at h1
          omega
        have HS := Lib.hid hS
        have HK := Lib.hid hK
        have HN := Lib.hid hnext
        have HD := Lib.hid hDd
        clear hS hK hnext hDd hD hxx
        go_wp2_with fail
        refine (hr _).mono ?_
        rintro e w2 ⟨rfl, k2⟩
        have K2 := Lib.hid (HK.out.trans k2)
        clear k2
        go_wp2_with fail
        go_roundw
        case rel => exact ⟨k + 1, S ++ D, by omega, by go_num, rfl, by rw [HN.out, tx_app, HS.out, HD.out], K2.out⟩
        case measure => simp [intOf]; omega
      · obtain rfl : k = n := by omega
        have e1 : xs.take k = xs := List.take_of_length_le (by rw [L.out]; omega)
        rw [e1] at hS
        obtain ⟨T0, hT0⟩ : ∃ T0, xs.flatMap putOf = T0 := ⟨_, rfl⟩
        have hlen0 : T0.length ≤ 160 := by
          have h1 := puts_len xs
          rw [hT0, L.out] at h1
          omega
        rw [hT0] at hS
        obtain ⟨wo, rfl⟩ : ∃ wo : World, wo = wr := ⟨_, rfl⟩
        have HT0 := Lib.hid hT0
        have HS := Lib.hid hS
        have HK := Lib.hid hK
        have hSz : S.size = T0.length := by rw [tx_size, hS]
        clear hS hK hT0 e1 hk hlt
        go_wp2_with fail
        go_loopw [5] (fun s wr => PadRel T0 w s wr) (fun s _ => 1000 - strLen s)
        case atStart => exact ⟨0, S, rfl, by rw [HS.out]; simp, by omega, HK.out⟩
        case round =>
          obtain ⟨m, S2, rfl, hS2, hz2, hK2⟩ := hrel
          have HS2 := Lib.hid hS2
          have HK2 := Lib.hid hK2
          clear hS2 hK2
          by_cases hlt : (S2.size : Int) < z
          · have hz : ¬ 281474976710656 < S2.size + (⟨#[97]⟩ : ByteArray).size := by show ¬ _ < S2.size + 1; omega
            go_wp2_with fail
            go_roundw
            case rel =>
              refine ⟨m + 1, S2 ++ ⟨#[97]⟩, rfl, by rw [tx_app, HS2.out, List.replicate_succ', List.append_assoc], ?_, HK2.out⟩
              rw [tx_size, tx_app, List.length_append, ← tx_size]
              show S2.size + 1 ≤ _
              omega
            case measure =>
              simp only [strLen]
              have : (S2 ++ (⟨#[97]⟩ : ByteArray)).size = S2.size + 1 := by rw [tx_size, tx_app, List.length_append, ← tx_size]; rfl
              rw [this]
              omega
          · have hu := strs_utf8 xs m
            rw [HT0.out] at hu
            obtain ⟨T, hT⟩ : ∃ T, T0 ++ List.replicate m 97 = T := ⟨_, rfl⟩
            have hST : S2.data.toList = T := by rw [HS2.out, hT]
            rw [hT] at hu
            have HU := Lib.hid hu
            have HST := Lib.hid hST
            have hTl : S2.size = T.length := by rw [tx_size, hST]
            have hwl := writeOf_len T
            have hw := fun W => refWrite S2 (by omega) W
            rw [hST] at hw
            obtain ⟨W, hW⟩ : ∃ W : ByteArray, ⟨(writeOf T).toArray⟩ = W := ⟨_, rfl⟩
            rw [hW] at hw
            have hWd : W.data.toList = writeOf T := by rw [← hW]
            have hWs : W.size ≤ 2400 := by rw [tx_size, hWd]; omega
            have z1 : ¬ 281474976710656 < (⟨#[34]⟩ : ByteArray).size + W.size := by show ¬ _ < 1 + W.size; omega
            obtain ⟨W1, hW1⟩ : ∃ W1, (⟨#[34]⟩ : ByteArray) ++ W = W1 := ⟨_, rfl⟩
            have hW1d : W1.data.toList = 34 :: writeOf T := by rw [← hW1, tx_app, hWd]; rfl
            have hW1s : W1.size ≤ 2401 := by rw [tx_size, hW1d, List.length_cons, ← hWd, ← tx_size]; omega
            have z2 : ¬ 281474976710656 < W1.size + (⟨#[34]⟩ : ByteArray).size := by show ¬ _ < W1.size + 1; omega
            obtain ⟨Q, hQ⟩ : ∃ Q, W1 ++ (⟨#[34]⟩ : ByteArray) = Q := ⟨_, rfl⟩
            have hQd : Q.data.toList = quotedL T := by rw [← hQ, tx_app, hW1d]; rfl
            obtain ⟨Z, hZ⟩ : ∃ Z : Nat, Q.size = Z := ⟨_, rfl⟩
            have hat : ∀ q (h : q < Z), ∃ x : UInt8, Q[q]'(hZ ▸ h) = x ∧ (quotedL T)[q]? = some x := fun q h => ⟨_, rfl, by
              rw [← hQd, List.getElem?_eq_getElem (by rw [Array.length_toList]; show q < Q.size; omega)]
              rfl⟩
            have hZq : (quotedL T).length = Z := by rw [← hZ, tx_size, hQd]
            have HAT := Lib.hid hat
            have HZQ := Lib.hid hZq
            have HTL := Lib.hid hTl
            obtain ⟨ws, rfl⟩ : ∃ ws : World, ws = wr := ⟨_, rfl⟩
            have hZ2 : Z ≤ 5000 := by
              rw [← HZQ.out, quoted_len, ← hWd, ← tx_size]; omega
            clear hu hST hT hW hWd hW1d hQd hat hZq hwl hW1s hWs
            go_wp2_with fail
            refine (hw _).mono ?_
            rintro e w2 ⟨rfl, k2⟩
            have h2 := (lexAt_new HK2.out (base := ws.heap.size) rfl (Nat.le_refl _) lexZero lexZero_eq).keeps' k2 (by simp) (by simp)
            have H2 := Lib.hid h2
            have hzz := HK2.out.size
            clear k2 h2 hw
            go_wp2_with fail
            go_loopw [10] (fun i wr => QRel T w ws.heap.size ws.heap.size i wr) (fun i _ => 6000 - (intOf i).toNat)
            case atStart => exact ⟨0, [ws.heap.size], by omega, rfl, H2.out, rfl, fun h0 => by rw [quoted_len] at h0; omega⟩
            case round =>
              obtain ⟨q, F, hq, rfl, hg, he, hend⟩ := hrel
              rw [HZQ.out] at hq hend
              by_cases hlt : q < Z
              · obtain ⟨x, hx, hxl⟩ := HAT.out q hlt
                have hx8 : x.toNat < 256 := x.toNat_lt
                have hrt := run_take' hxl Lex.new
                have hst := lexed hg (by omega) (x.toNat : Int) (by omega) (by omega)
                obtain ⟨⟨r1, r2⟩, hr⟩ : ∃ r, (Lex.new.run ((quotedL T).take q)).1.step x.toNat = r := ⟨_, rfl⟩
                have hcases := quoted_step HU.out hxl he hr
                rw [hr] at hst hrt
                rw [HZQ.out] at hcases
                simp only at hcases
                have HRT := Lib.hid hrt
                have hqi : (q : Int) < (Z : Int) := by omega
                clear hrt hr hg hq hxl he hend
                rcases hcases with ⟨c1, c2, c3⟩ | ⟨c1, ⟨c2, c3⟩ | ⟨c2, c3, c4, c5⟩⟩
                · subst c2
                  have hov : (200 : Int) < (S2.size : Int) := by have := HTL.out; omega
                  have HC1 := Lib.hid c1
                  clear c1 c3
                  go_wp2_with fail
                  refine hst.mono ?_
                  rintro e w3 ⟨v1, F1, rfl, ho1, h1, k1, hn1, _⟩
                  have hv1 := ho1.2 rfl
                  subst hv1
                  simp only [ToksVal]
                  rw [HC1.out]
                  have H1 := Lib.hid h1.keeps
                  clear hst h1 k1 hn1 ho1
                  go_wp2_with fail
                  go_ret
                  exact ⟨rfl, H1.out⟩
                · subst c3
                  have hqz : ((q : Int) == (Z : Int) - 1) = false := by rw [beq_eq_false_iff_ne]; omega
                  have HC1 := Lib.hid c1
                  clear c1
                  by_cases hov : (200 : Int) < (S2.size : Int)
                  all_goals
                    go_wp2_with fail
                    refine hst.mono ?_
                    rintro e w3 ⟨v1, F1, rfl, ho1, h1, k1, hn1, _⟩
                    have hv1 := ho1.2 rfl
                    subst hv1
                    simp only [ToksVal]
                    rw [HC1.out]
                    have H1 := Lib.hid h1
                    clear hst h1 k1 hn1 ho1
                    go_wp2_with fail
                    go_roundw
                    case rel => exact ⟨q + 1, F1, by have := HZQ.out; omega, by go_num, by rw [HRT.out]; exact H1.out, by rw [HRT.out]; exact HC1.out, fun h0 => by have := HZQ.out; omega⟩
                    case measure => simp [intOf]; omega
                · subst c3
                  have hqz : ((q : Int) == (Z : Int) - 1) = true := by rw [beq_iff_eq]; omega
                  have hov : ¬ (200 : Int) < (S2.size : Int) := by have := HTL.out; omega
                  have HC1 := Lib.hid c1
                  have HC4 := Lib.hid c4
                  have HC5 := Lib.hid c5
                  have HSS := Lib.hid (tx_of S2 HST.out)
                  clear c1 c4 c5
                  go_wp2_with fail
                  refine hst.mono ?_
                  rintro e w3 ⟨v1, F1, rfl, ho1, h1, k1, hn1, _⟩
                  obtain ⟨gg, cap, rfl, hgb, hglt, hget⟩ := OwnsToks.get ho1.1 (by simp)
                  have t0 := hget 0 _ rfl 0 (by omega)
                  have t1 := hget 0 _ rfl 1 (by omega)
                  simp only [Tok.cells, Nat.zero_mul, Nat.zero_add, List.getElem?_cons_zero, List.getElem?_cons_succ] at t0 t1
                  rw [← HSS.out] at t1
                  simp only [ToksVal, List.length_singleton]
                  rw [HC1.out]
                  have H1 := Lib.hid h1
                  clear hst h1 k1 hn1 ho1 hget
                  go_wp2_with fail
                  go_roundw
                  case rel => exact ⟨q + 1, F1, by have := HZQ.out; omega, by go_num, by rw [HRT.out]; exact H1.out, by rw [HRT.out]; exact HC1.out, fun _ => by rw [HRT.out]; exact ⟨HC5.out, HC4.out⟩⟩
                  case measure => simp [intOf]; omega
              · obtain rfl : q = Z := by omega
                obtain ⟨e1, e2⟩ := hend rfl
                have hle : (S2.size : Int) ≤ 200 := by have := HTL.out; omega
                have hheld := lex_held ws.heap.size ws.heap.size [] _ _ F wr hg.in_
                rw [show (Lex.new.run ((quotedL T).take q)).1.held = 0 by unfold Lex.held; rw [if_pos (Or.inr (by rw [e1]; decide))]] at hheld
                have HK3 := Lib.hid hg.keeps
                clear hg he hend e1 e2 hq hlt
                go_wp2_with fail
                refine hheld.mono ?_
                rintro e w3 ⟨rfl, rfl⟩
                go_wp2_with fail
                go_ret
                exact ⟨rfl, HK3.out⟩
end Go.Proofs.Ytenkbjpjpblccaa
