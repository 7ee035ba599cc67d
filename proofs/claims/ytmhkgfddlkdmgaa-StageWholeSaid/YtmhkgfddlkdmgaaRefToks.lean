/-
  An own row of the reference's tokens; truchmanref1.Tokens: it ends, and tells no more than there is.
-/
import Derived.Test.YtmhkgfddlkdmgaaRefNumber
import Derived.Test.YtmhkgfddlkdmgaaRefInside
import Derived.Test.YtmhkgfddlkdmgaaLexModel
import Derived.Test.YtmhkgfddlkdmgaaBlks
import Derived.Maps.AppendAt
import Derived.Test.YtmhkgfddlkdmgaaStack
namespace Go.Tru
theorem tok_one (ts : List Tok) : ∀ u ∈ ts.flatMap Tok.cells, u.oneCell' = true := by
  intro u hu
  obtain ⟨e, _, h⟩ := List.mem_flatMap.1 hu
  simp only [Tok.cells, List.mem_cons, List.not_mem_nil, or_false] at h
  rcases h with rfl | rfl | rfl | rfl <;> rfl

theorem rtoks_len (ts : List Tok) : (ts.flatMap Tok.cells).length = ts.length * 4 := by
  induction ts with
  | nil => rfl
  | cons t ts ih =>
    have h4 : t.cells.length = 4 := rfl
    rw [List.flatMap_cons, List.length_append, ih, List.length_cons, h4, Nat.add_mul]; omega

/-- The slice value v holds these tokens, in a row that the call owns. -/
def OwnsRT (w : World) (base : Nat) (v : Value) (ts : List Tok) : Prop := w.ownsRow base 54 4 v ts.length (ts.flatMap Tok.cells)

theorem OwnsRT.nil (w : World) (base : Nat) : OwnsRT w base (.slice none 0 0) [] := World.ownsRow_nil _ _ _ _

theorem OwnsRT.shape {w : World} {base : Nat} {v : Value} {ts : List Tok} (h : OwnsRT w base v ts) : ∃ a cap, v = .slice a ts.length cap := by
  rcases h.2 with ⟨h1, h2⟩ | ⟨g, cap, cur, h1, _⟩
  · exact ⟨none, 0, by rw [h1, h2]⟩
  · exact ⟨_, _, h1⟩

theorem OwnsRT.some_ {w : World} {base : Nat} {v : Value} {ts : List Tok} (h : OwnsRT w base v ts) (h0 : ts ≠ []) :
    ∃ g cap, v = .slice (some ⟨g, 0, none⟩) ts.length cap ∧ base ≤ g ∧ g < w.heap.size ∧ ts.length ≤ cap ∧ cap ≤ maxLen := by
  have hlt := World.ownsRow.lt h
  rcases h.2 with ⟨_, h2⟩ | ⟨g, cap, cur, rfl, hb, hg, hn, hm, _⟩
  · exact absurd (List.length_eq_zero_iff.1 h2) h0
  · exact ⟨g, cap, rfl, hb, (hlt g rfl).2, hn, hm⟩

theorem OwnsRT.pop {w : World} {base g cap n : Nat} {ts : List Tok} (h : OwnsRT w base (.slice (some ⟨g, 0, none⟩) ts.length cap) ts) (hn : n ≤ ts.length) : OwnsRT w base (.slice (some ⟨g, 0, none⟩) n cap) (ts.take n) := by
  unfold OwnsRT at h ⊢
  have hl : (ts.take n).length = n := by simp; omega
  rw [hl]
  refine ⟨by rw [rtoks_len, hl], ?_⟩
  rcases h.2 with ⟨h1, _⟩ | ⟨g', cap', cur, h1, hb, hg, hn', hm, hs, ht⟩
  · cases h1
  · injection h1 with e1 e2 e3
    injection e1 with e1
    injection e1 with e1
    subst e1 e3
    refine Or.inr ⟨g, cap, cur, rfl, hb, hg, by omega, hm, hs, ?_⟩
    have h2 := congrArg (List.take (n * 4)) ht
    rw [List.take_take, Nat.min_eq_left (by omega)] at h2
    rw [h2]
    conv => lhs; rw [← List.take_append_drop n ts]
    rw [List.flatMap_append, List.take_append_of_le_length (by rw [rtoks_len, hl]; exact Nat.le_refl _), List.take_of_length_le (by rw [rtoks_len, hl]; exact Nat.le_refl _)]

/-- what tokens weigh -/
def tokSum (ts : List Tok) : Nat := (ts.map fun t => 1 + t.text.size).sum
theorem tokSum_snoc (ts : List Tok) (t : Tok) : tokSum (ts ++ [t]) = tokSum ts + (1 + t.text.size) := by
  unfold tokSum; rw [List.map_append, List.sum_append]; simp
theorem tokSum_take (ts : List Tok) (n : Nat) : tokSum (ts.take n) ≤ tokSum ts := by
  conv => rhs; rw [← List.take_append_drop n ts]
  unfold tokSum; rw [List.map_append, List.sum_append]; omega
theorem tokSum_len (ts : List Tok) : ts.length ≤ tokSum ts := by
  induction ts with
  | nil => exact Nat.le_refl _
  | cons t ts ih =>
    have : tokSum (t :: ts) = (1 + t.text.size) + tokSum ts := by simp [tokSum]
    rw [this, List.length_cons]; omega
end Go.Tru
namespace Go.Proofs.Ytmhkgfddlkdmgaa
open Go.RowKit Go.Tru

theorem info_rtok : (Try.prog.info? 54).map (fun i => (i.zero, i.size, i.bytes)) = some (some (.agg #[.int .u8 0, .string ⟨#[]⟩, .bool false, .int .u64 0]), 4, 40) := by kernel_rfl

/-- append to an own row of tokens -/
theorem app_rtoks {ops : Array Oper} {rest : List Oper} {o : Oper} {a : Act} {w : World} {Q : Exit → Act → World → Prop} (hgd : o.guard = none) (s x : Operand)
    (ho : o.op = .call { callee := .builtin .append, args := #[s, x], argTypes := #[47, 47] })
    (base : Nat) (v : Value) (es : List Tok) (hs : a.eval s = v) (hown : OwnsRT w base v es)
    (ad : Addr) (m c : Nat) (ds : List Tok) (hx : a.eval x = .slice (some ad) m c) (hl : ds.length = m) (hnews : ∀ (j : Nat) (u : Value), (ds.flatMap Tok.cells)[j]? = some u → w.cell? (ad.add j) = some u)
    (hlen : es.length + m ≤ 1000000000) (hbase : base ≤ w.heap.size)
    (h : ∀ v' w', OwnsRT w' base v' (es ++ ds) → Keeps (blks v) w w' → wpList Try.prog ops Q rest (a.put o.dst v') w') :
    wpList Try.prog ops Q (o :: rest) a w := by
  obtain ⟨i0, hi, hz0, hz1, hz2⟩ := info_parts info_rtok
  subst hl
  refine wpList_append_own_at w hgd s x 47 ho base 54 i0 (.agg #[.int .u8 0, .string ⟨#[]⟩, .bool false, .int .u64 0]) 4 40 Try.underlying47 hi hz0 hz1 hz2 rfl (by decide) v es.length (es.flatMap Tok.cells) hs hown ad ds.length c (ds.flatMap Tok.cells) hx (rtoks_len ds) hnews (tok_one ds) (by unfold maxLen; omega) (by omega) hbase ?_
  intro v' w' h2 h3 h4 h5
  refine h v' w' ?_ (keeps_grown h3)
  unfold OwnsRT
  rw [List.length_append, List.flatMap_append]
  exact h2

theorem new_rtok (t : Tok) {w : World} {T : TypeId} {g : Nat} (hg : g = w.heap.size) : ∀ (j : Nat) (u : Value), ([t].flatMap Tok.cells)[j]? = some u → (w.alloc (.cells #[.int .u8 t.kind, .string t.text, .bool t.neg, .int .u64 t.mag] T)).cell? ((⟨g, 0, none⟩ : Addr).add j) = some u := by
  exact cells_new ([t].flatMap Tok.cells) hg

/-- the tokens of bytes -/
def RToksPost (s : ByteArray) (w : World) (e : Ending) (w' : World) : Prop :=
  ∃ (v : Value) (ts : List Tok) (x h : Int), e = .returned (.tuple #[v, .int .i64 x, .int .i64 h]) ∧ OwnsRT w' w.heap.size v ts ∧ tokSum ts ≤ s.size ∧ (0 ≤ h ∧ h ≤ 2000) ∧ Keeps [] w w'

def RTokRel (s : ByteArray) (w : World) (v n i : Value) (wr : World) : Prop :=
  ∃ (ts : List Tok) (j : Nat) (nm : Int), i = .int .i64 j ∧ n = .int .i64 nm ∧ OwnsRT wr w.heap.size v ts ∧ tokSum ts ≤ j ∧ j ≤ s.size ∧ (nm = -1 ∨ ts ≠ []) ∧ Keeps [] w wr

theorem rtok_kind (c : Int) : (c = 32 ∨ c = 9 ∨ c = 10 ∨ c = 13) ∨ (c = 123 ∨ c = 125 ∨ c = 91 ∨ c = 93 ∨ c = 58 ∨ c = 44) ∨ c = 34 ∨ (c = 45 ∨ 48 ≤ c ∧ c ≤ 57) ∨ (c = 116 ∨ c = 102 ∨ c = 110) ∨
    (¬ (c = 32 ∨ c = 9 ∨ c = 10 ∨ c = 13) ∧ (c == 123) = false ∧ (c == 125) = false ∧ (c == 91) = false ∧ (c == 93) = false ∧ (c == 58) = false ∧ (c == 44) = false ∧ (c == 34) = false ∧ (c == 45) = false ∧ (c < 48 ∨ 57 < c) ∧ (c == 116) = false ∧ (c == 102) = false ∧ (c == 110) = false) := by
  simp only [beq_eq_false_iff_ne, ne_eq]
  omega

set_option maxHeartbeats 12800000 in
set_option maxRecDepth 100000 in
theorem toks_any (s : ByteArray) (hs : s.size ≤ 1000) (w : World) : Calls Try.prog 13 #[.string s, .bool true] w (RToksPost s w) := by
  go_enter Try.func13, Try.ntmps13
  go_wp2_with fail
  go_loopw [7, 9, 10] (fun v n i wr => RTokRel s w v n i wr) (fun _ _ i _ => s.size - (intOf i).toNat)
  case atStart => exact ⟨[], 0, -1, rfl, rfl, OwnsRT.nil _ _, Nat.zero_le _, Nat.zero_le _, Or.inl rfl, Keeps.refl _ _⟩
  case round =>
    obtain ⟨ts, j, nm, rfl, rfl, hown, hsum, hjs, hnm, hK⟩ := hrel
    obtain ⟨oa, oc, rfl⟩ := hown.shape
    have HLO := Lib.hid (show ∀ i ∈ blks (.slice oa ts.length oc), w.heap.size ≤ i from fun i hi => (World.ownsRow.lt hown i (mem_blks.1 hi)).1)
    have hlen := tokSum_len ts
    have HO := Lib.hid hown
    have HK := Lib.hid hK
    have hz := hK.size
    clear hown hK
    by_cases hlt : j < s.size
    · have hi : (j : Int) < (s.size : Int) := by omega
      obtain ⟨c, hc⟩ : ∃ c : Int, (s[j].toNat : Int) = c := ⟨_, rfl⟩
      have hc0 : 0 ≤ c ∧ c < 256 := by have := s[j].toNat_lt; omega
      rcases rtok_kind c with hcl | hcl | hcl | hcl | hcl | hcl
      · as_aux_lemma =>
        have HD := Lib.hid (show decide (c = 32 ∨ c = 9 ∨ c = 10 ∨ c = 13) = true from decide_eq_true hcl)
        clear hcl
        go_wp2_with fail
        refine (blank_any _ _).mono ?_
        rintro e w1 ⟨rfl, hst⟩
        cases (show _ = _ from hst)
        rw [HD.out]
        go_wp2_with fail
        go_roundw
        case rel => exact ⟨ts, j + 1, nm, by go_num, rfl, HO.out, by omega, by omega, hnm, HK.out⟩
        case measure => simp [intOf]; omega
      · as_aux_lemma =>
        have HD := Lib.hid (show decide (c = 32 ∨ c = 9 ∨ c = 10 ∨ c = 13) = false from decide_eq_false (by omega))
        rcases hcl with rfl | rfl | rfl | rfl | rfl | rfl
        all_goals
          go_wp2_with fail
          refine (blank_any _ _).mono ?_
          rintro e w1 ⟨rfl, hst⟩
          cases (show _ = _ from hst)
          rw [HD.out]
          go_wp2_with (at_builtin; go_must (refine app_rtoks rfl _ _ rfl w.heap.size _ ts rfl (ownsRow_keeps HO.out ((Keeps.refl [] _).alloc _) (by simp)) ⟨_, 0, none⟩ 1 1 [Tok.of _] rfl rfl (new_rtok (Tok.of _) (by simp)) (by omega) (by simp; omega) ?_))
          intro v2 w2 hown2 hk2
          have HO2 := Lib.hid hown2
          have HK2 := Lib.hid ((HK.out.alloc _).trans' hk2 (fun i hi => Or.inr (HLO.out i hi)))
          clear hown2 hk2
          go_wp2_with fail
          go_roundw
          case rel => exact ⟨_, j + 1, nm, by go_num, rfl, HO2.out, by rw [tokSum_snoc]; show tokSum ts + (1 + 0) ≤ _; omega, by omega, Or.inr (by simp), HK2.out⟩
          case measure => simp [intOf]; omega
      · as_aux_lemma =>
        have HD := Lib.hid (show decide (c = 32 ∨ c = 9 ∨ c = 10 ∨ c = 13) = false from decide_eq_false (by omega))
        subst hcl
        have hi1 : 0 ≤ (j : Int) + 1 := by omega
        have hi2 : (j : Int) + 1 ≤ (s.size : Int) := by omega
        go_wp2_with fail
        refine (blank_any _ _).mono ?_
        rintro e w1 ⟨rfl, hst⟩
        cases (show _ = _ from hst)
        rw [HD.out]
        go_wp2_with fail
        refine (inside_any _ (by rw [cut_size]; omega) _).mono ?_
        rintro e w1 ⟨t, n, all, x, rfl, hx, ht, k1⟩
        rw [cut_size] at hx
        have HO1 := Lib.hid (ownsRow_keeps HO.out k1 (by simp))
        have HK1 := Lib.hid (HK.out.trans k1)
        have z1 := k1.size
        clear k1 HO HK
        by_cases hx0 : x = 0
        · subst hx0
          obtain ⟨hx1, hx2⟩ := hx rfl
          obtain ⟨n, rfl⟩ : ∃ n' : Nat, n = n' := ⟨n.toNat, by omega⟩
          cases all with
          | false =>
            go_wp2_with fail
            go_ret3
            exact ⟨_, ts, _, _, rfl, HO1.out, by omega, by omega, HK1.out⟩
          | true =>
            by_cases hend : (s.size : Int) ≤ (j : Int) + 1 + (n : Int)
            · go_wp2_with fail
              go_ret3
              exact ⟨_, ts, _, _, rfl, HO1.out, by omega, by omega, HK1.out⟩
            · go_wp2_with (at_builtin; go_must (refine app_rtoks rfl _ _ rfl w.heap.size _ ts rfl (ownsRow_keeps HO1.out ((Keeps.refl [] _).alloc _) (by simp)) ⟨_, 0, none⟩ 1 1 [⟨115, t, false, 0⟩] rfl rfl (new_rtok (⟨115, t, false, 0⟩) (by simp)) (by omega) (by simp; omega) ?_))
              intro v2 w2 hown2 hk2
              have HO2 := Lib.hid hown2
              have HK2 := Lib.hid ((HK1.out.alloc _).trans' hk2 (fun i hi => Or.inr (HLO.out i hi)))
              clear hown2 hk2
              go_wp2_with fail
              go_roundw
              case rel => exact ⟨_, j + n + 2, nm, by go_num, rfl, HO2.out, by rw [tokSum_snoc]; show tokSum ts + (1 + t.size) ≤ _; omega, by omega, Or.inr (by simp), HK2.out⟩
              case measure => simp [intOf]; omega
        · have hx3 : (x != 0) = true := by simp [hx0]
          clear hx hx0
          go_wp2_with fail
          go_ret3
          exact ⟨_, ts, _, _, rfl, HO1.out, by omega, by omega, HK1.out⟩
      · as_aux_lemma =>
        have HD := Lib.hid (show decide (c = 32 ∨ c = 9 ∨ c = 10 ∨ c = 13) = false from decide_eq_false (by omega))
        have hi0 : 0 ≤ (j : Int) := by omega
        have hi2 : (j : Int) ≤ (s.size : Int) := by omega
        have hdig : c = 45 ∨ (c == 45) = false ∧ (c == 123) = false ∧ (c == 125) = false ∧ (c == 91) = false ∧ (c == 93) = false ∧ (c == 58) = false ∧ (c == 44) = false ∧ (c == 34) = false ∧ 48 ≤ c ∧ c ≤ 57 := by
          simp only [beq_eq_false_iff_ne, ne_eq]; omega
        clear hcl
        rcases hdig with rfl | ⟨d1, d2, d3, d4, d5, d6, d7, d8, d9, d10⟩
        all_goals
          go_wp2_with fail
          refine (blank_any _ _).mono ?_
          rintro e w1 ⟨rfl, hst⟩
          cases (show _ = _ from hst)
          rw [HD.out]
          go_wp2_with fail
          refine (digit_any _ (by rw [cut_size]; omega) (by rw [cut_size]; omega) _).mono ?_
          rintro e w1 ⟨n, x, rfl, hn, hx, hst⟩
          cases (show _ = _ from hst)
          rw [cut_size] at hn
          clear hst
          by_cases hx0 : x = 0
          · subst hx0
            have hn0 := hx rfl
            clear hx
            have hi3 : (j : Int) ≤ (j : Int) + (n : Int) := by omega
            have hi4 : (j : Int) + (n : Int) ≤ (s.size : Int) := by omega
            have hi5 : 0 ≤ (j : Int) + (n : Int) := by omega
            have hcs : (s.extract j (j + n)).size = n := by rw [cut_size]; omega
            obtain ⟨S, hS⟩ : ∃ S, s.extract j (j + n) = S := ⟨_, rfl⟩
            rw [hS] at hcs
            obtain ⟨q, hq⟩ : ∃ q, ((j : Int) + (n : Int) == (s.size : Int)) = q := ⟨_, rfl⟩
            cases q
            all_goals
              go_wp2_with fail
              refine (number_any S (by omega) (by omega) _).mono ?_
              rintro e w1 ⟨neg, mag, f, rfl, hm0, hm1, k1⟩
              obtain ⟨m, rfl⟩ : ∃ m : Nat, mag = m := ⟨mag.toNat, by omega⟩
              have HO1 := Lib.hid (ownsRow_keeps HO.out k1 (by simp))
              have HK1 := Lib.hid (HK.out.trans k1)
              have z1 := k1.size
              clear k1
              by_cases hf : f = 0
              · subst hf
                go_wp2_with (at_builtin; go_must (refine app_rtoks rfl _ _ rfl w.heap.size _ ts rfl (ownsRow_keeps HO1.out (((Keeps.refl [] _).alloc _).alloc _) (by simp)) ⟨_, 0, none⟩ 1 1 [⟨110, ⟨#[]⟩, neg, m⟩] rfl rfl (new_rtok ⟨110, ⟨#[]⟩, neg, m⟩ (by simp)) (by omega) (by simp; omega) ?_))
                intro v2 w2 hown2 hk2
                have HO2 := Lib.hid hown2
                have HK2 := Lib.hid (((HK1.out.alloc _).alloc _).trans' hk2 (fun i hi => Or.inr (HLO.out i hi)))
                clear hown2 hk2
                go_wp2_with fail
                go_roundw
                case rel => exact ⟨_, j + n, ((j + n : Nat) : Int), by go_num, by go_num, HO2.out, by rw [tokSum_snoc]; show tokSum ts + (1 + 0) ≤ _; omega, by omega, Or.inr (by simp), HK2.out⟩
                case measure => simp [intOf]; omega
              · have hf2 : (f != 0) = true := by simp [hf]
                clear hf
                go_wp2_with fail
                go_ret3
                exact ⟨_, ts, _, _, rfl, ownsRow_keeps HO1.out ((Keeps.refl [] _).alloc _) (by simp), by omega, by omega, HK1.out.alloc _⟩
          · have hx3 : (x != 0) = true := by simp [hx0]
            clear hx hx0
            go_wp2_with fail
            go_ret3
            exact ⟨_, ts, _, _, rfl, HO.out, by omega, by omega, HK.out⟩
      · as_aux_lemma =>
        have HD := Lib.hid (show decide (c = 32 ∨ c = 9 ∨ c = 10 ∨ c = 13) = false from decide_eq_false (by omega))
        have hi0 : 0 ≤ (j : Int) := by omega
        have hi2 : (j : Int) ≤ (s.size : Int) := by omega
        rcases hcl with rfl | rfl | rfl
        all_goals
          go_wp2_with fail
          refine (blank_any _ _).mono ?_
          rintro e w1 ⟨rfl, hst⟩
          cases (show _ = _ from hst)
          rw [HD.out]
          go_wp2_with fail
          refine (word_any _ (by rw [cut_size]; omega) (by rw [cut_size]; omega) _).mono ?_
          rintro e w1 ⟨n, k, x, rfl, hn, hk0, hk1, hkn, k1⟩
          rw [cut_size] at hn
          have HO1 := Lib.hid (ownsRow_keeps HO.out k1 (by simp))
          have HK1 := Lib.hid (HK.out.trans k1)
          have z1 := k1.size
          clear k1 HO HK
          by_cases hx0 : x = 0
          · subst hx0
            by_cases hkz : k = 0
            · subst hkz
              go_wp2_with fail
              go_ret3
              exact ⟨_, ts, _, _, rfl, HO1.out, by omega, by omega, HK1.out⟩
            · have hk2 : (k == 0) = false := by simp [hkz]
              have hn0 := hkn hkz rfl
              clear hkn hkz
              go_wp2_with (at_builtin; go_must (refine app_rtoks rfl _ _ rfl w.heap.size _ ts rfl (ownsRow_keeps HO1.out ((Keeps.refl [] _).alloc _) (by simp)) ⟨_, 0, none⟩ 1 1 [Tok.of k] rfl rfl (new_rtok (Tok.of k) (by simp)) (by omega) (by simp; omega) ?_))
              intro v2 w2 hown2 hk2
              have HO2 := Lib.hid hown2
              have HK2 := Lib.hid ((HK1.out.alloc _).trans' hk2 (fun i hi => Or.inr (HLO.out i hi)))
              clear hown2 hk2
              go_wp2_with fail
              go_roundw
              case rel => exact ⟨_, j + n, nm, by go_num, rfl, HO2.out, by rw [tokSum_snoc]; show tokSum ts + (1 + 0) ≤ _; omega, by omega, Or.inr (by simp), HK2.out⟩
              case measure => simp [intOf]; omega
          · have hx3 : (x != 0) = true := by simp [hx0]
            clear hkn hx0
            go_wp2_with fail
            go_ret3
            exact ⟨_, ts, _, _, rfl, HO1.out, by omega, by omega, HK1.out⟩
      · as_aux_lemma =>
        obtain ⟨d0, d1, d2, d3, d4, d5, d6, d7, d8, d9, d10, d11, d12⟩ := hcl
        have HD := Lib.hid (show decide (c = 32 ∨ c = 9 ∨ c = 10 ∨ c = 13) = false from decide_eq_false d0)
        have d13 : ¬ 48 ≤ c ∨ 48 ≤ c ∧ ¬ c ≤ 57 := by omega
        clear d0 d9
        by_cases hq : nm = (j : Int)
        · subst hq
          obtain ⟨g, cap, e, hg1, hg2, hg3, hg4⟩ := OwnsRT.some_ HO.out (by rcases hnm with h | h; omega; exact h)
          have hne : 0 < ts.length := by
            cases ts with
            | nil => rcases hnm with h | h; omega; exact absurd rfl h
            | cons => simp
          cases e
          have hb1 : 0 ≤ (ts.length : Int) - 1 := by omega
          have hb2 : (ts.length : Int) - 1 ≤ (oc : Int) := by omega
          have HP := Lib.hid (OwnsRT.pop HO.out (n := ts.length - 1) (by omega))
          have hlm : oc ≤ 9223372036854775807 := by unfold maxLen at hg4; omega
          rcases d13 with d13 | ⟨d13, d14⟩
          all_goals
            go_wp2_with fail
            refine (blank_any _ _).mono ?_
            rintro e w1 ⟨rfl, hst⟩
            cases (show _ = _ from hst)
            rw [HD.out]
            go_wp2_with fail
            go_ret3
            exact ⟨_, ts.take (ts.length - 1), _, _, rfl, HP.out, Nat.le_trans (tokSum_take _ _) (by omega), by omega, HK.out⟩
        · have hq2 : (nm == (j : Int)) = false := by simp [hq]
          clear hq
          rcases d13 with d13 | ⟨d13, d14⟩
          all_goals
            go_wp2_with fail
            refine (blank_any _ _).mono ?_
            rintro e w1 ⟨rfl, hst⟩
            cases (show _ = _ from hst)
            rw [HD.out]
            go_wp2_with fail
            go_ret3
            exact ⟨_, ts, _, _, rfl, HO.out, by omega, by omega, HK.out⟩
    · have hi : ¬ (j : Int) < (s.size : Int) := by omega
      go_wp2_with fail
      go_ret3
      exact ⟨_, ts, _, _, rfl, HO.out, by omega, by omega, HK.out⟩
end Go.Proofs.Ytmhkgfddlkdmgaa
