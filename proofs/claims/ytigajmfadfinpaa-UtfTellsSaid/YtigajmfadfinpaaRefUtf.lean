/-
  truchmanref1.lead, Utf, Valid: their contracts.
-/
import Derived.Test.YtigajmfadfinpaaRows
import Derived.Test.YtigajmfadfinpaaChk
import Derived.OwnWalk
namespace Go.Tru

/-- how many bytes, from the front, may be; what a Check holds behind them -/
def goodRun : Chk → List UInt8 → Nat × Chk
  | c, [] => (0, c)
  | c, b :: l => if (c.step b.toNat).bad then (0, c) else ((goodRun (c.step b.toNat) l).1 + 1, (goodRun (c.step b.toNat) l).2)

/-- a byte behind a rune's first ones -/
theorem Chk.step_in' {c : Chk} (h : c.bad = false) (hl : c.lack ≠ 0) {b : Int} (h1 : c.low ≤ b) (h2 : b ≤ c.high) : c.step b = ⟨c.lack - 1, 128, 191, false⟩ := by
  unfold Chk.step
  simp only [h, Bool.false_eq_true, if_false, hl]
  rw [if_neg (by omega)]

theorem goodRun_at {c : Chk} {l : List UInt8} : ∀ (k : Nat), k ≤ l.length → (c.run (l.take k)).bad = false → (k = l.length ∨ ∃ h : k < l.length, ((c.run (l.take k)).step l[k].toNat).bad = true) → goodRun c l = (k, c.run (l.take k)) := by
  intro k
  induction k generalizing c l with
  | zero =>
    intro _ _ h
    rcases h with h | ⟨h, h2⟩
    · have : l = [] := List.length_eq_zero_iff.1 h.symm
      subst this
      rfl
    · cases l with
      | nil => simp at h
      | cons b l =>
        simp only [List.getElem_cons_zero, List.take_zero, Chk.run_nil] at h2
        unfold goodRun
        rw [if_pos h2]
        rfl
  | succ k ih =>
    intro hk hb h
    cases l with
    | nil => simp at hk
    | cons b l =>
      simp only [List.take_succ_cons, Chk.run_cons] at hb ⊢
      have hnb : (c.step b.toNat).bad = false := by
        cases hx : (c.step b.toNat).bad with
        | false => rfl
        | true => rw [Chk.run_bad hx, hx] at hb; cases hb
      unfold goodRun
      rw [hnb, if_neg (by simp)]
      have := ih (c := c.step b.toNat) (l := l) (by simpa using hk) hb (by
        rcases h with h | ⟨h, h2⟩
        · left; simpa using h
        · right
          refine ⟨by simpa using h, ?_⟩
          simpa [List.take_succ_cons, Chk.run_cons] using h2)
      rw [this]

theorem goodRun_utf8 : ∀ (l : List UInt8) (c : Chk), c.bad = false → ((goodRun c l).1 = l.length ∧ (goodRun c l).2.lack = 0 ↔ (c.run l).whole = true)
  | [], c, h => by
    simp only [goodRun, Chk.run_nil, Chk.whole, h, Bool.not_false, Bool.true_and, List.length_nil, true_and]
    exact ⟨fun h => decide_eq_true h, fun h => of_decide_eq_true h⟩
  | b :: l, c, h => by
    unfold goodRun
    rw [Chk.run_cons]
    cases hb : (c.step b.toNat).bad with
    | true =>
      rw [if_pos rfl, Chk.run_bad hb]
      simp [Chk.whole, hb]
    | false =>
      rw [if_neg (by simp)]
      have := goodRun_utf8 l (c.step b.toNat) hb
      simp only [List.length_cons]
      rw [← this]
      constructor
      · rintro ⟨h1, h2⟩; exact ⟨by omega, h2⟩
      · rintro ⟨h1, h2⟩; exact ⟨by omega, h2⟩
end Go.Tru
namespace Go.Proofs.Ytigajmfadfinpaa
open Go.RowKit Go.Tru

/-- what lead tells -/
def LeadPost (b n : Int) (w : World) (e : Ending) (w' : World) : Prop :=
  ∃ l h, e = .returned (.tuple #[.int .i64 n, .int .u8 l, .int .u8 h]) ∧ (128 ≤ b → leadOk b = true → l = leadLow b ∧ h = leadHigh b) ∧ w = w'

set_option maxRecDepth 100000 in
theorem lead_any (b : Int) (hb0 : 0 ≤ b) (_hb1 : b ≤ 255) (w : World) :
    Calls Try.prog 17 #[.int .u8 b] w (LeadPost b (if leadOk b then leadLack 0 b + 1 else 0) w) := by
  rcases (show b < 128 ∨ 128 ≤ b ∧ b < 194 ∨ 194 ≤ b ∧ b ≤ 223 ∨ b = 224 ∨ b = 237 ∨ (225 ≤ b ∧ b < 237 ∨ 237 < b ∧ b ≤ 239) ∨ b = 240 ∨ 241 ≤ b ∧ b ≤ 243 ∨ b = 244 ∨ 244 < b by omega) with h | ⟨h, h'⟩ | ⟨h, h'⟩ | rfl | rfl | h | rfl | ⟨h, h'⟩ | rfl | h
  · rw [show (if leadOk b = true then leadLack 0 b + 1 else 0) = 1 by simp [leadOk, leadLack, h]]
    go_enter Try.func17, Try.ntmps17
    go_wp2
    go_ret3
    exact ⟨_, _, rfl, fun _ _ => by omega, rfl⟩
  · have hlo : leadOk b = false := by simp [leadOk]; omega
    rw [hlo]
    have HLO := Lib.hid hlo
    clear hlo
    have h1 : ¬ b < 128 := by omega
    have h2 : ¬ 194 ≤ b := by omega
    have h3 : (b == 224) = false := by simp; omega
    have h4 : (b == 237) = false := by simp; omega
    have h5 : ¬ 225 ≤ b := by omega
    have h6 : (b == 240) = false := by simp; omega
    have h7 : ¬ 241 ≤ b := by omega
    have h8 : (b == 244) = false := by simp; omega
    go_enter Try.func17, Try.ntmps17
    go_wp2
    go_ret3
    exact ⟨_, _, rfl, fun _ h => absurd h (by rw [HLO.out]; decide), rfl⟩
  · have hlo : leadOk b = true := by simp [leadOk]; omega
    have hll : leadLack 0 b = 1 := by unfold leadLack; repeat' (first | omega | split)
    have e1 : leadLow b = 128 := by unfold leadLow; repeat' (first | omega | split)
    have e2 : leadHigh b = 191 := by unfold leadHigh; repeat' (first | omega | split)
    rw [hlo, hll]
    have h1 : ¬ b < 128 := by omega
    have E1 := Lib.hid e1
    have E2 := Lib.hid e2
    clear hlo hll e1 e2
    go_enter Try.func17, Try.ntmps17
    go_wp2
    go_ret3
    exact ⟨_, _, rfl, fun _ _ => ⟨E1.out.symm, E2.out.symm⟩, rfl⟩
  · go_enter Try.func17, Try.ntmps17
    go_wp2
    go_ret3
    exact ⟨_, _, rfl, fun _ _ => ⟨rfl, rfl⟩, rfl⟩
  · go_enter Try.func17, Try.ntmps17
    go_wp2
    go_ret3
    exact ⟨_, _, rfl, fun _ _ => ⟨rfl, rfl⟩, rfl⟩
  · have hlo : leadOk b = true := by simp [leadOk]; omega
    have hll : leadLack 0 b = 2 := by unfold leadLack; repeat' (first | omega | split)
    have e1 : leadLow b = 128 := by unfold leadLow; repeat' (first | omega | split)
    have e2 : leadHigh b = 191 := by unfold leadHigh; repeat' (first | omega | split)
    rw [hlo, hll]
    have h1 : ¬ b < 128 := by omega
    have h2 : ¬ b ≤ 223 := by omega
    have h2' : 194 ≤ b := by omega
    have h3 : (b == 224) = false := by simp; omega
    have h4 : (b == 237) = false := by simp; omega
    have h5 : 225 ≤ b := by omega
    have h6 : b ≤ 239 := by omega
    have E1 := Lib.hid e1
    have E2 := Lib.hid e2
    clear hlo hll e1 e2 h
    go_enter Try.func17, Try.ntmps17
    go_wp2
    go_ret3
    exact ⟨_, _, rfl, fun _ _ => ⟨E1.out.symm, E2.out.symm⟩, rfl⟩
  · go_enter Try.func17, Try.ntmps17
    go_wp2
    go_ret3
    exact ⟨_, _, rfl, fun _ _ => ⟨rfl, rfl⟩, rfl⟩
  · have hlo : leadOk b = true := by simp [leadOk]; omega
    have hll : leadLack 0 b = 3 := by unfold leadLack; repeat' (first | omega | split)
    have e1 : leadLow b = 128 := by unfold leadLow; repeat' (first | omega | split)
    have e2 : leadHigh b = 191 := by unfold leadHigh; repeat' (first | omega | split)
    rw [hlo, hll]
    have h1 : ¬ b < 128 := by omega
    have h2 : ¬ b ≤ 223 := by omega
    have h2' : 194 ≤ b := by omega
    have h3 : (b == 224) = false := by simp; omega
    have h4 : (b == 237) = false := by simp; omega
    have h5 : 225 ≤ b := by omega
    have h6 : ¬ b ≤ 239 := by omega
    have h7 : (b == 240) = false := by simp; omega
    have E1 := Lib.hid e1
    have E2 := Lib.hid e2
    clear hlo hll e1 e2
    go_enter Try.func17, Try.ntmps17
    go_wp2
    go_ret3
    exact ⟨_, _, rfl, fun _ _ => ⟨E1.out.symm, E2.out.symm⟩, rfl⟩
  · go_enter Try.func17, Try.ntmps17
    go_wp2
    go_ret3
    exact ⟨_, _, rfl, fun _ _ => ⟨rfl, rfl⟩, rfl⟩
  · have hlo : leadOk b = false := by simp [leadOk]; omega
    rw [hlo]
    have HLO := Lib.hid hlo
    clear hlo
    have h1 : ¬ b < 128 := by omega
    have h2 : ¬ b ≤ 223 := by omega
    have h2' : 194 ≤ b := by omega
    have h3 : (b == 224) = false := by simp; omega
    have h4 : (b == 237) = false := by simp; omega
    have h5 : 225 ≤ b := by omega
    have h6 : ¬ b ≤ 239 := by omega
    have h7 : (b == 240) = false := by simp; omega
    have h8 : 241 ≤ b := by omega
    have h9 : ¬ b ≤ 243 := by omega
    have h10 : (b == 244) = false := by simp; omega
    go_enter Try.func17, Try.ntmps17
    go_wp2
    go_ret3
    exact ⟨_, _, rfl, fun _ h => absurd h (by rw [HLO.out]; decide), rfl⟩

/-- between two runes -/
def UtfOut (s : ByteArray) (i : Value) (w0 w : World) : Prop :=
  ∃ k : Nat, k ≤ s.size ∧ i = .int .i64 k ∧ (Chk.zero.run (s.data.toList.take k)).bad = false ∧ (Chk.zero.run (s.data.toList.take k)).lack = 0 ∧ w = w0

/-- k bytes of a rune of n have come -/
def UtfIn (s : ByteArray) (at_ : Nat) (n l h : Int) (i : Value) (w0 w : World) : Prop :=
  ∃ k : Nat, 1 ≤ k ∧ (k : Int) ≤ n ∧ i = .int .i64 k ∧ at_ + k ≤ s.size ∧ (Chk.zero.run (s.data.toList.take (at_ + k))).bad = false ∧ (Chk.zero.run (s.data.toList.take (at_ + k))).lack = n - k ∧
    (1 < n → (Chk.zero.run (s.data.toList.take (at_ + k))).low = (if k = 1 then l else 128) ∧ (Chk.zero.run (s.data.toList.take (at_ + k))).high = (if k = 1 then h else 191)) ∧ w = w0

theorem take_one {l : List UInt8} {k : Nat} (h : k < l.length) : Chk.zero.run (l.take (k + 1)) = (Chk.zero.run (l.take k)).step l[k].toNat := by
  rw [List.take_succ_eq_append_getElem h, Chk.run_append]
  rfl

set_option maxHeartbeats 3200000 in
set_option maxRecDepth 100000 in
theorem refUtf_any (s : ByteArray) (w : World) (hs : s.size ≤ 1000000) :
    Calls Try.prog 5 #[.string s] w fun e w' => e = .returned (.tuple #[.int .i64 (goodRun Chk.zero s.data.toList).1, .int .i64 (goodRun Chk.zero s.data.toList).2.lack]) ∧ w = w' := by
  have hll : s.data.toList.length = s.size := by rw [Array.length_toList]; rfl
  obtain ⟨res, hres⟩ : ∃ r, goodRun Chk.zero s.data.toList = r := ⟨_, rfl⟩
  rw [hres]
  have HRES := Lib.hid hres
  have HLL := Lib.hid hll
  clear hres hll
  go_enter Try.func5, Try.ntmps5
  go_wp2_with fail
  go_loopw [4] (fun i wr => UtfOut s i w wr) (fun i _ => s.size - (intOf i).toNat)
  case atStart => exact ⟨0, Nat.zero_le _, rfl, rfl, rfl, rfl⟩
  case round =>
    obtain ⟨at_, hk, rfl, hb, hl, rfl⟩ := hrel
    by_cases hlt : at_ < s.size
    · have hx : at_ < s.data.toList.length := by rw [HLL.out]; exact hlt
      obtain ⟨x, hxx⟩ : ∃ x : Int, (s[at_].toNat : Int) = x := ⟨_, rfl⟩
      have hx0 : 0 ≤ x := by omega
      have hx1 : x ≤ 255 := by have := s[at_].toNat_lt; omega
      have hxl : (s.data.toList[at_].toNat : Int) = x := by rw [← hxx]; rfl
      have hst : Chk.zero.run (s.data.toList.take (at_ + 1)) = (Chk.zero.run (s.data.toList.take at_)).step x := by rw [take_one hx, hxl]
      have hcl : (Chk.zero.run (s.data.toList.take at_)).step x = { (Chk.zero.run (s.data.toList.take at_)).begin x with bad := !leadOk x } := by
        unfold Chk.step; rw [hb, hl]; simp
      rw [hcl] at hst
      cases hok : leadOk x with
      | false =>
        have hgood := goodRun_at (c := Chk.zero) (l := s.data.toList) at_ (by omega) hb (Or.inr ⟨hx, by rw [hxl, hcl, hok]; rfl⟩)
        have HG := Lib.hid hgood
        have HL := Lib.hid hl
        have HLD := Lib.hid (lead_any x hx0 hx1 wr)
        rw [hok] at HLD
        clear hst hcl hgood hb hl hxl hok
        go_wp2_with fail
        refine HLD.out.mono ?_
        rintro e w1 ⟨l, h, rfl, _, rfl⟩
        go_wp2_with fail
        go_ret2
        rw [← HRES.out, HG.out]
        refine ⟨?_, rfl⟩
        rw [HL.out]
        rfl
      | true =>
        obtain ⟨n, hn⟩ : ∃ n : Int, leadLack 0 x + 1 = n := ⟨_, rfl⟩
        have hn1 : 1 ≤ n ∧ n ≤ 4 := by rw [← hn]; unfold leadLack; repeat' (first | omega | split)
        have hn128 : n = 1 ↔ x < 128 := by
          simp only [leadOk, decide_eq_true_eq] at hok
          rw [← hn]; unfold leadLack; repeat' (first | omega | split)
        have hlack1 : (Chk.zero.run (s.data.toList.take (at_ + 1))).lack = n - 1 := by
          rw [hst]; simp only [Chk.begin, hl]; omega
        have hbad1 : (Chk.zero.run (s.data.toList.take (at_ + 1))).bad = false := by rw [hst, hok]; rfl
        have hlow1 : (Chk.zero.run (s.data.toList.take (at_ + 1))).low = leadLow x ∧ (Chk.zero.run (s.data.toList.take (at_ + 1))).high = leadHigh x := by rw [hst]; exact ⟨rfl, rfl⟩
        have HLD := Lib.hid (lead_any x hx0 hx1 wr)
        rw [hok] at HLD
        simp only [if_true, hn] at HLD
        have hne : (n == 0) = false := by simp; omega
        have HL1 := Lib.hid hlack1
        have HB1 := Lib.hid hbad1
        have HW1 := Lib.hid hlow1
        have HOK := Lib.hid hok
        have HN1 := Lib.hid hn1
        have HN128 := Lib.hid hn128
        clear hst hcl hb hl hlack1 hbad1 hlow1 hn hok hxl hn1 hn128
        go_wp2_with fail
        refine HLD.out.mono ?_
        rintro e w1 ⟨l, h, rfl, hlh, rfl⟩
        have HLH := Lib.hid hlh
        clear hlh
        obtain ⟨wo, hwo⟩ : ∃ wo : World, wo = wr := ⟨_, rfl⟩
        go_wp2_with fail
        go_loopw [8] (fun i wq => UtfIn s at_ n l h i wo wq) (fun i _ => 8 - (intOf i).toNat)
        case atStart => exact ⟨1, Nat.le_refl _, HN1.out.1, rfl, by omega, HB1.out, HL1.out, fun h1 => by
          obtain ⟨e1, e2⟩ := HLH.out (by have := HN128.out; omega) HOK.out
          rw [if_pos rfl, if_pos rfl, e1, e2]; exact HW1.out, hwo.symm⟩
        case round =>
          obtain ⟨k, hk1, hk2, rfl, hk3, hb, hl, hlh, hwq⟩ := hrel
          have hn4 := HN1.out.2
          have HWQ := Lib.hid hwq
          clear hwq
          by_cases hkn : (k : Int) < n
          · by_cases hend : at_ + k = s.size
            · have hgood := goodRun_at (c := Chk.zero) (l := s.data.toList) (at_ + k) (by rw [HLL.out]; omega) hb (Or.inl (by rw [HLL.out]; exact hend))
              have hge : (s.size : Int) ≤ (at_ : Int) + (k : Int) := by omega
              have HE := Lib.hid hend
              have HG := Lib.hid hgood
              have HL := Lib.hid hl
              clear hgood hb hl hlh hend
              go_wp2_with fail
              go_ret2
              rw [← HRES.out, HG.out]
              refine ⟨?_, hwo ▸ HWQ.out.symm⟩
              rw [HL.out, ← HE.out]
              rfl
            · have hx2 : at_ + k < s.data.toList.length := by rw [HLL.out]; omega
              have hx3 : at_ + k < s.size := by omega
              obtain ⟨y, hyy⟩ : ∃ y : Int, (s[at_ + k].toNat : Int) = y := ⟨_, rfl⟩
              obtain ⟨hlo, hhi⟩ := hlh (by omega)
              have hyl : (s.data.toList[at_ + k].toNat : Int) = y := by rw [← hyy]; rfl
              have hst2 : Chk.zero.run (s.data.toList.take (at_ + k + 1)) = (Chk.zero.run (s.data.toList.take (at_ + k))).step y := by rw [take_one hx2, hyl]
              have hge : ¬ (s.size : Int) ≤ (at_ : Int) + (k : Int) := by omega
              have hidx : ((at_ : Int) + (k : Int)).toNat = at_ + k := by omega
              have hnl : (Chk.zero.run (s.data.toList.take (at_ + k))).lack ≠ 0 := by omega
              by_cases hbad : y < (if k = 1 then l else 128) ∨ (if k = 1 then h else 191) < y
              · have hgood := goodRun_at (c := Chk.zero) (l := s.data.toList) (at_ + k) (by omega) hb (Or.inr ⟨hx2, by
                  rw [hyl]
                  unfold Chk.step
                  rw [hb, if_neg (by simp), if_neg hnl, hlo, hhi, if_pos hbad]⟩)
                have HG := Lib.hid hgood
                have HL := Lib.hid hl
                clear hgood hb hl hlh hend hlo hhi hyl hst2 hnl
                by_cases hk : k = 1
                · subst hk
                  simp only [if_true] at hbad
                  have hge1 : ¬ (s.size : Int) ≤ (at_ : Int) + 1 := by omega
                  have hkn1 : (1 : Int) < n := by omega
                  clear hge hkn
                  rcases hbad with hbad | hbad
                  all_goals go_wp2_with fail
                  all_goals
                    go_ret2
                    rw [← HRES.out, HG.out]
                    refine ⟨?_, hwo ▸ HWQ.out.symm⟩
                    rw [HL.out]
                    rfl
                · simp only [if_neg hk] at hbad
                  have hk2 : (k : Int) ≠ 1 := by omega
                  have hk3 : ((k : Int) == 1) = false := by simp; omega
                  have hk4 : 1 < (k : Int) := by omega
                  rcases hbad with hbad | hbad
                  all_goals
                    go_wp2_with fail
                    go_ret2
                    rw [← HRES.out, HG.out]
                    refine ⟨?_, hwo ▸ HWQ.out.symm⟩
                    rw [HL.out]
                    rfl
              · have hin := Chk.step_in' hb hnl (b := y) (by rw [hlo]; omega) (by rw [hhi]; omega)
                rw [hin, hl] at hst2
                have HST := Lib.hid hst2
                clear hb hl hlh hend hlo hhi hyl hst2 hnl hin
                by_cases hk : k = 1
                · subst hk
                  simp only [if_true] at hbad
                  have hb1 : ¬ y < l := by omega
                  have hb2 : ¬ h < y := by omega
                  clear hbad
                  go_wp2_with fail
                  go_roundw
                  case rel => exact ⟨1 + 1, by omega, by omega, by go_num, by omega, by rw [← Nat.add_assoc, HST.out], by rw [← Nat.add_assoc, HST.out]; simp only []; omega, fun _ => by rw [← Nat.add_assoc, HST.out]; exact ⟨rfl, rfl⟩, HWQ.out⟩
                  case measure => simp [intOf]
                · simp only [if_neg hk] at hbad
                  have hk3 : ((k : Int) == 1) = false := by simp; omega
                  have hk4 : 1 < (k : Int) := by omega
                  have hb1 : ¬ y < 128 := by omega
                  have hb2 : ¬ 191 < y := by omega
                  clear hbad
                  go_wp2_with fail
                  go_roundw
                  case rel => exact ⟨k + 1, by omega, by omega, by go_num, by omega, by rw [← Nat.add_assoc, HST.out], by rw [← Nat.add_assoc, HST.out]; simp only []; omega, fun _ => by rw [← Nat.add_assoc, HST.out, if_neg (by omega), if_neg (by omega)]; exact ⟨rfl, rfl⟩, HWQ.out⟩
                  case measure => simp [intOf]; omega
          · have hkn2 : (k : Int) = n := by omega
            have HB := Lib.hid hb
            have HL := Lib.hid hl
            clear hb hl hlh
            go_wp2_with fail
            go_roundw
            case rel => exact ⟨at_ + k, by omega, by rw [Int.natCast_add, hkn2], HB.out, by rw [HL.out]; omega, hwo ▸ HWQ.out⟩
            case measure => simp [intOf]; omega
    · obtain rfl : at_ = s.size := by omega
      have hgood := goodRun_at (c := Chk.zero) (l := s.data.toList) s.size (by rw [HLL.out]; exact Nat.le_refl _) hb (Or.inl HLL.out.symm)
      have HG := Lib.hid hgood
      have HL := Lib.hid hl
      clear hgood hb hl
      go_wp2_with fail
      go_ret2
      rw [← HRES.out, HG.out]
      refine ⟨?_, rfl⟩
      rw [HL.out]
      rfl

/-- Valid -/
theorem refValid_any (s : ByteArray) (w : World) (hs : s.size ≤ 1000000) :
    Calls Try.prog 12 #[.string s] w fun e w' => e = .returned (.bool (utf8 s.data.toList)) ∧ w = w' := by
  have hll : s.data.toList.length = s.size := by rw [Array.length_toList]; rfl
  have hu := goodRun_utf8 s.data.toList Chk.zero rfl
  rw [hll] at hu
  have HU := Lib.hid hu
  have HF := Lib.hid (refUtf_any s w hs)
  clear hu hll
  generalize (goodRun Chk.zero s.data.toList) = res at *
  obtain ⟨n, c⟩ := res
  go_enter Try.func12, Try.ntmps12
  go_wp2_with fail
  refine HF.out.mono ?_
  rintro e w1 ⟨rfl, rfl⟩
  go_wp2_with fail
  all_goals
    go_ret
    refine ⟨ret_bool ?_, rfl⟩
    have hx := HU.out
    unfold utf8
    cases hy : (Chk.zero.run s.data.toList).whole <;> rw [hy] at hx <;> simp at hx ⊢
    all_goals
      first | omega | (intro h; have := hx; omega) | exact hx
end Go.Proofs.Ytigajmfadfinpaa
