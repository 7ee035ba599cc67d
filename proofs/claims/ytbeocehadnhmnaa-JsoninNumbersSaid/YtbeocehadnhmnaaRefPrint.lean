/-
  truchmanref1.Digits and Print: their contracts.
-/
import Derived.Test.YtbeocehadnhmnaaRows
import Derived.Test.YtbeocehadnhmnaaDecModel
import Derived.Lib.Builder
import Derived.Lib.Strings
namespace Go.Tru
open Go.RowKit

theorem dec_top : Lib.decDigits 18446744073709551616 = [49, 56, 52, 52, 54, 55, 52, 52, 48, 55, 51, 55, 48, 57, 53, 53, 49, 54, 49, 54] := by
  have h := canon_dec 20 [49, 56, 52, 52, 54, 55, 52, 52, 48, 55, 51, 55, 48, 57, 53, 53, 49, 54, 49, 54] rfl ⟨by unfold allDig; decide, by simp, by decide⟩
  exact h

theorem dec_size (u : Nat) (hu : u < 18446744073709551616) : (Lib.decDigits u).length ≤ 20 := by
  by_cases h0 : u = 0
  · subst h0; rw [Lib.decDigits_one (by omega)]; simp
  · rw [Lib.decDigits_length]
    have := Lib.numDigits_eq u (by omega) hu
    split at this <;> omega

/-- the digits ahead of those that are there -/
def digsOf (v : Nat) : List UInt8 := if v = 0 then [] else Lib.decDigits v

theorem dec_step (v : Nat) : Lib.decDigits v = digsOf (v / 10) ++ [UInt8.ofNat (48 + v % 10)] := by
  unfold digsOf
  by_cases h : v < 10
  · rw [Lib.decDigits_one h, if_pos (by omega), Nat.mod_eq_of_lt h]; rfl
  · rw [Lib.decDigits, dif_neg h, if_neg (by omega)]

def strLen : Value → Nat
  | .string s => s.size
  | _ => 0

theorem strs_app (a b : ByteArray) : (a ++ b).data.toList = a.data.toList ++ b.data.toList := by simp [ByteArray.data_append]
theorem strs_size (a : ByteArray) : a.size = a.data.toList.length := by rw [Array.length_toList]; rfl
theorem str_of (a : ByteArray) {l : List UInt8} (h : a.data.toList = l) : a = ⟨l.toArray⟩ := by subst h; rfl
end Go.Tru
namespace Go.Proofs.Ytbeocehadnhmnaa
open Go.RowKit Go.Tru

def DigRel (v0 : Nat) (w : World) (v s : Value) (wr : World) : Prop :=
  ∃ (u : Nat) (S : ByteArray), v = .int .u64 u ∧ s = .string S ∧ u ≤ v0 ∧ Keeps [] w wr ∧ (S.data.toList = [] ∧ u = v0 ∨ S.data.toList ≠ [] ∧ Lib.decDigits v0 = digsOf u ++ S.data.toList)

set_option maxHeartbeats 1000000 in
theorem refDigits (v0 : Nat) (hv : v0 < 18446744073709551616) (w : World) :
    Calls Try.prog 30 #[.int .u64 v0] w fun e w' => e = .returned (.string ⟨(Lib.decDigits v0).toArray⟩) ∧ Keeps [] w w' := by
  have hdl := dec_size v0 hv
  have HDL := Lib.hid hdl
  clear hdl
  go_enter Try.func30, Try.ntmps30
  go_wp2_with fail
  go_loopw [0, 3] (fun v s wr => DigRel v0 w v s wr) (fun v s _ => (intOf v).toNat + (1 - strLen s))
  case atStart => exact ⟨v0, ⟨#[]⟩, rfl, rfl, Nat.le_refl _, Keeps.refl _ _, Or.inl ⟨rfl, rfl⟩⟩
  case round =>
    obtain ⟨u, S, rfl, rfl, hu, hk, hs⟩ := hrel
    have HK := Lib.hid hk
    have hemp : S.toList.isEmpty = decide (S.data.toList = []) := by rw [Lib.toList_data]; cases S.data.toList <;> rfl
    clear hk
    by_cases hgo : u = 0 ∧ S.data.toList ≠ []
    · obtain ⟨h0, h1⟩ := hgo
      subst h0
      have h2 : S.data.toList = Lib.decDigits v0 := by
        rcases hs with ⟨a, _⟩ | ⟨_, b⟩
        · exact absurd a h1
        · rw [b]; simp [digsOf]
      have hem : S.toList.isEmpty = false := by rw [hemp]; simp [h1]
      have HS := Lib.hid (str_of S h2)
      clear hs h1 h2 hemp
      go_wp2_with fail
      go_ret
      exact ⟨by rw [HS.out]; rfl, HK.out⟩
    · have hstep : S.data.toList = [] ∧ u = v0 ∨ 0 < u ∧ Lib.decDigits v0 = digsOf u ++ S.data.toList := by
        rcases hs with a | ⟨a, b⟩
        · exact Or.inl a
        · right
          refine ⟨?_, b⟩
          rcases Nat.eq_zero_or_pos u with h | h
          · exact absurd ⟨h, a⟩ hgo
          · exact h
      have hnew : Lib.decDigits v0 = digsOf (u / 10) ++ ([UInt8.ofNat (48 + u % 10)] ++ S.data.toList) := by
        rcases hstep with ⟨a, b⟩ | ⟨a, b⟩
        · rw [a, ← b, List.append_nil]; exact dec_step u
        · rw [b]
          have : digsOf u = Lib.decDigits u := by unfold digsOf; rw [if_neg (by omega)]
          rw [this, dec_step u, List.append_assoc]
      have hlen : S.size ≤ 20 := by
        have := congrArg List.length hnew
        simp only [List.length_append, List.length_singleton] at this
        rw [strs_size]
        have := HDL.out
        omega
      obtain ⟨d, hd⟩ : ∃ d, 48 + u % 10 = d := ⟨_, rfl⟩
      obtain ⟨q, hq⟩ : ∃ q, u / 10 = q := ⟨_, rfl⟩
      have hcv := run_bytes_lit (P := Try.prog) 42 9 5 Try.underlying42 Try.underlying5 Try.underlying9 [(d : Int)] wr wr.heap.size rfl
      obtain ⟨D, hD⟩ : ∃ D, strOfNums [(d : Int)] = D := ⟨_, rfl⟩
      have hDd : D.data.toList = [UInt8.ofNat d] := by rw [← hD]; rfl
      have hDs : D.size = 1 := by rw [← hD]; rfl
      rw [hD] at hcv
      simp only [List.length_singleton, List.map_cons, List.map_nil] at hcv
      have hsum : ¬ 281474976710656 < D.size + S.size := by omega
      have h48 : (48 : Int) + (u : Int) % 10 = (d : Int) := by omega
      have hdiv : (u : Int) / 10 = (q : Int) := by omega
      have hd9 : d ≤ 57 := by omega
      have hqu : q ≤ u := by omega
      rw [hd, hq] at hnew
      have HNEW := Lib.hid hnew
      have HDD := Lib.hid hDd
      have hgo' : 0 < u ∨ u = 0 ∧ S.toList.isEmpty = true := by
        rcases hstep with ⟨a, b⟩ | ⟨a, _⟩
        · rcases Nat.eq_zero_or_pos u with h | h
          · exact Or.inr ⟨h, by rw [hemp, a]; rfl⟩
          · exact Or.inl h
        · exact Or.inl a
      have HSZ := Lib.hid (strs_size S)
      have hmeas : q < u + (1 - S.size) := by
        rcases hstep with ⟨a, b⟩ | ⟨a, _⟩
        · have : S.size = 0 := by rw [strs_size, a]; rfl
          omega
        · omega
      have HME := Lib.hid hmeas
      clear hs hstep hnew hD hDd hgo hemp hmeas hd hq
      have hDS : (D ++ S).size ≠ 0 := by rw [strs_size, strs_app, HDD.out]; simp
      rcases hgo' with hg | ⟨hg, hg2⟩
      · have hg' : (0 : Int) < (u : Int) := by omega
        have HDS := Lib.hid hDS
        clear hDS
        go_wp2_with fail
        go_roundw
        case rel => exact ⟨q, D ++ S, rfl, rfl, by omega, HK.out.alloc _, Or.inr ⟨by rw [strs_app, HDD.out]; simp, by rw [strs_app, HDD.out]; exact HNEW.out⟩⟩
        case measure =>
          have h1 := HME.out
          have h2 := HDS.out
          simp only [strLen, intOf]
          omega
      · obtain rfl : u = 0 := hg
        obtain rfl : d = 48 := by omega
        obtain rfl : q = 0 := by omega
        have hcv : (convert 42 9 (.slice (some ⟨wr.heap.size, 0, none⟩) 1 1)).run Try.prog (wr.alloc (.cells #[.int .u8 48] 5)) = .ok (.string D) (wr.alloc (.cells #[.int .u8 48] 5)) := hcv
        have HDS := Lib.hid hDS
        clear hDS h48 hdiv hqu
        go_wp2_with fail
        go_roundw
        case rel => exact ⟨0, D ++ S, rfl, rfl, by omega, HK.out.alloc _, Or.inr ⟨by rw [strs_app, HDD.out]; simp, by rw [strs_app, HDD.out]; exact HNEW.out⟩⟩
        case measure =>
          have h1 := HME.out
          have h2 := HDS.out
          simp only [strLen, intOf]
          omega

set_option maxHeartbeats 1000000 in
set_option maxRecDepth 100000 in
theorem refPrint (neg : Bool) (m : Nat) (hm : m < 18446744073709551616) (w : World) :
    Calls Try.prog 17 #[.agg #[.bool neg, .int .u64 m]] w fun e w' => e = .returned (.string ⟨(printW neg m).toArray⟩) ∧ Keeps [] w w' := by
  cases neg with
  | false =>
    have hcall := fun W => refDigits m hm W
    go_enter Try.func17, Try.ntmps17
    go_wp2_with fail
    refine (hcall _).mono ?_
    rintro e w1 ⟨rfl, k1⟩
    have K1 := Lib.hid (((Keeps.refl [] w).alloc _).trans k1)
    clear k1
    go_wp2_with fail
    go_ret
    exact ⟨rfl, K1.out⟩
  | true =>
    by_cases ht : m = 18446744073709551615
    · subst ht
      go_enter Try.func17, Try.ntmps17
      go_wp2_with fail
      go_ret
      refine ⟨?_, (Keeps.refl _ _).alloc _⟩
      simp only [printW, if_true]
      rw [dec_top]
      rfl
    · have hne : ((m : Int) == 18446744073709551615) = false := by rw [beq_eq_false_iff_ne]; omega
      have hwr : IntKind.u64.wrap ((m : Int) + 1) = ((m + 1 : Nat) : Int) := by rw [IntKind.wrap_u64]; omega
      obtain ⟨m1, hm1⟩ : ∃ m1, m + 1 = m1 := ⟨_, rfl⟩
      rw [hm1] at hwr
      have hcall := fun W => refDigits m1 (by omega) W
      have hl := dec_size m1 (by omega)
      obtain ⟨S, hS⟩ : ∃ S : ByteArray, ⟨(Lib.decDigits m1).toArray⟩ = S := ⟨_, rfl⟩
      have hSd : S.data.toList = Lib.decDigits m1 := by rw [← hS]
      have hsz : S.size = (Lib.decDigits m1).length := by rw [← hS]; rfl
      have hsum : ¬ 281474976710656 < (⟨#[45]⟩ : ByteArray).size + S.size := by rw [hsz]; show ¬ 281474976710656 < 1 + _; omega
      have he : (⟨#[45]⟩ : ByteArray) ++ S = ⟨(printW true m).toArray⟩ := by
        apply str_of
        rw [strs_app, hSd]
        simp [printW, hm1]
      rw [hS] at hcall
      have HE := Lib.hid he
      clear hl ht hm hS hSd hsz he hm1
      go_enter Try.func17, Try.ntmps17
      go_wp2_with fail
      refine (hcall _).mono ?_
      rintro e w1 ⟨rfl, k1⟩
      have K1 := Lib.hid (((Keeps.refl [] w).alloc _).trans k1)
      clear k1
      go_wp2_with fail
      go_ret
      exact ⟨by rw [← HE.out]; rfl, K1.out⟩

end Go.Proofs.Ytbeocehadnhmnaa
