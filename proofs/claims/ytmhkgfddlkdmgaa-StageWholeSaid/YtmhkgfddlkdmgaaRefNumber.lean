/-
  truchmanref1.Number: it ends.
-/
import Derived.Test.YtmhkgfddlkdmgaaRefNum
import Derived.Laws.ResultCell
import Derived.Deep.CutRange
namespace Go.Proofs.Ytmhkgfddlkdmgaa
open Go.RowKit Go.Tru

/-- the number of a text -/
def NumPost (w : World) (e : Ending) (w' : World) : Prop :=
  ∃ (neg : Bool) (mag x : Int), e = .returned (.tuple #[.agg #[.bool neg, .int .u64 mag], .int .i64 x]) ∧ 0 ≤ mag ∧ mag ≤ 18446744073709551615 ∧ Keeps [] w w'

def NumRel (n : Nat) (w : World) (v o i : Value) (wr : World) : Prop :=
  ∃ (j : Nat) (x : Int) (ov : Bool), i = .int .i64 j ∧ v = .int .u64 x ∧ o = .bool ov ∧ j ≤ n ∧ 0 ≤ x ∧ x ≤ 18446744073709551615 ∧ Has wr w.heap.size [.bool false, .int .u64 0] 52 ∧ Keeps [] w wr

theorem u64_wrap (x : Int) : 0 ≤ IntKind.u64.wrap x ∧ IntKind.u64.wrap x ≤ 18446744073709551615 := by
  have h : IntKind.u64.wrap x = x % 18446744073709551616 := rfl
  rw [h]
  omega

theorem num_ret {w' : World} {tmps : Array Value} {b : Nat} {neg : Bool} {mag : Int} {x : Value} (h : Has w' b [.bool neg, .int .u64 mag] 52) (hp : tmps.getD 2 undef = .pointer (some ⟨b, 0, none⟩)) (hx : tmps.getD 3 undef = x) :
    (results Try.f21 tmps).run Try.prog w' = .ok (.tuple #[.agg #[.bool neg, .int .u64 mag], x]) w' := by
  rw [results_cell_tmp rfl, hp, hx]
  have c0 := h.cell 0
  have c1 := h.cell 1
  simp only [List.getElem?_cons_zero, List.getElem?_cons_succ] at c0 c1
  go_simp

set_option maxHeartbeats 6400000 in
set_option maxRecDepth 100000 in
theorem number_n (s S : ByteArray) (h0 : 1 < s.size) (hs : s.size ≤ 1000) (hb : (s[0].toNat : Int) = 45) (hS : s.extract 1 s.size = S) (w : World) : Calls Try.prog 21 #[.string s] w (NumPost w) := by
  have hi0 : (0 : Int) < (s.size : Int) := by omega
  have hi1 : (1 : Int) ≤ (s.size : Int) := by omega
  have hSs : 0 < S.size ∧ S.size ≤ 1000 := by subst hS; rw [ByteArray.size_extract]; omega
  have e1 : s.toList.isEmpty = false := by
    cases h : s.toList with
    | nil =>
      have h2 := congrArg List.length h
      have h3 : s.toList.length = s.size := by rw [Lib.toList_data]; simp
      simp only [List.length_nil] at h2
      omega
    | cons => rfl
  have e2 : S.toList.isEmpty = false := by
    cases h : S.toList with
    | nil =>
      have h2 := congrArg List.length h
      have h3 : S.toList.length = S.size := by rw [Lib.toList_data]; simp
      simp only [List.length_nil] at h2
      omega
    | cons => rfl
  go_enter Try.func21, Try.ntmps21
  go_wp2_with fail
  go_loopw [5, 6, 7] (fun v o i wr => NumRel S.size w v o i wr) (fun _ _ i _ => S.size - (intOf i).toNat)
  case atStart => exact ⟨0, 0, false, rfl, rfl, rfl, Nat.zero_le _, by omega, by omega, Has.new _ _ _, (Keeps.refl [] w).alloc _⟩
  case round =>
    obtain ⟨j, x, ov, rfl, rfl, rfl, hj, hx0, hx1, hB, hK⟩ := hrel
    have c0 := hB.cell 0
    have c1 := hB.cell 1
    simp only [List.getElem?_cons_zero, List.getElem?_cons_succ] at c0 c1
    have f0 := hB.free 0
    have f1 := hB.free 1
    have hbl := hB.lt
    have HB := Lib.hid hB
    have HK := Lib.hid hK
    clear hB hK
    by_cases hlt : j < S.size
    · have hi : (j : Int) < (S.size : Int) := by omega
      obtain ⟨c, hc⟩ : ∃ c : Int, (S[j].toNat : Int) = c := ⟨_, rfl⟩
      go_wp2_with fail
      all_goals first
        | (refine bodyPost_ret (num_ret (b := w.heap.size) ((HB.out.set 0 _).set 1 _) rfl rfl) rfl ⟨_, _, _, rfl, by omega, by omega, (HK.out.setCell (Or.inr (Nat.le_refl _)) _).setCell (Or.inr (Nat.le_refl _)) _⟩)
        | exact ⟨⟨j + 1, _, _, by first | rfl | (go_num; done) | (congr 1; omega), rfl, rfl, by omega, (u64_wrap _).1, (u64_wrap _).2, HB.out, HK.out⟩, by simp [intOf]; omega⟩
    · have hi : ¬ (j : Int) < (S.size : Int) := by omega
      go_wp2_with fail
      all_goals first
        | (refine bodyPost_ret (num_ret (b := w.heap.size) ((HB.out.set 0 _).set 1 _) rfl rfl) rfl ⟨_, _, _, rfl, by omega, by omega, (HK.out.setCell (Or.inr (Nat.le_refl _)) _).setCell (Or.inr (Nat.le_refl _)) _⟩)
        | trace_state

set_option maxHeartbeats 6400000 in
set_option maxRecDepth 100000 in
theorem number_p (s : ByteArray) (h0 : 0 < s.size) (hs : s.size ≤ 1000) (b : Int) (hb : (s[0].toNat : Int) = b) (h45 : (b == 45) = false) (w : World) : Calls Try.prog 21 #[.string s] w (NumPost w) := by
  have hi0 : (0 : Int) < (s.size : Int) := by omega
  have hi1 : (1 : Int) ≤ (s.size : Int) := by omega
  have hSs : 0 < s.size := by omega
  have e1 : s.toList.isEmpty = false := by
    cases h : s.toList with
    | nil =>
      have h2 := congrArg List.length h
      have h3 : s.toList.length = s.size := by rw [Lib.toList_data]; simp
      simp only [List.length_nil] at h2
      omega
    | cons => rfl
  go_enter Try.func21, Try.ntmps21
  go_wp2_with fail
  go_loopw [5, 6, 7] (fun v o i wr => NumRel s.size w v o i wr) (fun _ _ i _ => s.size - (intOf i).toNat)
  case atStart => exact ⟨0, 0, false, rfl, rfl, rfl, Nat.zero_le _, by omega, by omega, Has.new _ _ _, (Keeps.refl [] w).alloc _⟩
  case round =>
    obtain ⟨j, x, ov, rfl, rfl, rfl, hj, hx0, hx1, hB, hK⟩ := hrel
    have c0 := hB.cell 0
    have c1 := hB.cell 1
    simp only [List.getElem?_cons_zero, List.getElem?_cons_succ] at c0 c1
    have f0 := hB.free 0
    have f1 := hB.free 1
    have hbl := hB.lt
    have HB := Lib.hid hB
    have HK := Lib.hid hK
    clear hB hK
    by_cases hlt : j < s.size
    · have hi : (j : Int) < (s.size : Int) := by omega
      obtain ⟨c, hc⟩ : ∃ c : Int, (s[j].toNat : Int) = c := ⟨_, rfl⟩
      go_wp2_with fail
      all_goals first
        | (refine bodyPost_ret (num_ret (b := w.heap.size) ((HB.out.set 0 _).set 1 _) rfl rfl) rfl ⟨_, _, _, rfl, by omega, by omega, (HK.out.setCell (Or.inr (Nat.le_refl _)) _).setCell (Or.inr (Nat.le_refl _)) _⟩)
        | exact ⟨⟨j + 1, _, _, by first | rfl | (go_num; done) | (congr 1; omega), rfl, rfl, by omega, (u64_wrap _).1, (u64_wrap _).2, HB.out, HK.out⟩, by simp [intOf]; omega⟩
    · have hi : ¬ (j : Int) < (s.size : Int) := by omega
      go_wp2_with fail
      all_goals first
        | (refine bodyPost_ret (num_ret (b := w.heap.size) ((HB.out.set 0 _).set 1 _) rfl rfl) rfl ⟨_, _, _, rfl, by omega, by omega, (HK.out.setCell (Or.inr (Nat.le_refl _)) _).setCell (Or.inr (Nat.le_refl _)) _⟩)
        | trace_state

set_option maxHeartbeats 6400000 in
set_option maxRecDepth 100000 in
theorem number_m (s S : ByteArray) (h0 : s.size = 1) (hb : (s[0].toNat : Int) = 45) (hS : s.extract 1 s.size = S) (w : World) : Calls Try.prog 21 #[.string s] w (NumPost w) := by
  have hi0 : (0 : Int) < (s.size : Int) := by omega
  have hi1 : (1 : Int) ≤ (s.size : Int) := by omega
  have e1 : s.toList.isEmpty = false := by
    cases h : s.toList with
    | nil =>
      have h2 := congrArg List.length h
      have h3 : s.toList.length = s.size := by rw [Lib.toList_data]; simp
      simp only [List.length_nil] at h2
      omega
    | cons => rfl
  have e2 : S.toList.isEmpty = true := by
    cases h : S.toList with
    | cons a l =>
      have h2 := congrArg List.length h
      have h3 : S.toList.length = S.size := by rw [Lib.toList_data]; simp
      have h4 : S.size = 0 := by rw [← hS, ByteArray.size_extract]; omega
      simp only [List.length_cons] at h2
      omega
    | nil => rfl
  go_enter Try.func21, Try.ntmps21
  go_wp2_with fail
  refine bodyPost_ret (num_ret (b := w.heap.size) (Has.new w [.bool false, .int .u64 0] 52) rfl rfl) rfl ⟨_, _, _, rfl, by omega, by omega, (Keeps.refl [] w).alloc _⟩

theorem number_any (s : ByteArray) (h0 : 0 < s.size) (hs : s.size ≤ 1000) (w : World) : Calls Try.prog 21 #[.string s] w (NumPost w) := by
  by_cases h45 : (s[0].toNat : Int) = 45
  · by_cases h1 : s.size = 1
    · exact number_m s _ h1 h45 rfl w
    · exact number_n s _ (by omega) hs h45 rfl w
  · exact number_p s h0 hs _ rfl (beq_eq_false_iff_ne.2 h45) w
end Go.Proofs.Ytmhkgfddlkdmgaa
