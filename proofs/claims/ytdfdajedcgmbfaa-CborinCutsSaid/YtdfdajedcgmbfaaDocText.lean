/-
  truchmanbook.text: its contract.
-/
import Derived.Test.YtdfdajedcgmbfaaDocModel
import Derived.Test.YtdfdajedcgmbfaaMask
namespace Go.Tru
theorem i64_and7 (n : Int) : bits .and .i64 n 7 = n % 8 := i64_mask 3 (by decide) n
theorem i64_and65535 (n : Int) : bits .and .i64 n 65535 = n % 65536 := i64_mask 16 (by decide) n

theorem tab_ways (x k : Nat) (hk : k ≤ 7) : bits .and .i64 ((x : Int) / 2 ^ (k % 8)) 7 = 0 ∧ docTab (x >>> k % 8) = [97] ∨ bits .and .i64 ((x : Int) / 2 ^ (k % 8)) 7 = 1 ∧ docTab (x >>> k % 8) = [34] ∨ bits .and .i64 ((x : Int) / 2 ^ (k % 8)) 7 = 2 ∧ docTab (x >>> k % 8) = [92] ∨ bits .and .i64 ((x : Int) / 2 ^ (k % 8)) 7 = 3 ∧ docTab (x >>> k % 8) = [10] ∨ bits .and .i64 ((x : Int) / 2 ^ (k % 8)) 7 = 4 ∧ docTab (x >>> k % 8) = [195, 169] ∨ bits .and .i64 ((x : Int) / 2 ^ (k % 8)) 7 = 5 ∧ docTab (x >>> k % 8) = [1] ∨ bits .and .i64 ((x : Int) / 2 ^ (k % 8)) 7 = 6 ∧ docTab (x >>> k % 8) = [240, 157, 132, 158] ∨ bits .and .i64 ((x : Int) / 2 ^ (k % 8)) 7 = 7 ∧ docTab (x >>> k % 8) = [122] := by
  have e : ((x : Int) / 2 ^ (k % 8)) = ((x >>> k : Nat) : Int) := by
    rw [Nat.mod_eq_of_lt (by omega), Nat.shiftRight_eq_div_pow, Int.natCast_ediv, Int.natCast_pow]; rfl
  rw [i64_and7, e]
  have hj : x >>> k % 8 < 8 := Nat.mod_lt _ (by decide)
  have e2 : ((x >>> k : Nat) : Int) % 8 = ((x >>> k % 8 : Nat) : Int) := by omega
  rw [e2]
  generalize x >>> k % 8 = j at hj
  match j, hj with
  | 0, _ => exact Or.inl ⟨rfl, rfl⟩
  | 1, _ => exact Or.inr (Or.inl ⟨rfl, rfl⟩)
  | 2, _ => exact Or.inr (Or.inr (Or.inl ⟨rfl, rfl⟩))
  | 3, _ => exact Or.inr (Or.inr (Or.inr (Or.inl ⟨rfl, rfl⟩)))
  | 4, _ => exact Or.inr (Or.inr (Or.inr (Or.inr (Or.inl ⟨rfl, rfl⟩))))
  | 5, _ => exact Or.inr (Or.inr (Or.inr (Or.inr (Or.inr (Or.inl ⟨rfl, rfl⟩)))))
  | 6, _ => exact Or.inr (Or.inr (Or.inr (Or.inr (Or.inr (Or.inr (Or.inl ⟨rfl, rfl⟩))))))
  | 7, _ => exact Or.inr (Or.inr (Or.inr (Or.inr (Or.inr (Or.inr (Or.inr ⟨rfl, rfl⟩))))))
end Go.Tru
namespace Go.Proofs.Ytdfdajedcgmbfaa
open Go.RowKit Go.Tru

def TextRel (x : Nat) (w : World) (v i : Value) (wr : World) : Prop :=
  ∃ (k : Nat) (t : ByteArray), k ≤ x % 8 ∧ i = .int .i64 k ∧ v = .string t ∧ t.data.toList ++ textGo x k = textGo x (x % 8) ∧ t.size ≤ 28 ∧ Keeps [] w wr

theorem text_size {x k : Nat} {t : ByteArray} (h : t.data.toList ++ textGo x k = textGo x (x % 8)) : t.size ≤ 28 := by
  have h1 := congrArg List.length h
  have h2 := textGo_len x (x % 8)
  rw [List.length_append, Array.length_toList] at h1
  have h3 : t.size = t.data.size := rfl
  omega

set_option maxHeartbeats 800000 in
theorem docText_any (x : Nat) (w : World) :
    Calls Try.prog 13 #[.int .i64 x] w fun e w' => e = .returned (.string (docText x)) ∧ Keeps [] w w' := by
  have h7 : bits .and .i64 (x : Int) 7 = ((x % 8 : Nat) : Int) := by rw [i64_and7]; omega
  go_enter Try.func13, Try.ntmps13
  go_wp2_with fail
  go_loopw [3, 4] (fun v i wr => TextRel x w v i wr) (fun _ i _ => (intOf i).toNat)
  case atStart => exact ⟨x % 8, ⟨#[]⟩, Nat.le_refl _, by first | rfl | (simp; done) | (rw [h7]), rfl, by simp, by simp [ByteArray.size], Keeps.refl _ _⟩
  case round =>
    obtain ⟨k, t, hk, rfl, rfl, ht, hz, hK⟩ := hrel
    by_cases h0 : 0 < k
    · obtain ⟨k', rfl⟩ : ∃ k', k = k' + 1 := ⟨k - 1, by omega⟩
      have htab := tab_ways x (k' + 1) (by omega)
      have HT := Lib.hid ht
      have HK := Lib.hid hK
      clear ht hK h7
      rcases htab with ⟨hb, hd⟩ | ⟨hb, hd⟩ | ⟨hb, hd⟩ | ⟨hb, hd⟩ | ⟨hb, hd⟩ | ⟨hb, hd⟩ | ⟨hb, hd⟩ | ⟨hb, hd⟩
      all_goals
        have HD := Lib.hid hd
        clear hd
        go_wp2_with fail
        go_roundw
        case rel =>
          have hcat : (t ++ ⟨(docTab (x >>> (k' + 1) % 8)).toArray⟩).data.toList ++ textGo x k' = textGo x (x % 8) := by
            rw [← HT.out]
            simp [textGo]
          have hsz := text_size hcat
          rw [HD.out] at hcat hsz
          exact ⟨k', _, by omega, by go_num, rfl, hcat, hsz, HK.out.alloc _⟩
        case measure => simp [intOf]
    · obtain rfl : k = 0 := by omega
      have hdt : t = docText x := by
        unfold docText
        rw [← ht]
        cases t
        simp [textGo]
      have HD := Lib.hid hdt
      have HK := Lib.hid hK
      clear hdt hK ht h7
      go_wp2_with fail
      go_ret
      exact ⟨by rw [← HD.out]; rfl, HK.out⟩
end Go.Proofs.Ytdfdajedcgmbfaa
