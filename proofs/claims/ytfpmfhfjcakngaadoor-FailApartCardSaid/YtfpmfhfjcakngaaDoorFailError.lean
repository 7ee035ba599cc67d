/-
  (*Failure).Error at a small place.
-/
import Derived.Test.YtfpmfhfjcakngaaDoorFail
import Derived.Deep.RegionHeld
namespace Go.Proofs.YtfpmfhfjcakngaaDoor
open Go.RowKit Go.Tru

theorem pow_keeps {w w' : World} (h : PowTab w) (k : Keeps [] w w') : PowTab w' := by
  unfold PowTab Lib.TabIs World.var? at h ⊢
  rw [pow_global] at h ⊢
  simp only [Option.bind_some] at h ⊢
  have hlt : 0 < w.heap.size := by
    rcases Nat.lt_or_ge 0 w.heap.size with h' | h'
    · exact h'
    · rw [Array.getElem?_eq_none h'] at h; cases h
  rw [k.block _ hlt (by simp)]
  exact h


theorem fail_loads (b : Nat) (n at' : Int) (w : World) (h : Has w b [.int .i64 n, .int .i64 at'] 41) :
    w.cell? ⟨b, 0, none⟩ = some (.int .i64 n) ∧ w.cell? ⟨b, 1, none⟩ = some (.int .i64 at') ∧ b < w.heap.size ∧ w.frozen? ⟨b, 0, none⟩ = false ∧ w.frozen? ⟨b, 1, none⟩ = false := by
  have c0 := h.cell 0
  have c1 := h.cell 1
  simp only [List.getElem?_cons_zero, List.getElem?_cons_succ] at c0 c1
  exact ⟨c0, c1, h.lt, h.free 0, h.free 1⟩

theorem name_len (n : Int) : (nameOf n).length ≤ 6 := by
  unfold nameOf
  split
  · simp
  · rcases Nat.lt_or_ge n.toNat 16 with h | h
    · have : ∀ k < 16, ((names[k]?).getD []).length ≤ 6 := by decide
      exact this _ h
    · rw [List.getElem?_eq_none (show names.length ≤ n.toNat from h)]
      simp

theorem dec_len2 (i : Nat) (hi : i < 100) : (Lib.decDigits i).length ≤ 20 := by
  have : ∀ k < 100, (Lib.decDigits k).length ≤ 20 := by decide +kernel
  exact this i hi

/-- the words of an error -/
def wordsOf (n : Int) (i : Nat) : ByteArray := ((⟨(nameOf n).toArray⟩ : ByteArray) ++ ⟨#[32, 97, 116, 32]⟩) ++ ⟨(Lib.decDigits i).toArray⟩

set_option maxHeartbeats 2000000 in
set_option maxRecDepth 100000 in
theorem error_small (b : Nat) (n : Int) (hn : -9223372036854775808 ≤ n ∧ n ≤ 9223372036854775807) (i : Nat) (hi : i < 100) (w : World) (htab : PowTab w)
    (h : Has w b [.int .i64 n, .int .i64 i] 41) :
    Calls Tryd.prog 40 #[.pointer (some ⟨b, 0, none⟩)] w fun e w' => e = .returned (.string (wordsOf n i)) ∧ Keeps [] w w' := by
  have HN := Lib.hid (fun W (hW : Keeps [] w W) => name_any n hn W (pow_keeps htab hW))
  have HL := Lib.hid (fun W (k : Keeps [] w W) => fail_loads b n i W (h.keeps k (by simp)))
  have hn6 := name_len n
  have hd2 := dec_len2 i hi
  clear htab h
  go_enter Tryd.func40, Tryd.ntmps40
  go_wp2_with fail
  refine wp_region_held_drew (S := fun w' => Keeps [] w w') (by kernel_rfl) ((Keeps.refl [] _).drew) (fun hHeld => ?_)
  have HH := Lib.hid hHeld
  clear hHeld
  refine wpAnyH_take (i := 0) (v := ?_) rfl (by kernel_rfl) (by kernel_rfl) (by kernel_rfl) (fun _ _ _ h => h) (Or.inl ⟨by rfl, ?_⟩) HH.out ?_
  rotate_left 1
  first | (intro w hSw; clear hSw; go_simp; done) | (intro w hSw; clear hSw; go_simp; with_reducible rfl) | (intro w hSw; clear hSw; go_simp; rw [if_neg (by omega)])
  try simp only [List.getElem_toArray, List.getElem_cons_zero, Act.put, List.setIfInBounds_toArray, List.set_cons_zero, List.set_cons_succ]
  refine wpAnyH_take (i := 1) (v := ?_) rfl (by kernel_rfl) (by kernel_rfl) (by kernel_rfl) (fun _ _ _ h => h) (Or.inl ⟨by rfl, ?_⟩) HH.out ?_
  rotate_left 1
  first | (intro w hSw; clear hSw; go_simp; done) | (intro w hSw; clear hSw; go_simp; with_reducible rfl) | (intro w hSw; clear hSw; go_simp; rw [if_neg (by omega)])
  try simp only [List.getElem_toArray, List.getElem_cons_zero, List.getElem_cons_succ, Act.put, List.setIfInBounds_toArray, List.set_cons_zero, List.set_cons_succ]
  refine wpAnyH_take (i := 2) (v := ?_) rfl (by kernel_rfl) (by kernel_rfl) (by kernel_rfl) (fun _ _ _ h => h) (Or.inl ⟨by rfl, ?_⟩) HH.out ?_
  rotate_left 1
  first | (intro w hSw; clear hSw; go_simp; done) | (intro w hSw; clear hSw; go_simp; with_reducible rfl) | (intro w hSw; clear hSw; go_simp; rw [if_neg (by omega)])
  try simp only [List.getElem_toArray, List.getElem_cons_zero, List.getElem_cons_succ, Act.put, List.setIfInBounds_toArray, List.set_cons_zero, List.set_cons_succ]
  refine wpAnyH_take (i := 3) (v := ?_) rfl (by kernel_rfl) (by kernel_rfl) (by kernel_rfl) (fun _ _ _ h => h) (Or.inl ⟨by rfl, ?_⟩) HH.out ?_
  rotate_left 1
  first | (intro w hSw; have hSf := HL.out w hSw; clear hSw; go_simp; done) | (intro w hSw; have hSf := HL.out w hSw; clear hSw; go_simp; with_reducible rfl)
  try simp only [List.getElem_toArray, List.getElem_cons_zero, List.getElem_cons_succ, Act.put, List.setIfInBounds_toArray, List.set_cons_zero, List.set_cons_succ]
  refine wpAnyH_take (i := 6) (v := ?_) rfl (by kernel_rfl) (by kernel_rfl) (by kernel_rfl) (fun _ _ _ h => h) (Or.inl ⟨by rfl, ?_⟩) HH.out ?_
  rotate_left 1
  first | (intro w hSw; clear hSw; go_simp; done) | (intro w hSw; clear hSw; go_simp; with_reducible rfl) | (intro w hSw; clear hSw; go_simp; rw [if_neg (by omega)])
  try simp only [List.getElem_toArray, List.getElem_cons_zero, List.getElem_cons_succ, Act.put, List.setIfInBounds_toArray, List.set_cons_zero, List.set_cons_succ]
  refine wpAnyH_take (i := 7) (v := ?_) rfl (by kernel_rfl) (by kernel_rfl) (by kernel_rfl) (fun _ _ _ h => h) (Or.inl ⟨by rfl, ?_⟩) HH.out ?_
  rotate_left 1
  first | (intro w hSw; clear hSw; go_simp; done) | (intro w hSw; clear hSw; go_simp; with_reducible rfl) | (intro w hSw; clear hSw; go_simp; rw [if_neg (by omega)])
  try simp only [List.getElem_toArray, List.getElem_cons_zero, List.getElem_cons_succ, Act.put, List.setIfInBounds_toArray, List.set_cons_zero, List.set_cons_succ]
  refine wpAnyH_take (i := 8) (v := ?_) rfl (by kernel_rfl) (by kernel_rfl) (by kernel_rfl) (fun _ _ _ h => h) (Or.inl ⟨by rfl, ?_⟩) HH.out ?_
  rotate_left 1
  first | (intro w hSw; clear hSw; go_simp; done) | (intro w hSw; clear hSw; go_simp; with_reducible rfl) | (intro w hSw; clear hSw; go_simp; rw [if_neg (by omega)])
  try simp only [List.getElem_toArray, List.getElem_cons_zero, List.getElem_cons_succ, Act.put, List.setIfInBounds_toArray, List.set_cons_zero, List.set_cons_succ]
  refine wpAnyH_take (i := 9) (v := ?_) rfl (by kernel_rfl) (by kernel_rfl) (by kernel_rfl) (fun _ _ _ h => h) (Or.inl ⟨by rfl, ?_⟩) HH.out ?_
  rotate_left 1
  first | (intro w hSw; have hSf := HL.out w hSw; clear hSw; go_simp; done) | (intro w hSw; have hSf := HL.out w hSw; clear hSw; go_simp; with_reducible rfl)
  try simp only [List.getElem_toArray, List.getElem_cons_zero, List.getElem_cons_succ, Act.put, List.setIfInBounds_toArray, List.set_cons_zero, List.set_cons_succ]
  refine wpAnyH_ready (rs := [4]) (by kernel_rfl) (by simp) ?_
  refine AllReadyH.cons rfl (fun K hK => ?_) AllReadyH.nil
  go_simp
  refine (HN.out _ HH.out).mono ?_
  rintro e w1 ⟨rfl, k1⟩
  try go_simp
  refine hK.out _ _ (HH.out.trans k1) (fun hHeld => ?_)
  clear hK K HH
  have HH := Lib.hid hHeld
  clear hHeld
  refine wpAnyH_take (i := 5) (v := ?_) rfl (by kernel_rfl) (by kernel_rfl) (by kernel_rfl) (fun _ _ _ h => h) (Or.inl ⟨by rfl, ?_⟩) HH.out ?_
  rotate_left 1
  first | (intro w hSw; clear hSw; go_simp; done) | (intro w hSw; clear hSw; go_simp; with_reducible rfl) | (intro w hSw; clear hSw; go_simp; rw [if_neg (by omega)])
  try simp only [List.getElem_toArray, List.getElem_cons_zero, List.getElem_cons_succ, Act.put, List.setIfInBounds_toArray, List.set_cons_zero, List.set_cons_succ]
  refine wpAnyH_ready (rs := [10]) (by kernel_rfl) (by simp) ?_
  refine AllReadyH.cons rfl (fun K hK => ?_) AllReadyH.nil
  go_simp
  refine (Tryd.strconv_Itoa_small i hi _).mono ?_
  rintro e w2 ⟨rfl, rfl⟩
  try go_simp
  refine hK.out _ _ (HH.out.trans (Keeps.refl _ _)) (fun hHeld => ?_)
  clear hK K HH
  have HH := Lib.hid hHeld
  clear hHeld
  refine wpAnyH_take (i := 11) (v := ?_) rfl (by kernel_rfl) (by kernel_rfl) (by kernel_rfl) (fun _ _ _ h => h) (Or.inl ⟨by rfl, ?_⟩) HH.out ?_
  rotate_left 1
  first | (intro w hSw; clear hSw; go_simp; done) | (intro w hSw; clear hSw; go_simp; with_reducible rfl) | (intro w hSw; clear hSw; go_simp; rw [if_neg (by omega)])
  try simp only [List.getElem_toArray, List.getElem_cons_zero, List.getElem_cons_succ, Act.put, List.setIfInBounds_toArray, List.set_cons_zero, List.set_cons_succ]
  refine wpAnyH_take (i := 12) (v := ?_) rfl (by kernel_rfl) (by kernel_rfl) (by kernel_rfl) (fun _ _ _ h => h) (Or.inl ⟨by rfl, ?_⟩) HH.out ?_
  rotate_left 1
  first | (intro w hSw; clear hSw; go_simp; done) | (intro w hSw; clear hSw; go_simp; with_reducible rfl) | (intro w hSw; clear hSw; go_simp; rw [if_neg (by omega)])
  try simp only [List.getElem_toArray, List.getElem_cons_zero, List.getElem_cons_succ, Act.put, List.setIfInBounds_toArray, List.set_cons_zero, List.set_cons_succ]
  refine wpAnyH_done (by kernel_rfl) ?_ _
  go_wp2_with fail
  go_ret
  exact ⟨rfl, HH.out⟩
end Go.Proofs.YtfpmfhfjcakngaaDoor
