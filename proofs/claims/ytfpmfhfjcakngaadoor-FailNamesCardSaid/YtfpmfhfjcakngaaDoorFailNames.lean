/-
  FailNames' walk.
-/
import Derived.Test.YtfpmfhfjcakngaaDoorFailAlive
namespace Go.Proofs.YtfpmfhfjcakngaaDoor
open Go.RowKit Go.Tru

set_option maxHeartbeats 2000000 in
set_option maxRecDepth 100000 in
theorem names_out (a b : Int) (ha : ¬ (0 ≤ a ∧ a ≤ 15)) (x y : ByteArray) (hx : x = ⟨#[]⟩) (w : World)
    (h1 : ∀ W, PowTab W → Calls Tryd.prog 10 #[.int .i64 a] W fun e w' => e = .returned (.string x) ∧ Keeps [] W w')
    (h2 : ∀ W, PowTab W → Calls Tryd.prog 10 #[.int .i64 b] W fun e w' => e = .returned (.string y) ∧ Keeps [] W w')
    (htab : PowTab w) :
    Calls Tryd.prog 4 #[.int .i64 a, .int .i64 b] w fun e w' => e = .returned (.bool true) ∧ Below w.heap.size w w' := by
  have HT := Lib.hid htab
  have H1 := Lib.hid h1
  have H2 := Lib.hid h2
  clear htab h1 h2
  subst hx
  go_enter Tryd.func4, Tryd.ntmps4
  go_wp2_with fail
  refine (alive_any w HT.out).mono ?_
  rintro e w1 ⟨rfl, k1⟩
  have K1 := Lib.hid k1
  clear k1
  go_wp2_with fail
  all_goals try (exfalso; omega)
  all_goals refine (H1.out _ (pow_keeps HT.out K1.out)).mono ?_
  all_goals rintro e w2 ⟨rfl, k2⟩
  all_goals have K2 := Lib.hid (K1.out.trans k2)
  all_goals clear k2
  all_goals go_wp2_with fail
  all_goals refine (H2.out _ (pow_keeps HT.out K2.out)).mono ?_
  all_goals rintro e w3 ⟨rfl, k3⟩
  all_goals have K3 := Lib.hid (K2.out.trans k3)
  all_goals clear k3
  all_goals go_wp2_with fail
  all_goals go_tidy
  all_goals first | (exfalso; omega) | (go_ret; exact ⟨rfl, K3.out.all⟩)

set_option maxHeartbeats 2000000 in
set_option maxRecDepth 100000 in
theorem names_inn (a b : Int) (ha : 0 ≤ a ∧ a ≤ 15) (x y : ByteArray) (hx : x.toList.isEmpty = false) (hxy : a ≠ b → (x.toList == y.toList) = false) (w : World)
    (h1 : ∀ W, PowTab W → Calls Tryd.prog 10 #[.int .i64 a] W fun e w' => e = .returned (.string x) ∧ Keeps [] W w')
    (h2 : ∀ W, PowTab W → Calls Tryd.prog 10 #[.int .i64 b] W fun e w' => e = .returned (.string y) ∧ Keeps [] W w')
    (htab : PowTab w) :
    Calls Tryd.prog 4 #[.int .i64 a, .int .i64 b] w fun e w' => e = .returned (.bool true) ∧ Below w.heap.size w w' := by
  have HT := Lib.hid htab
  have H1 := Lib.hid h1
  have H2 := Lib.hid h2
  clear htab h1 h2
  obtain ⟨ha0, ha1⟩ := ha
  by_cases hab : a = b
  · clear hxy
    subst hab
    go_enter Tryd.func4, Tryd.ntmps4
    go_wp2_with fail
    refine (alive_any w HT.out).mono ?_
    rintro e w1 ⟨rfl, k1⟩
    have K1 := Lib.hid k1
    clear k1
    go_wp2_with fail
    refine (H1.out _ (pow_keeps HT.out K1.out)).mono ?_
    rintro e w2 ⟨rfl, k2⟩
    have K2 := Lib.hid (K1.out.trans k2)
    clear k2
    go_wp2_with fail
    refine (H2.out _ (pow_keeps HT.out K2.out)).mono ?_
    rintro e w3 ⟨rfl, k3⟩
    have K3 := Lib.hid (K2.out.trans k3)
    clear k3
    go_wp2_with fail
    all_goals go_tidy
    all_goals first | (exfalso; omega) | (go_ret; exact ⟨rfl, K3.out.all⟩) | (go_ret; exact ⟨ret_bool (a := !x.toList.isEmpty) (by rw [hx]; rfl), K3.out.all⟩) | (go_ret; exact ⟨ret_bool (a := (a == b || !(x.toList == y.toList))) (by rw [hne]; simp), K3.out.all⟩) | (exfalso; simp_all; done)
  · have hne := hxy hab
    clear hxy
    go_enter Tryd.func4, Tryd.ntmps4
    go_wp2_with fail
    refine (alive_any w HT.out).mono ?_
    rintro e w1 ⟨rfl, k1⟩
    have K1 := Lib.hid k1
    clear k1
    go_wp2_with fail
    refine (H1.out _ (pow_keeps HT.out K1.out)).mono ?_
    rintro e w2 ⟨rfl, k2⟩
    have K2 := Lib.hid (K1.out.trans k2)
    clear k2
    go_wp2_with fail
    refine (H2.out _ (pow_keeps HT.out K2.out)).mono ?_
    rintro e w3 ⟨rfl, k3⟩
    have K3 := Lib.hid (K2.out.trans k3)
    clear k3
    go_wp2_with fail
    all_goals go_tidy
    all_goals first | (exfalso; omega) | (go_ret; exact ⟨rfl, K3.out.all⟩) | (go_ret; exact ⟨ret_bool (a := !x.toList.isEmpty) (by rw [hx]; rfl), K3.out.all⟩) | (go_ret; exact ⟨ret_bool (a := (a == b || !(x.toList == y.toList))) (by rw [hne]; simp), K3.out.all⟩) | (exfalso; simp_all; done)

theorem names_nodup : ∀ i < 16, ∀ j < 16, i ≠ j → (names[i]?).getD [] ≠ (names[j]?).getD [] := by decide +kernel
theorem names_some : ∀ i < 16, (names[i]?).getD [] ≠ [] := by decide +kernel

theorem nameOf_nil (n : Int) (h : ¬ (0 ≤ n ∧ n ≤ 15)) : nameOf n = [] := by
  unfold nameOf
  split
  · rfl
  · rw [List.getElem?_eq_none (show names.length ≤ n.toNat by show 16 ≤ n.toNat; omega)]
    rfl

theorem failNames_walk (a b : Int) (w : World) (ha : -9223372036854775808 ≤ a ∧ a ≤ 9223372036854775807) (hb : -9223372036854775808 ≤ b ∧ b ≤ 9223372036854775807) (htab : PowTab w) :
    Calls Tryd.prog 4 #[.int .i64 a, .int .i64 b] w fun e w' => e = .returned (.bool true) ∧ Below w.heap.size w w' := by
  by_cases h : 0 ≤ a ∧ a ≤ 15
  · have ea : nameOf a = (names[a.toNat]?).getD [] := by simp only [nameOf, if_neg (show ¬ a < 0 by omega)]
    have hne := names_some a.toNat (by omega)
    refine names_inn a b h _ _ ?_ ?_ w (name_any a ha) (name_any b hb) htab
    · rw [Lib.toList_data, ea]
      cases hl : (names[a.toNat]?).getD [] with
      | nil => exact absurd hl hne
      | cons c l => rfl
    · intro hab
      rw [Lib.toList_data, Lib.toList_data, beq_eq_false_iff_ne]
      intro e2
      have e2 : nameOf a = nameOf b := e2
      by_cases h' : 0 ≤ b ∧ b ≤ 15
      · have eb : nameOf b = (names[b.toNat]?).getD [] := by simp only [nameOf, if_neg (show ¬ b < 0 by omega)]
        rw [ea, eb] at e2
        exact names_nodup a.toNat (by omega) b.toNat (by omega) (by omega) e2
      · rw [nameOf_nil b h', ea] at e2
        exact hne e2
  · have ea := nameOf_nil a h
    exact names_out a b h _ _ (by rw [ea]) w (name_any a ha) (name_any b hb) htab
end Go.Proofs.YtfpmfhfjcakngaaDoor
