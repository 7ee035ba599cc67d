/-
  truchmanbook.Book.Apart, where lists of ints alone are kept: its contract.
-/
import Derived.Test.YtigajmfadfinpaaBookPut
import Derived.Test.YtigajmfadfinpaaBookGrow
namespace Go.Proofs.Ytigajmfadfinpaa
open Go.RowKit Go.Tru

set_option maxHeartbeats 3200000 in
set_option maxRecDepth 100000 in
theorem apart_yes {w : World} {base b : Nat} {iv wv : Value} {vs us : List Value} (xss : Nat → List Int) (h : BookIn w base b iv wv vs us) (hn : vs.length ≤ 2) (hl : vs.length = us.length) (hx : ∀ i, (xss i).length ≤ 5000) (hbase : base ≤ w.heap.size)
    (hfit : ∀ i, ∀ x ∈ xss i, -9223372036854775808 ≤ x ∧ x ≤ 9223372036854775807)
    (hrow : ∀ (i : Nat) (v : Value), vs[i]? = some v → OwnsInts w base v (xss i)) (hwas : ∀ (i : Nat) (v : Value), us[i]? = some v → OwnsInts w base v (xss i))
    (hd : ∀ (i j : Nat) (v u : Value), vs[i]? = some v → vs[j]? = some u → i ≠ j → ∀ x ∈ blks v, x ∉ blks u)
    (hsep : ∀ (i : Nat) (v : Value), vs[i]? = some v → ∀ x ∈ blks v, x ≠ b ∧ x ∉ blks iv ∧ x ∉ blks wv) :
    Calls Try.prog 16 #[.pointer (some ⟨b, 0, none⟩)] w fun e w' => e = .returned (.bool true) ∧ Keeps (vs.flatMap blks) w w' := by
  have hbf : b ∉ vs.flatMap blks := fun hm => by
    obtain ⟨v, hv, hb⟩ := List.mem_flatMap.1 hm
    obtain ⟨i, hi, rfl⟩ := List.getElem_of_mem hv
    exact (hsep i _ (List.getElem?_eq_getElem hi) b hb).1 rfl
  have hgf : ∀ g ∈ blks iv, g ∉ vs.flatMap blks := fun g hg hm => by
    obtain ⟨v, hv, hb⟩ := List.mem_flatMap.1 hm
    obtain ⟨i, hi, rfl⟩ := List.getElem_of_mem hv
    exact (hsep i _ (List.getElem?_eq_getElem hi) g hb).2.1 hg
  have hwf : ∀ g ∈ blks wv, g ∉ vs.flatMap blks := fun g hg hm => by
    obtain ⟨v, hv, hb⟩ := List.mem_flatMap.1 hm
    obtain ⟨i, hi, rfl⟩ := List.getElem_of_mem hv
    exact (hsep i _ (List.getElem?_eq_getElem hi) g hb).2.2 hg
  have hpair : ∀ (i : Nat) (v u : Value), vs[i]? = some v → us[i]? = some u → PairAt w v u := fun i v u hv hu => by
    obtain ⟨o1, c1, e1, h1⟩ := intsIn_of_owns (hrow i v hv) (hfit i)
    obtain ⟨o2, c2, e2, h2⟩ := intsIn_of_owns (hwas i u hu) (hfit i)
    exact ⟨o1, o2, c1, c2, xss i, e1, e2, h1, h2⟩
  have H := Lib.hid h
  have HP := Lib.hid hpair
  have HBF := Lib.hid hbf
  have HGF := Lib.hid hgf
  have HWF := Lib.hid hwf
  have HR := Lib.hid hrow
  have HD := Lib.hid hd
  have HS := Lib.hid hsep
  have HX := Lib.hid hx
  have HB := Lib.hid hbase
  have HL := Lib.hid hl
  clear h hpair hbf hgf hwf hrow hwas hd hsep hx hbase hfit hl
  go_enter Try.func16, Try.ntmps16
  go_wp2_with fail
  refine (stillTexts_none H.out).mono ?_
  rintro e w1 ⟨rfl, k1⟩
  have K1 := Lib.hid k1
  have H1 := Lib.hid (H.out.keep0 k1)
  clear k1
  go_wp2_with fail
  refine (stillInts_yes H1.out HL.out (fun i v u hv hu => (HP.out i v u hv hu).keep0 K1.out)).mono ?_
  rintro e w2 ⟨rfl, k2⟩
  have K2 := Lib.hid (K1.out.trans k2)
  have H2 := Lib.hid (H1.out.keep0 k2)
  clear k2
  go_wp2_with fail
  refine (stillEvs_none H2.out).mono ?_
  rintro e w3 ⟨rfl, k3⟩
  have K3 := Lib.hid (K2.out.trans k3)
  have H3 := Lib.hid (H2.out.keep0 k3)
  clear k3
  go_wp2_with fail
  refine (putTexts_none H3.out).mono ?_
  rintro e w4 ⟨rfl, k4⟩
  have K4 := Lib.hid (K3.out.trans k4)
  have H4 := Lib.hid (H3.out.keep0 k4)
  clear k4
  go_wp2_with fail
  refine (putInts_any xss H4.out hn (fun i => by have := HX.out i; omega) (fun i v hv => ownsRow_keeps (HR.out i v hv) K4.out (by simp)) HD.out HS.out).mono ?_
  rintro e w5 ⟨rfl, hr5, k5⟩
  have K5 := Lib.hid ((K4.out.mono (G := vs.flatMap blks) (by simp)).trans k5)
  have H5 := Lib.hid (H4.out.keeps k5 HBF.out HGF.out HWF.out)
  have HR5 := Lib.hid hr5
  clear k5 hr5
  go_wp2_with fail
  refine (putEvs_none H5.out).mono ?_
  rintro e w6 ⟨rfl, k6⟩
  have K6 := Lib.hid (K5.out.trans (k6.mono (by simp)))
  have H6 := Lib.hid (H5.out.keep0 k6)
  have K56 := Lib.hid k6
  clear k6
  go_wp2_with fail
  refine (growTexts_none H6.out).mono ?_
  rintro e w7 ⟨rfl, k7⟩
  have K7 := Lib.hid (K6.out.trans (k7.mono (by simp)))
  have H7 := Lib.hid (H6.out.keep0 k7)
  have K57 := Lib.hid (K56.out.trans k7)
  clear k7
  go_wp2_with fail
  refine (growInts_any (fun i => (xss i).length) H7.out hn HX.out (by have h1 := HB.out; have h2 := K7.out.size; omega) (fun i v hv => ownsRow_keeps (HR5.out i v hv) K57.out (by simp)) HD.out HS.out).mono ?_
  rintro e w8 ⟨out, gs, rfl, hgl, hout, hgs, hvs, k8⟩
  obtain ⟨oo, co, rfl, hso⟩ := slcsIn_of_owns hout
  have K8 := Lib.hid (K7.out.trans k8)
  have H8 := Lib.hid (H7.out.keeps k8 HBF.out HGF.out HWF.out)
  have HGS := Lib.hid hgs
  have HVS := Lib.hid hvs
  have HSO := Lib.hid hso
  have HGL := Lib.hid hgl
  clear k8 hout hgs hvs hso hgl
  go_wp2_with fail
  refine (growEvs_none H8.out).mono ?_
  rintro e w9 ⟨rfl, k9⟩
  have K9 := Lib.hid (K8.out.trans (k9.mono (by simp)))
  have H9 := Lib.hid (H8.out.keep0 k9)
  have K89 := Lib.hid k9
  obtain ⟨q0, -, q2, -, q4, -⟩ := H9.out.cells
  obtain ⟨oi, ci, hiv, hsi⟩ := slcsIn_of_owns H9.out.ints
  subst hiv
  have HSI := Lib.hid hsi
  clear k9 hsi
  go_wp2_with fail
  refine (markedTexts_none _).mono ?_
  rintro e w10 ⟨rfl, k10⟩
  have K10 := Lib.hid k10
  have a0 := k10.cell q0 (by simp)
  have a2 := k10.cell q2 (by simp)
  have a4 := k10.cell q4 (by simp)
  clear q0 q2 q4 k10
  go_wp2_with fail
  refine (markedTexts_none _).mono ?_
  rintro e w11 ⟨rfl, k11⟩
  have K11 := Lib.hid (K10.out.trans k11)
  have b2 := k11.cell a2 (by simp)
  have b4 := k11.cell a4 (by simp)
  clear a0 a2 a4 k11
  go_wp2_with fail
  refine (markedInts_yes (HSO.out.keep0 (K89.out.trans K11.out)) (by have := HGL.out; omega) (fun i v hv => (HGS.out i v hv).keep0 (K89.out.trans K11.out))).mono ?_
  rintro e w12 ⟨rfl, k12⟩
  have K12 := Lib.hid (K11.out.trans k12)
  have c2 := k12.cell b2 (by simp)
  have c4 := k12.cell b4 (by simp)
  clear b2 b4 k12
  go_wp2_with fail
  refine (markedInts_yes (HSI.out.keep0 K12.out) hn (fun i v hv => (HVS.out i v hv).keep0 (K89.out.trans K12.out))).mono ?_
  rintro e w13 ⟨rfl, k13⟩
  have K13 := Lib.hid (K12.out.trans k13)
  have d4 := k13.cell c4 (by simp)
  clear c2 c4 k13
  go_wp2_with fail
  refine (markedEvs_none _).mono ?_
  rintro e w14 ⟨rfl, k14⟩
  have K14 := Lib.hid (K13.out.trans k14)
  have f4 := k14.cell d4 (by simp)
  clear d4 k14
  go_wp2_with fail
  refine (markedEvs_none _).mono ?_
  rintro e w15 ⟨rfl, k15⟩
  have K15 := Lib.hid (K14.out.trans k15)
  clear f4 k15
  go_wp2_with fail
  go_ret
  exact ⟨rfl, K9.out.trans (K15.out.mono (by simp))⟩
end Go.Proofs.Ytigajmfadfinpaa
