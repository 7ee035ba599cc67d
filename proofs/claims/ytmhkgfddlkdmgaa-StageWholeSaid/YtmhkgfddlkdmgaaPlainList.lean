/-
  The statements' own plain: a list of parts as plain ones.
-/
import Derived.Test.YtmhkgfddlkdmgaaEvRow
import Derived.Test.YtmhkgfddlkdmgaaStageMem
namespace Go.Proofs.Ytmhkgfddlkdmgaa
open Go.RowKit Go.Tru

theorem new_evc (e : Ev) {w : World} {t : TypeId} {g : Nat} (hg : g = w.heap.size) : ∀ (j : Nat) (u : Value), ([e].flatMap Ev.cells)[j]? = some u → (w.alloc (.cells #[.int .i64 e.kind, .bool e.yes, .int .u64 e.mag, .string e.text, .int .i64 e.count] t)).cell? ((⟨g, 0, none⟩ : Addr).add j) = some u :=
  cells_new ([e].flatMap Ev.cells) hg

set_option maxHeartbeats 800000 in
theorem plainList_any (o : Option Addr) (n c : Nat) (ps : List Ev) (w : World) (h : AnysIn w o n c ps) (hcl : ∀ p ∈ ps, Clear p) (hn : n ≤ 1000000) :
    Calls Try.prog 9 #[.slice o n c] w fun e w' => ∃ v, e = .returned (.tuple #[v, .bool true]) ∧ OwnsEvs w' w.heap.size v ps ∧ Keeps [] w w' := by
  have hl := h.len
  have H := Lib.hid h
  have L := Lib.hid hl
  have HCL := Lib.hid hcl
  clear h hl hcl
  go_enter Try.func9, Try.ntmps9
  go_wp2_with fail
  go_loopw [4, 11] (fun v i wr => ∃ k : Nat, k ≤ n ∧ i = .int .i64 k ∧ OwnsEvs wr w.heap.size v (ps.take k) ∧ Keeps [] w wr) (fun _ i _ => n - (intOf i).toNat)
  case atStart => exact ⟨0, Nat.zero_le _, rfl, OwnsEvs.nil _ _, Keeps.refl _ _⟩
  case round =>
    obtain ⟨k, hk, rfl, hown, hK⟩ := hrel
    by_cases hlt : k < n
    · have hx : k < ps.length := by rw [L.out]; exact hlt
      obtain ⟨b1, f1, rfl, g1⟩ := (H.out.keeps hK).get hlt hx
      have HK := Lib.hid hK
      have HO := Lib.hid hown
      have hts : ps.take (k + 1) = ps.take k ++ [ps[k]] := List.take_succ_eq_append_getElem hx
      have HTS := Lib.hid hts
      have hpl := fun W => plain_any ps[k] (HCL.out _ (List.getElem_mem hx)) W
      generalize ps[k].part = pv at g1 hpl
      have HPL := Lib.hid hpl
      clear hK hown hts hpl
      go_wp2_with fail
      refine (HPL.out _).mono ?_
      rintro e w1 ⟨rfl, k1⟩
      have K1 := Lib.hid (HK.out.trans k1)
      have HO1 := Lib.hid (ownsRow_keeps HO.out k1 (by simp))
      have hz1 := K1.out.size
      clear k1 HO
      simp only [Ev.val, Ev.cells]
      go_wp2_with (at_builtin; go_must (refine app_evs rfl _ _ rfl w.heap.size _ (ps.take k) rfl (ownsRow_keeps HO1.out (((Keeps.refl [] _).alloc _).alloc _) (by simp)) ⟨_, 0, none⟩ 1 1 [ps[k]] rfl rfl (new_evc ps[k] (by simp)) (by rw [List.length_take]; omega) (by simp; omega) ?_))
      intro v2 w2 hown2 hk2 _hnil _hb
      have hlo := World.ownsRow.lt HO1.out
      have HO2 := Lib.hid hown2
      have HK2 := Lib.hid hk2
      clear hown2 hk2 _hnil _hb
      go_wp2_with fail
      go_roundw
      case rel => exact ⟨k + 1, by omega, by go_num, by first | exact HO2.out | (rw [HTS.out]; exact HO2.out), (((K1.out.alloc _).alloc _).trans' HK2.out (fun i hi => Or.inr (hlo i (mem_blks.1 hi)).1))⟩
      case measure => simp [intOf]; omega
    · obtain rfl : k = n := by omega
      rw [List.take_of_length_le (by rw [L.out]; omega)] at hown
      have HO := Lib.hid hown
      have HK := Lib.hid hK
      clear hown hK
      go_wp2_with fail
      go_ret2
      exact ⟨_, rfl, HO.out, HK.out⟩
end Go.Proofs.Ytmhkgfddlkdmgaa
