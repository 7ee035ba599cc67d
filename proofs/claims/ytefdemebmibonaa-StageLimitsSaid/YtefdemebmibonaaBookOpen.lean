/-
  truchmanbook.Open: its contract.
-/
import Derived.Test.YtefdemebmibonaaDocBal
import Derived.Test.YtefdemebmibonaaEvRow
import Derived.Test.YtefdemebmibonaaStageMem
import Derived.Test.YtefdemebmibonaaPlainList
namespace Go.Proofs.Ytefdemebmibonaa
open Go.RowKit Go.Tru

theorem evc_facts {w : World} {b : Nat} {e : Ev} {t : TypeId} (h : Has w b e.cells t) :
    w.cell? ⟨b, 0, none⟩ = some (.int .i64 e.kind) ∧ w.cell? ⟨b, 1, none⟩ = some (.bool e.yes) ∧ w.cell? ⟨b, 2, none⟩ = some (.int .u64 e.mag) ∧ w.cell? ⟨b, 3, none⟩ = some (.string e.text) ∧ w.cell? ⟨b, 4, none⟩ = some (.int .i64 e.count) :=
  ⟨h.cell 0, h.cell 1, h.cell 2, h.cell 3, h.cell 4⟩

def OpenRel (n : Nat) (es : List Ev) (w : World) (v i : Value) (wr : World) : Prop :=
  ∃ k : Nat, k ≤ n ∧ i = .int .i64 k ∧ OwnsEvs wr w.heap.size v ((es.take k).map openEv) ∧ Keeps [] w wr

set_option maxHeartbeats 1600000 in
theorem bookOpen_any (o : Option Addr) (n c : Nat) (es : List Ev) (w : World) (h : EvsIn w o n c es) (hn : n ≤ 1000000) :
    Calls Try.prog 17 #[.slice o n c] w fun e w' => ∃ v, e = .returned v ∧ OwnsEvs w' w.heap.size v (es.map openEv) ∧ Keeps [] w w' := by
  have hl := h.len
  have H := Lib.hid h
  have L := Lib.hid hl
  clear h hl
  go_enter Try.func17, Try.ntmps17
  go_wp2_with fail
  go_loopw [3, 8] (fun v i wr => OpenRel n es w v i wr) (fun _ i _ => n - (intOf i).toNat)
  case atStart => exact ⟨0, Nat.zero_le _, rfl, OwnsEvs.nil _ _, Keeps.refl _ _⟩
  case round =>
    obtain ⟨k, hk, rfl, hown, hK⟩ := hrel
    have hts := hown.lt
    by_cases hlt : k < n
    · have hx : k < es.length := by rw [L.out]; exact hlt
      obtain ⟨b1, f1, rfl, g0, g1, g2, g3, g4⟩ := (H.out.keeps hK).get hlt hx
      have HTS := Lib.hid (show (es.take (k + 1)).map openEv = (es.take k).map openEv ++ [openEv es[k]] by rw [List.take_succ_eq_append_getElem hx, List.map_append]; rfl)
      have HK := Lib.hid hK
      have HO := Lib.hid hown
      clear hK hown
      generalize es[k] = a at g0 g1 g2 g3 g4 HTS
      by_cases hc : a.kind = 5 ∨ a.kind = 6
      · have HE := Lib.hid (show openEv a = ⟨a.kind, a.yes, a.mag, a.text, -1⟩ by unfold openEv; rw [if_pos hc])
        obtain ⟨k', y', m', t', c'⟩ := a
        simp only at hc g0 g1 g2 g3 g4 HE
        rcases hc with rfl | rfl
        · skip
          go_wp2_with (at_builtin; go_must (refine app_evs rfl _ _ rfl w.heap.size _ ((es.take k).map openEv) rfl (ownsRow_keeps HO.out (((Keeps.refl [] _).alloc _).alloc _) (by simp)) ⟨_, 0, none⟩ 1 1 [⟨5, y', m', t', -1⟩] rfl rfl (new_evc ⟨5, y', m', t', -1⟩ (by simp)) (by rw [List.length_map, List.length_take]; omega) (by have := HK.out.size; simp; omega) ?_))
          intro v2 w2 hown2 hk2 _hnil _hb
          have hlo := World.ownsRow.lt HO.out
          have HO2 := Lib.hid hown2
          have HK2 := Lib.hid hk2
          clear hown2 hk2 _hnil _hb
          go_wp2_with fail
          go_roundw
          case rel => exact ⟨k + 1, by omega, by go_num, by rw [HTS.out, HE.out, List.map_take]; exact HO2.out, (((HK.out.alloc _).alloc _).trans' HK2.out (fun i hi => Or.inr (hlo i (mem_blks.1 hi)).1))⟩
          case measure => simp [intOf]; omega
        · skip
          go_wp2_with (at_builtin; go_must (refine app_evs rfl _ _ rfl w.heap.size _ ((es.take k).map openEv) rfl (ownsRow_keeps HO.out (((Keeps.refl [] _).alloc _).alloc _) (by simp)) ⟨_, 0, none⟩ 1 1 [⟨6, y', m', t', -1⟩] rfl rfl (new_evc ⟨6, y', m', t', -1⟩ (by simp)) (by rw [List.length_map, List.length_take]; omega) (by have := HK.out.size; simp; omega) ?_))
          intro v2 w2 hown2 hk2 _hnil _hb
          have hlo := World.ownsRow.lt HO.out
          have HO2 := Lib.hid hown2
          have HK2 := Lib.hid hk2
          clear hown2 hk2 _hnil _hb
          go_wp2_with fail
          go_roundw
          case rel => exact ⟨k + 1, by omega, by go_num, by rw [HTS.out, HE.out, List.map_take]; exact HO2.out, (((HK.out.alloc _).alloc _).trans' HK2.out (fun i hi => Or.inr (hlo i (mem_blks.1 hi)).1))⟩
          case measure => simp [intOf]; omega
      · have HE := Lib.hid (show openEv a = a by unfold openEv; rw [if_neg hc])
        have h5 : (a.kind == 5) = false := by simp; omega
        have h6 : (a.kind == 6) = false := by simp; omega
        clear hc
        go_wp2_with (at_builtin; go_must (refine app_evs rfl _ _ rfl w.heap.size _ ((es.take k).map openEv) rfl (ownsRow_keeps HO.out (((Keeps.refl [] _).alloc _).alloc _) (by simp)) ⟨_, 0, none⟩ 1 1 [a] rfl rfl (new_evc a (by simp)) (by rw [List.length_map, List.length_take]; omega) (by have := HK.out.size; simp; omega) ?_))
        intro v2 w2 hown2 hk2 _hnil _hb
        have hlo := World.ownsRow.lt HO.out
        have HO2 := Lib.hid hown2
        have HK2 := Lib.hid hk2
        clear hown2 hk2 _hnil _hb
        go_wp2_with fail
        go_roundw
        case rel => exact ⟨k + 1, by omega, by go_num, by rw [HTS.out, HE.out, List.map_take]; exact HO2.out, (((HK.out.alloc _).alloc _).trans' HK2.out (fun i hi => Or.inr (hlo i (mem_blks.1 hi)).1))⟩
        case measure => simp [intOf]; omega
    · obtain rfl : k = n := by omega
      rw [List.take_of_length_le (by rw [L.out]; omega)] at hown
      have HO := Lib.hid hown
      have HK := Lib.hid hK
      clear hown hK
      go_wp2_with fail
      go_ret
      exact ⟨_, rfl, HO.out, HK.out⟩
end Go.Proofs.Ytefdemebmibonaa
