/-
  utf.Runes: its contract.
-/
import Derived.Test.YtigajmfadfinpaaUtfPlain
import Derived.Test.YtigajmfadfinpaaUtfValid
import Derived.Lib.OthersKept
namespace Go.Tru
open Go.RowKit

theorem get_list (s : ByteArray) (i : Nat) : s.get! i = s.data.toList.getD i 0 := by
  show s.data[i]! = _
  simp [getElem!_def, List.getD, Array.getElem?_toList]
  rfl

theorem decode_enc {s : ByteArray} {pos : Nat} {r : Int} {t : List UInt8} (hr : isRune r) (h : s.data.toList.drop pos = enc r ++ t) : Utf8.decode s pos = (r.toNat, (enc r).length) := by
  have hg : ∀ k, k < (enc r).length → s.get! (pos + k) = (enc r).getD k 0 := by
    intro k hk
    have e : (s.data.toList.drop pos)[k]? = (enc r)[k]? := by rw [h, List.getElem?_append_left hk]
    rw [List.getElem?_drop] at e
    rw [get_list, List.getD, List.getD, e]
  have hsz : pos + (enc r).length ≤ s.size := by
    have e := congrArg List.length h
    rw [List.length_drop, List.length_append, Array.length_toList] at e
    have hl := (enc_len (r := r)).1
    show _ ≤ s.data.size
    omega
  rcases enc_cases hr with ⟨h1, a, ha, he⟩ | ⟨h1, h2, a, b, ha, hb, he⟩ | ⟨h1, h2, a, b, d, ha, hb, hd, he⟩ | ⟨h1, a, b, d, f, ha, hb, hd, hf, he⟩
  all_goals
    rw [he] at hg hsz ⊢
    simp only [List.length_cons, List.length_nil] at hg hsz ⊢
    unfold isRune at hr
    have g0 := hg 0 (by omega)
    simp only [List.getD_cons_zero] at g0
    unfold Utf8.decode
  · simp only [g0]
    rw [if_pos (by omega)]
    exact Prod.ext (by simp only []; omega) rfl
  · have g1 := hg 1 (by omega)
    simp only [List.getD_cons_succ, List.getD_cons_zero] at g1
    simp only [g0, g1]
    rw [if_neg (by omega), if_pos (by simp; omega), if_pos (by omega)]
    exact Prod.ext (by simp only []; omega) rfl
  · have g1 := hg 1 (by omega)
    have g2 := hg 2 (by omega)
    simp only [List.getD_cons_succ, List.getD_cons_zero] at g1 g2
    simp only [g0, g1, g2]
    rw [if_neg (by omega), if_neg (by simp; omega), if_pos (by simp; omega), if_pos (by simp [Utf8.valid]; omega)]
    exact Prod.ext (by simp only []; omega) rfl
  · have g1 := hg 1 (by omega)
    have g2 := hg 2 (by omega)
    have g3 := hg 3 (by omega)
    simp only [List.getD_cons_succ, List.getD_cons_zero] at g1 g2 g3
    simp only [g0, g1, g2, g3]
    rw [if_neg (by omega), if_neg (by simp; omega), if_neg (by simp; omega), if_pos (by simp; omega), if_pos (by simp [Utf8.valid]; omega)]
    exact Prod.ext (by simp only []; omega) rfl

theorem flat_len (l : List Int) : l.length ≤ (l.flatMap enc).length := by
  induction l with
  | nil => exact Nat.le_refl _
  | cons x l ih => have := (enc_len (r := x)).1; rw [List.flatMap_cons, List.length_append, List.length_cons]; omega

theorem flat_take {rs : List Int} {k : Nat} (h : k < rs.length) : (rs.take (k + 1)).flatMap enc = (rs.take k).flatMap enc ++ enc rs[k] := by
  rw [List.take_succ_eq_append_getElem h, List.flatMap_append, List.flatMap_cons, List.flatMap_nil, List.append_nil]

theorem flat_cut {rs : List Int} {k : Nat} (h : k < rs.length) : rs.flatMap enc = (rs.take k).flatMap enc ++ (enc rs[k] ++ (rs.drop (k + 1)).flatMap enc) := by
  conv => lhs; rw [← List.take_append_drop (k + 1) rs]
  rw [List.flatMap_append, flat_take h, List.append_assoc]

theorem own_iter {w : World} {B : Nat} {e : TypeId} {z : Nat} {v : Value} {n : Nat} {xs : List Value} (h : w.ownsRow B e z v n xs) {b : Nat} {s : ByteArray} {p : Nat} (hb : w.heap[b]? = some (.stringIter s p)) : v.ownBlock ≠ some b := by
  rcases h.2 with ⟨rfl, _⟩ | ⟨g, cap, cur, rfl, _, hg, _⟩
  · simp [Value.ownBlock]
  · simp only [Value.ownBlock, ne_eq, Option.some.injEq]
    intro e
    subst e
    rw [hg] at hb; cases hb

theorem Keeps.iterAt {F : List Nat} {a w : World} (h : Keeps F a w) {k : Nat} (hk : a.heap.size ≤ k) (s : ByteArray) (pos : Nat) : Keeps F a (w.iterAt k s pos) :=
  ⟨h.os, h.tape, h.output, by rw [Lib.iterAt_size]; exact h.size, fun i hi hF => by
    show (w.heap.setIfInBounds k _)[i]? = _
    rw [Array.getElem?_setIfInBounds, if_neg (by omega)]
    exact h.block i hi hF⟩

end Go.Tru

namespace Go.Proofs.Ytigajmfadfinpaa
open Go.RowKit Go.Tru

theorem info_int : (Try.prog.info? 3).map (fun i => (i.zero, i.size, i.bytes)) = some (some (.int .i64 0), 1, 8) := by kernel_rfl

/-- a new slice of these numbers; nil just if there are none -/
def NewInts (w : World) (xs : List Int) (e : Ending) (w' : World) : Prop :=
  ∃ v, e = .returned v ∧ w'.ownsRow w.heap.size 3 1 v xs.length (xs.map (Value.int .i64)) ∧ Keeps [] w w' ∧ (v = .slice none 0 0 ↔ xs = [])

theorem ints_some {w : World} {B : Nat} {v : Value} {xs : List Int} (h : w.ownsRow B 3 1 v xs.length (xs.map (Value.int .i64))) (hx : xs ≠ []) :
    ∃ g cap, v = .slice (some ⟨g, 0, none⟩) xs.length cap ∧ B ≤ g ∧ ∀ i x, xs[i]? = some x → w.cell? ⟨g, i, none⟩ = some (.int .i64 x) := by
  rcases h.2 with ⟨h1, h2⟩ | ⟨g, cap, cur, rfl, hb, hg, _⟩
  · exact absurd (List.length_eq_zero_iff.1 h2) hx
  · refine ⟨g, cap, rfl, hb, fun i x hi => ?_⟩
    have hl : i < xs.length := (List.getElem?_eq_some_iff.1 hi).1
    rw [h.cellAt i (by omega)]
    simp [hi]

theorem runes_no (s : ByteArray) (w : World) (hs : s.size ≤ maxLen) (h : utf8 s.data.toList = false) :
    Calls Try.prog 13 #[.string s] w fun e w' => e = .returned (.slice none 0 0) ∧ Keeps [] w w' := by
  go_enter Try.func13, Try.ntmps13
  go_wp2_with fail
  refine (valid_any s _ hs).mono ?_
  rintro e w1 ⟨rfl, k1⟩
  rw [h]
  have K1 := Lib.hid k1
  clear k1 h
  go_wp2_with fail
  go_ret
  exact ⟨rfl, K1.out⟩

/-- so many runes are told -/
def RunesRel (s : ByteArray) (rs : List Int) (B b : Nat) (w : World) (v : Value) (wr : World) : Prop :=
  ∃ (k : Nat) (t : List Int), rs = rs.take k ++ t ∧ k ≤ rs.length ∧ wr.heap[b]? = some (.stringIter s ((rs.take k).flatMap enc).length) ∧
    wr.ownsRow B 3 1 v k ((rs.take k).map (Value.int .i64)) ∧ Keeps [] w wr ∧ (v = .slice none 0 0 ↔ k = 0)

set_option maxHeartbeats 800000 in
theorem runes_yes (s : ByteArray) (rs : List Int) (hr : ∀ r ∈ rs, isRune r) (he : s.data.toList = rs.flatMap enc) (w : World) (hs : s.size ≤ 1099511627776) :
    Calls Try.prog 13 #[.string s] w (NewInts w rs) := by
  have hsz : s.size = (rs.flatMap enc).length := by rw [← he, Array.length_toList]; rfl
  have hut : utf8 s.data.toList = true := by rw [he]; exact utf8_flat hr
  obtain ⟨i0, hi, hz0, hz1, hz2⟩ := info_parts info_int
  have hl : rs.length ≤ 1099511627776 := by have := flat_len rs; omega
  have HE := Lib.hid he
  have HR := Lib.hid hr
  have HS := Lib.hid hsz
  clear he hr
  go_enter Try.func13, Try.ntmps13
  go_wp2_with fail
  refine (valid_any s _ (by unfold maxLen; omega)).mono ?_
  rintro e w1 ⟨rfl, k1⟩
  rw [hut]
  have K1 := Lib.hid k1
  have b1 := k1.size
  clear k1 hut hsz
  go_wp2_with fail
  go_loopw [3] (fun v wr => RunesRel s rs w.heap.size w1.heap.size w v wr) (fun _ wr => s.size - wr.iterPos w1.heap.size)
  case atStart => exact ⟨0, rs, by simp, Nat.zero_le _, World.iter_heap w1 s 0, World.ownsRow_nil _ _ _ _, K1.out.alloc _, by simp⟩
  case round =>
    obtain ⟨k, t, hk, hle, hit, hown, hK, hnil⟩ := hrel
    have hne := own_iter hown hit
    by_cases hlt : k < rs.length
    · have hmem : rs[k] ∈ rs := List.getElem_mem hlt
      have hrune := HR.out _ hmem
      have hcut := flat_cut hlt
      have hdrop : s.data.toList.drop ((rs.take k).flatMap enc).length = enc rs[k] ++ (rs.drop (k + 1)).flatMap enc := by
        rw [HE.out, hcut, List.drop_left]
      have hdec := decode_enc hrune hdrop
      have he1 := (enc_len (r := rs[k])).1
      have hp : ((rs.take k).flatMap enc).length < s.size := by
        rw [HS.out, hcut, List.length_append, List.length_append]; omega
      have hnx : ∀ ty, (Instr.next (.pointer (some ⟨w1.heap.size, 0, none⟩)) true ty).run Try.prog wr = _ := fun ty => Lib.run_next_any_at wr w1.heap.size s _ ty hit hp
      rw [hdec] at hnx
      have hpos : ((rs.take k).flatMap enc).length + (enc rs[k]).length = ((rs.take (k + 1)).flatMap enc).length := by rw [flat_take hlt, List.length_append]
      simp only [hpos] at hnx
      have hint : ((rs[k].toNat : Nat) : Int) = rs[k] := by unfold isRune at hrune; omega
      rw [hint] at hnx
      have hb1 : 0 ≤ rs[k] := by unfold isRune at hrune; omega
      have hb2 : rs[k] ≤ 1114111 := by unfold isRune at hrune; omega
      have hown2 : (wr.iterAt w1.heap.size s ((rs.take (k + 1)).flatMap enc).length).ownsRow w.heap.size 3 1 _ _ _ :=
        hown.kept (row := some w1.heap.size) ⟨rfl, rfl, rfl, by rw [Lib.iterAt_size]; exact Nat.le_refl _, fun i _ hi => Lib.iterAt_other wr w1.heap.size i s _ (fun e => hi (by rw [e]))⟩ (Or.inr hne)
      have hit2 := Lib.iterAt_heap wr w1.heap.size s _ ((rs.take (k + 1)).flatMap enc).length hit
      have hK2 : Keeps [] w (wr.iterAt w1.heap.size s ((rs.take (k + 1)).flatMap enc).length) := hK.iterAt b1 s _
      have hmap : (rs.take (k + 1)).map (Value.int .i64) = (rs.take k).map (Value.int .i64) ++ [.int .i64 rs[k]] := by
        rw [List.take_succ_eq_append_getElem hlt, List.map_append]; rfl
      have hle2 : ((rs.take k).flatMap enc).length < ((rs.take (k + 1)).flatMap enc).length := by omega
      have hitp := congrArg (fun o : Option Obj => match o with | some (.stringIter _ p) => p | _ => 0) hit
      generalize hW2 : wr.iterAt w1.heap.size s ((rs.take (k + 1)).flatMap enc).length = W2 at *
      have hpm : wr.iterPos w1.heap.size = ((rs.take k).flatMap enc).length := by unfold World.iterPos; exact hitp
      generalize ((rs.take k).flatMap enc).length = pk at *
      generalize hp1 : ((rs.take (k + 1)).flatMap enc).length = pk1 at *
      generalize hx : rs[k] = x at *
      have hW3 := hK2.size
      have hlt2 := lt_of_block hit2
      have HM := Lib.hid hmap
      have HN := Lib.hid hne
      have HT := Lib.hid hnil
      have HK := Lib.hid hK2
      have HP := Lib.hid hp1
      have HI := Lib.hid hit2
      have HPM := Lib.hid hpm
      clear hmap hne hcut hnil hK hk hit hdrop hdec hpos hint hrune hmem hx hW2 hit2 hK2 hp1 hitp hown hpm
      go_wp2_with (at_builtin; go_must (refine wpList_append_own _ rfl _ _ 39 rfl w.heap.size 3 i0 (.int .i64 0) 1 8 Try.underlying39 hi hz0 hz1 hz2 rfl (by decide) _ _ _ rfl (hown2.alloc _) ⟨W2.heap.size, 0, none⟩ 1 1 [.int .i64 x] rfl rfl (cell_one_new _ _ _) (by intro u hu; simp at hu; subst hu; rfl) (by unfold maxLen; omega) (by omega) (by rw [World.size_alloc]; omega) ?_))
      intro v' w2 hown3 hgrow hnil'
      have HO := Lib.hid hown3
      have HG := Lib.hid hgrow
      have HL := Lib.hid hnil'
      have hown2' := hown2.lt
      clear hown3 hgrow hnil' hown2
      go_wp2_with fail
      go_roundw
      case rel =>
        refine ⟨k + 1, rs.drop (k + 1), (List.take_append_drop _ _).symm, by omega, ?_, ?_, ?_, ?_⟩
        · rw [HP.out]
          have h1 := HG.out.block w1.heap.size (by simp; omega) (fun e => HN.out e.symm)
          rw [h1]
          exact (Below.heap_alloc _ _ _ hlt2).trans HI.out
        · rw [HM.out, List.map_take]
          exact HO.out
        · exact (HK.out.alloc _).grown HG.out (fun i hi => Or.inr (hown2' i hi).1)
        · exact ⟨fun h => absurd h HL.out, fun h => by omega⟩
      case measure =>
        have h1 := HG.out.block w1.heap.size (by simp; omega) (fun e => HN.out e.symm)
        have h2 : (W2.alloc (.cells #[.int .i64 x] 3)).heap[w1.heap.size]? = some (.stringIter s pk1) := (Below.heap_alloc _ _ _ hlt2).trans HI.out
        have h3 : w2.iterPos w1.heap.size = pk1 := by simp [World.iterPos, h1, h2]
        rw [h3, HPM.out]; omega
    · obtain rfl : k = rs.length := by omega
      rw [List.take_length] at hit hown
      have hnx : ∀ ty, (Instr.next (.pointer (some ⟨w1.heap.size, 0, none⟩)) true ty).run Try.prog wr = _ := fun ty => Lib.run_next_end_at wr w1.heap.size s _ ty hit (by rw [HS.out]; omega)
      have HO := Lib.hid hown
      have HN := Lib.hid hnil
      have HK := Lib.hid hK
      clear hit hown hnil hK hk hne
      go_wp2_with fail
      go_ret
      refine ⟨_, rfl, HO.out, HK.out, ?_⟩
      simp only [Array.getD_eq_getD_getElem?]
      refine Iff.trans HN.out ?_
      simp
end Go.Proofs.Ytigajmfadfinpaa
