/-
  truchmanbook.Doc's function item: a map.
-/
import Derived.Test.YtdfdajedcgmbfaaDocArr
import Derived.Test.YtdfdajedcgmbfaaDocLeaf2
namespace Go.Proofs.Ytdfdajedcgmbfaa
open Go.RowKit Go.Tru

theorem shape3 {w : World} {base : Nat} {v : Value} {es : List Ev} (h : OwnsEvs w base v es) : ∃ a l cap, v = .slice a l cap := by
  obtain ⟨a, cap, h⟩ := h.shape
  exact ⟨a, _, cap, h⟩

theorem docPair_len (k : Nat) (l : List Int) : (docPair (docItem k) l).1.length + 8 * (docPair (docItem k) l).2.length ≤ 2 + 8 * l.length := by
  have h3 := docItem_len k (nx l).2
  have h4 := nx_len (l := l)
  simp only [docPair, List.length_cons]
  omega

set_option maxHeartbeats 3200000 in
set_option maxRecDepth 100000 in
theorem ditem_map {w0 w : World} {bL bD bO bA bN bI : Nat} {o : Option Addr} {n c : Nat} {xs : List Int} {dep : Int} {at_ : Nat} {es : List Ev} {v : Value} (d : Int) (h : DocIn w0 w bL bD bO bA bN bI o n c xs dep at_ es v) (hat : at_ ≤ es.length)
    (k : Nat) (hdk : d + ((k + 1 : Nat) : Int) = dep) (hd0 : 0 ≤ d) (hdep : dep ≤ 1000) (hpot : es.length + 1 + 8 * (xs.drop at_).length ≤ 2000) (ih : ItemAt w0 bL bD bO bA bN bI o n c xs dep k)
    (x : Nat) (hx : (nx (xs.drop at_)).1 = x) (h8 : x % 8 = 6 ∨ x % 8 = 7) :
    Calls Try.prog 12 #[.int .i64 d, .pointer (some ⟨bN, 0, none⟩), .pointer (some ⟨bO, 0, none⟩), .pointer (some ⟨bD, 0, none⟩), .pointer (some ⟨bI, 0, none⟩)] w (ItemPost w0 bL bD bO bA bN bI o n c xs dep es (evMap ((x / 8 % 3 : Nat) : Int) :: (rep (docPair (docItem k)) (x / 8 % 3) (nx (xs.drop at_)).2).1 ++ [evEnd], (rep (docPair (docItem k)) (x / 8 % 3) (nx (xs.drop at_)).2).2)) := by
  obtain ⟨q1, q2, q3, q4, q5, q6, q7⟩ := doc_facts h
  have hnext := docNext_any h (by omega)
  have hused := nx_used (l := xs.drop at_) (by rw [hx]; omega)
  rw [hx] at hnext
  have HN := Lib.hid hnext
  have HIH := Lib.hid ih
  have HDK := Lib.hid hdk
  have hnd : ¬ dep ≤ d := by omega
  have hb0 : ((x : Int) % 8 == 0) = false := by rw [beq_eq_false_iff_ne]; omega
  have hb1 : ((x : Int) % 8 == 1) = false := by rw [beq_eq_false_iff_ne]; omega
  have hb2 : ((x : Int) % 8 == 2) = false := by rw [beq_eq_false_iff_ne]; omega
  have hb3 : ((x : Int) % 8 == 3) = false := by rw [beq_eq_false_iff_ne]; omega
  have hb4 : ((x : Int) % 8 == 4) = false := by rw [beq_eq_false_iff_ne]; omega
  have hb5 : ((x : Int) % 8 == 5) = false := by rw [beq_eq_false_iff_ne]; omega
  have hn4 : (x : Int) / 8 % 3 = ((x / 8 % 3 : Nat) : Int) := by omega
  have hn3 : x / 8 % 3 ≤ 2 := by omega
  generalize x / 8 % 3 = nn at hn4 hn3 ⊢
  have HPOT := Lib.hid hpot
  have HLEN := Lib.hid (show es.length ≤ 2000 by omega)
  generalize hl1 : (nx (xs.drop at_)).2 = l1 at hused hnext HN ⊢
  have HL1 := Lib.hid hl1
  have HUSED := Lib.hid hused
  clear h hx h8 hnext ih hdk hpot hl1 hused
  go_enter Try.func12, Try.ntmps12
  go_wp2_with fail
  refine HN.out.mono ?_
  rintro e w1 ⟨rfl, h1, hdr⟩
  obtain ⟨q1, q2, q3, q4, q5, q6, q7⟩ := doc_facts h1
  have H1 := Lib.hid h1
  have HDR := Lib.hid hdr
  clear h1 hdr
  go_wp2_with (at_builtin; go_must (refine app_evs rfl _ _ rfl (bI + 1) _ _ rfl (ownsRow_keeps H1.out.own ((Keeps.refl [] _).alloc _) (by simp)) ⟨_, 0, none⟩ 1 1 [evMap (nn : Int)] rfl rfl (new_evc (evMap (nn : Int)) rfl) (by have := HLEN.out; omega) (by simp; omega) ?_))
  intro v2 w2 hown2 hk2 _hnil _hb
  obtain ⟨o2, c2, hv2⟩ := hown2.shape
  rw [List.length_append, List.length_singleton] at hv2
  subst hv2
  have hpush := H1.out.push hown2 (((Keeps.refl _ _).alloc _).trans hk2)
  have hq2 := (H1.out.out.alloc _).keeps hk2 (fun hm => by have := H1.out.blk _ hm; have := H1.out.lay.h3; have := H1.out.lay.h4; have := H1.out.lay.h5; omega)
  have q2' := hq2.cell 0
  have q3' := hq2.free 0
  have HP := Lib.hid hpush
  clear hpush hown2 hk2 _hnil _hb hq2 q2 q3
  obtain ⟨f, hf⟩ : ∃ f, f = docPair (docItem k) := ⟨_, rfl⟩
  have HFF := Lib.hid hf
  have hlen := rep_len (f := docPair (docItem k)) (a := 2) (docPair_len k)
  rw [← hf] at hlen ⊢
  have HRL := Lib.hid hlen
  clear hf hlen
  go_wp2_with fail
  go_loopw [10] (fun i wr => ArrRel w0 bL bD bO bA bN bI o n c xs dep f nn (es ++ [evMap (nn : Int)]) l1 i wr) (fun i _ => nn - (intOf i).toNat)
  case atStart => exact ⟨0, at_ + 1, _, Nat.zero_le _, rfl, HDR.out.symm, by simp [rep]; omega, by simpa [rep] using HP.out⟩
  case round =>
    obtain ⟨j, at', v', hj, rfl, hdrop, hat2, hD⟩ := hrel
    obtain ⟨q1, q2, q3, q4, q5, q6, q7⟩ := doc_facts hD
    have H4 := Lib.hid hD
    have hl4 := HRL.out j l1
    have hp4 := HPOT.out
    have hu4 := HUSED.out
    have HDROP := Lib.hid hdrop
    have HAT := Lib.hid hat2
    have hD' := hD
    clear hD hdrop hat2
    have hle : (es ++ [evMap (nn : Int)] ++ (rep f j l1).1).length ≤ 5000 := by
      rw [List.length_append, List.length_append, List.length_singleton]; omega
    have HLE := Lib.hid hle
    by_cases hlt : j < nn
    · have hnx := docNext_any (H4.out.keep0 ((Keeps.refl [] _).drew)) (by have := HAT.out; omega)
      obtain ⟨y, hy⟩ : ∃ y, (nx (xs.drop at')).1 = y := ⟨_, rfl⟩
      rw [hy] at hnx
      have HN4 := Lib.hid hnx
      have HY := Lib.hid hy
      have hnl := nx_len (l := xs.drop at')
      have hdl : (xs.drop at').length = (rep f j l1).2.length := by rw [HDROP.out]
      have HB : Hid ((es ++ [evMap (nn : Int)] ++ (rep f j l1).1 ++ [evText (docText y)]).length + 1 + 8 * (nx (xs.drop at')).2.length ≤ 2000) := Lib.hid (by
        rw [List.length_append, List.length_append, List.length_append, List.length_singleton, List.length_singleton]; omega)
      have HAT2 : Hid (at' + 1 ≤ (es ++ [evMap (nn : Int)] ++ (rep f j l1).1 ++ [evText (docText y)]).length) := Lib.hid (by
        have := HAT.out
        rw [List.length_append, List.length_singleton]; omega)
      clear hD' hl4 hp4 hu4 hle hnx hy hnl hdl
      go_wp2_with fail
      go_region_law (first | (rw [if_pos (by rfl)]; refine wp_append_evs _ _ rfl (bI + 1) v' _ rfl (ownsRow_keeps H6.out.own ((Keeps.refl [] _).alloc _) (by simp)) ⟨_, 0, none⟩ (evText (docText y)) rfl (new_evc (evText (docText y)) (by simp)) (by have := HLE.out; omega) (by simp; omega) ?_; intro v2 w2 hown2 hk2 _hb; obtain ⟨o2, l2, c2, rfl⟩ := shape3 hown2; have hpush := H6.out.push hown2 (((Keeps.refl _ _).alloc _).trans hk2); have hq2 := (H6.out.out.keeps ((Keeps.refl [] _).alloc _) (by simp)).keeps hk2 (fun hm => by have := H6.out.blk _ hm; have := H6.out.lay.h3; have := H6.out.lay.h4; have := H6.out.lay.h5; omega); have q2 := hq2.cell 0; have q3 := hq2.free 0; have HP6 := Lib.hid hpush; clear hpush hown2 hk2 _hb hq2) | (go_simp; go_at_call 13; refine (docText_any y _).mono ?_; rintro e w6 ⟨rfl, k6⟩; have H6 := Lib.hid (H5.out.keep0 k6); obtain ⟨q1, q2, q3, q4, q5, q6, q7⟩ := doc_facts H6.out; clear k6; try go_simp) | (go_simp; go_at_call 11; refine HN4.out.mono ?_; rintro e w5 ⟨rfl, h5, hdr5⟩; have H5 := Lib.hid h5; have HDR5 := Lib.hid hdr5; obtain ⟨q1, q2, q3, q4, q5, q6, q7⟩ := doc_facts H5.out; clear h5 hdr5; try go_simp))
      all_goals
        have hcall := HIH.out (d + 1) _ (at' + 1) _ _ (by have := HDK.out; omega) (by omega) HP6.out HAT2.out (by rw [← HDR5.out]; exact HB.out)
        rw [← HDR5.out] at hcall
        obtain ⟨q1, q2', q3', q4, q5, q6, q7⟩ := doc_facts HP6.out
        have HCALL := Lib.hid hcall
        clear hcall
        go_wp2_with fail
        refine HCALL.out.mono ?_
        rintro e w7 ⟨rfl, at2, v7, hd7, ha7, h7⟩
        have HD7 := Lib.hid hd7
        have HA7 := Lib.hid ha7
        have H7 := Lib.hid h7
        clear hd7 ha7 h7
        go_wp2_with fail
        go_roundw
        case rel =>
          have hff : (f (rep f j l1).2).1 = evText (docText y) :: (docItem k (nx (xs.drop at')).2).1 ∧ (f (rep f j l1).2).2 = (docItem k (nx (xs.drop at')).2).2 := by
            rw [HFF.out]
            rw [HFF.out] at HDROP
            rw [← HDROP.out]
            simp [docPair, HY.out]
          refine ⟨j + 1, at2, v7, by omega, by go_num, ?_, ?_, ?_⟩
          · rw [HD7.out, rep_snoc, hff.2]
          · have := HA7.out; rw [rep_snoc, hff.1]; simpa using this
          · have := H7.out; rw [rep_snoc, hff.1]; simpa using this
        case measure => simp [intOf]; omega
    · obtain rfl : j = nn := by omega
      clear hD' hl4 hp4 hu4 hle
      go_wp2_with (at_builtin; go_must (refine app_evs rfl _ _ rfl (bI + 1) _ _ rfl (ownsRow_keeps H4.out.own ((Keeps.refl [] _).alloc _) (by simp)) ⟨_, 0, none⟩ 1 1 [evEnd] rfl rfl (new_evc evEnd rfl) (by have := HLE.out; omega) (by simp; omega) ?_))
      intro v2 w2 hown2 hk2 _hnil _hb
      obtain ⟨o2, c2, rfl⟩ := hown2.shape
      have hpush := H4.out.push hown2 (((Keeps.refl _ _).alloc _).trans hk2)
      have hq2 := (H4.out.out.alloc _).keeps hk2 (fun hm => by have := H4.out.blk _ hm; have := H4.out.lay.h3; have := H4.out.lay.h4; have := H4.out.lay.h5; omega)
      have q2' := hq2.cell 0
      have q3' := hq2.free 0
      have HP4 := Lib.hid hpush
      clear hpush hown2 hk2 _hnil _hb hq2 q2 q3
      go_wp2_with fail
      go_end0
      have hf := HFF.out
      subst hf
      refine ⟨rfl, at', .slice o2 (es.length + ((rep (docPair (docItem k)) j l1).1.length + 1 + 1)) c2, HDROP.out, ?_, ?_⟩
      · have := HAT.out
        simp only [List.length_append, List.length_cons, List.length_nil] at this ⊢
        omega
      · simpa using HP4.out
end Go.Proofs.Ytdfdajedcgmbfaa
