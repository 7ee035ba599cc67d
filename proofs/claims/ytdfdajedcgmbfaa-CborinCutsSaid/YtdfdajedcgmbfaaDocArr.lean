/-
  truchmanbook.Doc's function item: an array.
-/
import Derived.Test.YtdfdajedcgmbfaaDocLeaf
namespace Go.Tru
theorem rep_snoc (f : List Int → List Ev × List Int) : ∀ n l, rep f (n + 1) l = ((rep f n l).1 ++ (f (rep f n l).2).1, (f (rep f n l).2).2)
  | 0, l => by simp [rep]
  | n + 1, l => by
    have ih := rep_snoc f n (f l).2
    rw [rep, ih]
    simp [rep]
end Go.Tru
namespace Go.Proofs.Ytdfdajedcgmbfaa
open Go.RowKit Go.Tru

/-- what is known of item at one depth -/
def ItemAt (w0 : World) (bL bD bO bA bN bI : Nat) (o : Option Addr) (n c : Nat) (xs : List Int) (dep : Int) (k : Nat) : Prop :=
  ∀ (d : Int) (w : World) (at_ : Nat) (es : List Ev) (v : Value), d + k = dep → 0 ≤ d → DocIn w0 w bL bD bO bA bN bI o n c xs dep at_ es v → at_ ≤ es.length → es.length + 1 + 8 * (xs.drop at_).length ≤ 2000 →
    Calls Try.prog 12 #[.int .i64 d, .pointer (some ⟨bN, 0, none⟩), .pointer (some ⟨bO, 0, none⟩), .pointer (some ⟨bD, 0, none⟩), .pointer (some ⟨bI, 0, none⟩)] w (ItemPost w0 bL bD bO bA bN bI o n c xs dep es (docItem k (xs.drop at_)))

def ArrRel (w0 : World) (bL bD bO bA bN bI : Nat) (o : Option Addr) (n c : Nat) (xs : List Int) (dep : Int) (f : List Int → List Ev × List Int) (nn : Nat) (es1 : List Ev) (l1 : List Int) (i : Value) (wr : World) : Prop :=
  ∃ (j at' : Nat) (v' : Value), j ≤ nn ∧ i = .int .i64 j ∧ xs.drop at' = (rep f j l1).2 ∧ at' ≤ (es1 ++ (rep f j l1).1).length ∧ DocIn w0 wr bL bD bO bA bN bI o n c xs dep at' (es1 ++ (rep f j l1).1) v'

set_option maxHeartbeats 3200000 in
set_option maxRecDepth 100000 in
theorem ditem_arr {w0 w : World} {bL bD bO bA bN bI : Nat} {o : Option Addr} {n c : Nat} {xs : List Int} {dep : Int} {at_ : Nat} {es : List Ev} {v : Value} (d : Int) (h : DocIn w0 w bL bD bO bA bN bI o n c xs dep at_ es v) (hat : at_ ≤ es.length)
    (k : Nat) (hdk : d + ((k + 1 : Nat) : Int) = dep) (hd0 : 0 ≤ d) (hdep : dep ≤ 1000) (hpot : es.length + 1 + 8 * (xs.drop at_).length ≤ 2000) (ih : ItemAt w0 bL bD bO bA bN bI o n c xs dep k)
    (x : Nat) (hx : (nx (xs.drop at_)).1 = x) (h8 : x % 8 = 5) :
    Calls Try.prog 12 #[.int .i64 d, .pointer (some ⟨bN, 0, none⟩), .pointer (some ⟨bO, 0, none⟩), .pointer (some ⟨bD, 0, none⟩), .pointer (some ⟨bI, 0, none⟩)] w (ItemPost w0 bL bD bO bA bN bI o n c xs dep es (evArr ((x / 8 % 4 : Nat) : Int) :: (rep (docItem k) (x / 8 % 4) (nx (xs.drop at_)).2).1 ++ [evEnd], (rep (docItem k) (x / 8 % 4) (nx (xs.drop at_)).2).2)) := by
  obtain ⟨q1, q2, q3, q4, q5, q6, q7⟩ := doc_facts h
  have hnext := docNext_any h (by omega)
  have hused := nx_used (l := xs.drop at_) (by rw [hx]; omega)
  rw [hx] at hnext
  have HN := Lib.hid hnext
  have HIH := Lib.hid ih
  have HDK := Lib.hid hdk
  have hnd : ¬ dep ≤ d := by omega
  have h8' : (x : Int) % 8 = 5 := by omega
  have hn4 : (x : Int) / 8 % 4 = ((x / 8 % 4 : Nat) : Int) := by omega
  have hn3 : x / 8 % 4 ≤ 3 := by omega
  generalize x / 8 % 4 = nn at hn4 hn3 ⊢
  have HPOT := Lib.hid hpot
  have HLEN := Lib.hid (show es.length ≤ 2000 by omega)
  generalize hl1 : (nx (xs.drop at_)).2 = l1 at hused hnext HN ⊢
  have HL1 := Lib.hid hl1
  have HUSED := Lib.hid hused
  clear h hx h8 hnext ih hdk hpot hl1 hused
  go_enter Try.func12, Try.ntmps12
  go_wp2_with fail
  refine HN.out.mono ?_
  rintro e w1 ⟨rfl, h1, hdr⟩
  obtain ⟨q1, q2, q3, q4, q5, q6, q7⟩ := doc_facts h1
  have H1 := Lib.hid h1
  have HDR := Lib.hid hdr
  clear h1 hdr
  go_wp2_with (at_builtin; go_must (refine app_evs rfl _ _ rfl (bI + 1) _ _ rfl (ownsRow_keeps H1.out.own ((Keeps.refl [] _).alloc _) (by simp)) ⟨_, 0, none⟩ 1 1 [evArr (nn : Int)] rfl rfl (new_evc (evArr (nn : Int)) rfl) (by have := HLEN.out; omega) (by simp; omega) ?_))
  intro v2 w2 hown2 hk2 _hnil _hb
  obtain ⟨o2, c2, hv2⟩ := hown2.shape
  rw [List.length_append, List.length_singleton] at hv2
  subst hv2
  have hpush := H1.out.push hown2 (((Keeps.refl _ _).alloc _).trans hk2)
  have hq2 := (H1.out.out.alloc _).keeps hk2 (fun hm => by have := H1.out.blk _ hm; have := H1.out.lay.h3; have := H1.out.lay.h4; have := H1.out.lay.h5; omega)
  have q2' := hq2.cell 0
  have q3' := hq2.free 0
  have HP := Lib.hid hpush
  clear hpush hown2 hk2 _hnil _hb hq2 q2 q3
  obtain ⟨f, hf⟩ : ∃ f, f = docItem k := ⟨_, rfl⟩
  have HFF := Lib.hid hf
  have hlen := rep_len (f := docItem k) (a := 1) (docItem_len k)
  rw [← hf] at hlen ⊢
  have HRL := Lib.hid hlen
  clear hf hlen
  go_wp2_with fail
  go_loopw [8] (fun i wr => ArrRel w0 bL bD bO bA bN bI o n c xs dep f nn (es ++ [evArr (nn : Int)]) l1 i wr) (fun i _ => nn - (intOf i).toNat)
  case atStart => exact ⟨0, at_ + 1, _, Nat.zero_le _, rfl, HDR.out.symm, by simp [rep]; omega, by simpa [rep] using HP.out⟩
  case round =>
    obtain ⟨j, at', v', hj, rfl, hdrop, hat2, hD⟩ := hrel
    obtain ⟨q1, q2, q3, q4, q5, q6, q7⟩ := doc_facts hD
    have H4 := Lib.hid hD
    have hl4 := HRL.out j l1
    have hp4 := HPOT.out
    have hu4 := HUSED.out
    have HDROP := Lib.hid hdrop
    have HAT := Lib.hid hat2
    have hD' := hD
    clear hD hdrop hat2
    by_cases hlt : j < nn
    · have hcall := HIH.out (d + 1) wr at' _ v' (by have := HDK.out; omega) (by omega) hD' HAT.out (by rw [HDROP.out, List.length_append, List.length_append, List.length_singleton]; omega)
      rw [HDROP.out, ← HFF.out] at hcall
      have HCALL := Lib.hid hcall
      clear hcall hD' hl4 hp4 hu4
      go_wp2_with fail
      refine HCALL.out.mono ?_
      rintro e w5 ⟨rfl, at2, v5, hd5, ha5, h5⟩
      have HD5 := Lib.hid hd5
      have HA5 := Lib.hid ha5
      have H5 := Lib.hid h5
      clear hd5 ha5 h5
      go_wp2_with fail
      go_roundw
      case rel =>
        refine ⟨j + 1, at2, v5, by omega, by go_num, ?_, ?_, ?_⟩
        · rw [HD5.out, rep_snoc]
        · have := HA5.out; rw [rep_snoc]; simpa using this
        · have := H5.out; rw [rep_snoc]; simpa using this
      case measure => simp [intOf]; omega
    · obtain rfl : j = nn := by omega
      have hle : (es ++ [evArr (j : Int)] ++ (rep f j l1).1).length ≤ 5000 := by
        rw [List.length_append, List.length_append, List.length_singleton]; omega
      have HLE := Lib.hid hle
      clear hD' hl4 hp4 hu4 hle
      go_wp2_with (at_builtin; go_must (refine app_evs rfl _ _ rfl (bI + 1) _ _ rfl (ownsRow_keeps H4.out.own ((Keeps.refl [] _).alloc _) (by simp)) ⟨_, 0, none⟩ 1 1 [evEnd] rfl rfl (new_evc evEnd rfl) (by have := HLE.out; omega) (by simp; omega) ?_))
      intro v2 w2 hown2 hk2 _hnil _hb
      obtain ⟨o2, c2, rfl⟩ := hown2.shape
      have hpush := H4.out.push hown2 (((Keeps.refl _ _).alloc _).trans hk2)
      have hq2 := (H4.out.out.alloc _).keeps hk2 (fun hm => by have := H4.out.blk _ hm; have := H4.out.lay.h3; have := H4.out.lay.h4; have := H4.out.lay.h5; omega)
      have q2' := hq2.cell 0
      have q3' := hq2.free 0
      have HP4 := Lib.hid hpush
      clear hpush hown2 hk2 _hnil _hb hq2 q2 q3
      go_wp2_with fail
      go_end0
      have hf := HFF.out
      subst hf
      refine ⟨rfl, at', .slice o2 (es.length + ((rep (docItem k) j l1).1.length + 1 + 1)) c2, HDROP.out, ?_, ?_⟩
      · have := HAT.out
        simp only [List.length_append, List.length_cons, List.length_nil] at this ⊢
        omega
      · simpa using HP4.out
end Go.Proofs.Ytdfdajedcgmbfaa
