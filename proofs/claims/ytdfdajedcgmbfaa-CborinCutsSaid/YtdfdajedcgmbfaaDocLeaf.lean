/-
  truchmanbook.Doc's function item: a part that is no container.
-/
import Derived.Test.YtdfdajedcgmbfaaDoc
import Derived.Test.YtdfdajedcgmbfaaCborAll
import Derived.Deep.RegionLaw
namespace Go.Proofs.Ytdfdajedcgmbfaa
open Go.RowKit Go.Tru

/-- what item leaves -/
def ItemPost (w0 : World) (bL bD bO bA bN bI : Nat) (o : Option Addr) (n c : Nat) (xs : List Int) (dep : Int) (es : List Ev) (r : List Ev × List Int) (e : Ending) (w' : World) : Prop :=
  e = .returned (.tuple #[]) ∧ ∃ (at' : Nat) (v' : Value), xs.drop at' = r.2 ∧ at' ≤ (es ++ r.1).length ∧ DocIn w0 w' bL bD bO bA bN bI o n c xs dep at' (es ++ r.1) v'

theorem doc_facts {w0 w : World} {bL bD bO bA bN bI : Nat} {o : Option Addr} {n c : Nat} {xs : List Int} {dep : Int} {at_ : Nat} {es : List Ev} {v : Value} (h : DocIn w0 w bL bD bO bA bN bI o n c xs dep at_ es v) :
    w.cell? ⟨bD, 0, none⟩ = some (.int .i64 dep) ∧ w.cell? ⟨bO, 0, none⟩ = some v ∧ w.frozen? ⟨bO, 0, none⟩ = false ∧
    w.cell? ⟨bN, 0, none⟩ = some (.func (.func 11) #[] #[.pointer (some ⟨bA, 0, none⟩), .pointer (some ⟨bL, 0, none⟩)]) ∧
    w.cell? ⟨bI, 0, none⟩ = some (.func (.func 12) #[] #[.pointer (some ⟨bN, 0, none⟩), .pointer (some ⟨bO, 0, none⟩), .pointer (some ⟨bD, 0, none⟩), .pointer (some ⟨bI, 0, none⟩)]) ∧
    bO < w.heap.size ∧ bI + 1 ≤ w.heap.size :=
  ⟨h.d.cell 0, h.out.cell 0, h.out.free 0, h.nx.cell 0, h.it.cell 0, h.out.lt, h.it.lt⟩

theorem and8 (x : Nat) (hx : x < 65536) : (bits .and .i64 (x : Int) 8 != 0) = decide (x / 8 % 2 = 1) := by
  have h1 : bits .and .i64 (x : Int) 8 = ((x &&& 8 : Nat) : Int) :=
    (bits_nat .i64 63 (by decide) (fun n h0 h1 => by rw [IntKind.wrap_i64]; omega) x 8 (by omega) (by decide)).1
  have h2 : x &&& 8 = if x.testBit 3 then 8 else 0 := by
    apply Nat.eq_of_testBit_eq
    intro i
    have h8 : (8 : Nat).testBit i = decide (3 = i) := Nat.testBit_two_pow (n := 3) (m := i)
    rw [Nat.testBit_and, h8]
    by_cases e : 3 = i
    · subst e
      cases x.testBit 3 <;> rfl
    · have h9 : (if x.testBit 3 = true then 8 else 0).testBit i = false := by
        split
        · rw [h8]; simp [e]
        · simp
      rw [h9]; simp [e]
  rw [h1, h2, Nat.testBit_eq_decide_div_mod_eq]
  have h3 : x / 2 ^ 3 = x / 8 := rfl
  rw [h3]
  cases h : decide (x / 8 % 2 = 1) <;> simp

set_option maxHeartbeats 800000 in
set_option maxRecDepth 100000 in
theorem ditem_null {w0 w : World} {bL bD bO bA bN bI : Nat} {o : Option Addr} {n c : Nat} {xs : List Int} {dep : Int} {at_ : Nat} {es : List Ev} {v : Value} (d : Int) (h : DocIn w0 w bL bD bO bA bN bI o n c xs dep at_ es v) (hat : at_ ≤ es.length) (hes : es.length ≤ 5000)
    (x : Nat) (hx : (nx (xs.drop at_)).1 = x) (h8 : x % 8 = 0) :
    Calls Try.prog 12 #[.int .i64 d, .pointer (some ⟨bN, 0, none⟩), .pointer (some ⟨bO, 0, none⟩), .pointer (some ⟨bD, 0, none⟩), .pointer (some ⟨bI, 0, none⟩)] w (ItemPost w0 bL bD bO bA bN bI o n c xs dep es ([evNull], (nx (xs.drop at_)).2)) := by
  obtain ⟨q1, q2, q3, q4, q5, q6, q7⟩ := doc_facts h
  have hnext := docNext_any h (by omega)
  rw [hx] at hnext
  have HN := Lib.hid hnext
  have h8' : (x : Int) % 8 = 0 := by omega
  clear h hx h8 hnext
  go_enter Try.func12, Try.ntmps12
  go_wp2_with fail
  refine HN.out.mono ?_
  rintro e w1 ⟨rfl, h1, hdr⟩
  obtain ⟨q1, q2, q3, q4, q5, q6, q7⟩ := doc_facts h1
  have H1 := Lib.hid h1
  have HDR := Lib.hid hdr
  clear h1 hdr
  go_wp2_with (at_builtin; go_must (refine app_evs rfl _ _ rfl (bI + 1) _ es rfl (ownsRow_keeps H1.out.own ((Keeps.refl [] _).alloc _) (by simp)) ⟨_, 0, none⟩ 1 1 [evNull] rfl rfl (new_evc evNull rfl) (by omega) (by simp; omega) ?_))
  intro v2 w2 hown2 hk2 _hnil _hb
  obtain ⟨o2, c2, hv2⟩ := hown2.shape
  rw [List.length_append, List.length_singleton] at hv2
  subst hv2
  have hpush := H1.out.push hown2 (((Keeps.refl _ _).alloc _).trans hk2)
  have hq2 := (H1.out.out.alloc _).keeps hk2 (fun hm => by have := H1.out.blk _ hm; have := H1.out.lay.h3; have := H1.out.lay.h4; have := H1.out.lay.h5; omega)
  have q2' := hq2.cell 0
  have q3' := hq2.free 0
  have HP := Lib.hid hpush
  clear hpush hown2 hk2 _hnil _hb hq2 q2 q3
  go_wp2_with fail
  go_end0
  exact ⟨rfl, at_ + 1, _, HDR.out.symm, by simp; omega, HP.out⟩
set_option maxHeartbeats 800000 in
set_option maxRecDepth 100000 in
theorem ditem_bool {w0 w : World} {bL bD bO bA bN bI : Nat} {o : Option Addr} {n c : Nat} {xs : List Int} {dep : Int} {at_ : Nat} {es : List Ev} {v : Value} (d : Int) (h : DocIn w0 w bL bD bO bA bN bI o n c xs dep at_ es v) (hat : at_ ≤ es.length) (hes : es.length ≤ 5000)
    (x : Nat) (hx : (nx (xs.drop at_)).1 = x) (h8 : x % 8 = 1) :
    Calls Try.prog 12 #[.int .i64 d, .pointer (some ⟨bN, 0, none⟩), .pointer (some ⟨bO, 0, none⟩), .pointer (some ⟨bD, 0, none⟩), .pointer (some ⟨bI, 0, none⟩)] w (ItemPost w0 bL bD bO bA bN bI o n c xs dep es ([evBool (decide (x / 8 % 2 = 1))], (nx (xs.drop at_)).2)) := by
  obtain ⟨q1, q2, q3, q4, q5, q6, q7⟩ := doc_facts h
  have hnext := docNext_any h (by omega)
  rw [hx] at hnext
  have HN := Lib.hid hnext
  have h8' : (x : Int) % 8 = 1 := by omega
  have hyes : (bits .and .i64 (x : Int) 8 != 0) = decide (x / 8 % 2 = 1) := and8 x (by have := nx_small (xs.drop at_); omega)
  generalize decide (x / 8 % 2 = 1) = y at hyes ⊢
  clear h hx h8 hnext
  go_enter Try.func12, Try.ntmps12
  go_wp2_with fail
  refine HN.out.mono ?_
  rintro e w1 ⟨rfl, h1, hdr⟩
  obtain ⟨q1, q2, q3, q4, q5, q6, q7⟩ := doc_facts h1
  have H1 := Lib.hid h1
  have HDR := Lib.hid hdr
  clear h1 hdr
  go_wp2_with (at_builtin; go_must (refine app_evs rfl _ _ rfl (bI + 1) _ es rfl (ownsRow_keeps H1.out.own ((Keeps.refl [] _).alloc _) (by simp)) ⟨_, 0, none⟩ 1 1 [evBool y] rfl rfl (new_evc (evBool y) rfl) (by omega) (by simp; omega) ?_))
  intro v2 w2 hown2 hk2 _hnil _hb
  obtain ⟨o2, c2, hv2⟩ := hown2.shape
  rw [List.length_append, List.length_singleton] at hv2
  subst hv2
  have hpush := H1.out.push hown2 (((Keeps.refl _ _).alloc _).trans hk2)
  have hq2 := (H1.out.out.alloc _).keeps hk2 (fun hm => by have := H1.out.blk _ hm; have := H1.out.lay.h3; have := H1.out.lay.h4; have := H1.out.lay.h5; omega)
  have q2' := hq2.cell 0
  have q3' := hq2.free 0
  have HP := Lib.hid hpush
  clear hpush hown2 hk2 _hnil _hb hq2 q2 q3
  go_wp2_with fail
  go_end0
  exact ⟨rfl, at_ + 1, _, HDR.out.symm, by simp; omega, HP.out⟩
set_option maxHeartbeats 800000 in
set_option maxRecDepth 100000 in
theorem ditem_text0 {w0 w : World} {bL bD bO bA bN bI : Nat} {o : Option Addr} {n c : Nat} {xs : List Int} {dep : Int} {at_ : Nat} {es : List Ev} {v : Value} (d : Int) (h : DocIn w0 w bL bD bO bA bN bI o n c xs dep at_ es v) (hat : at_ ≤ es.length) (hes : es.length ≤ 5000)
    (x : Nat) (hx : (nx (xs.drop at_)).1 = x) (h8 : x % 8 = 5) (hd : dep ≤ d) :
    Calls Try.prog 12 #[.int .i64 d, .pointer (some ⟨bN, 0, none⟩), .pointer (some ⟨bO, 0, none⟩), .pointer (some ⟨bD, 0, none⟩), .pointer (some ⟨bI, 0, none⟩)] w (ItemPost w0 bL bD bO bA bN bI o n c xs dep es ([evText noText], (nx (xs.drop at_)).2)) := by
  obtain ⟨q1, q2, q3, q4, q5, q6, q7⟩ := doc_facts h
  have hnext := docNext_any h (by omega)
  rw [hx] at hnext
  have HN := Lib.hid hnext
  have h8' : (x : Int) % 8 = 5 := by omega
  clear h hx h8 hnext
  go_enter Try.func12, Try.ntmps12
  go_wp2_with fail
  refine HN.out.mono ?_
  rintro e w1 ⟨rfl, h1, hdr⟩
  obtain ⟨q1, q2, q3, q4, q5, q6, q7⟩ := doc_facts h1
  have H1 := Lib.hid h1
  have HDR := Lib.hid hdr
  clear h1 hdr
  go_wp2_with (at_builtin; go_must (refine app_evs rfl _ _ rfl (bI + 1) _ es rfl (ownsRow_keeps H1.out.own ((Keeps.refl [] _).alloc _) (by simp)) ⟨_, 0, none⟩ 1 1 [evText noText] rfl rfl (new_evc (evText noText) rfl) (by omega) (by simp; omega) ?_))
  intro v2 w2 hown2 hk2 _hnil _hb
  obtain ⟨o2, c2, hv2⟩ := hown2.shape
  rw [List.length_append, List.length_singleton] at hv2
  subst hv2
  have hpush := H1.out.push hown2 (((Keeps.refl _ _).alloc _).trans hk2)
  have hq2 := (H1.out.out.alloc _).keeps hk2 (fun hm => by have := H1.out.blk _ hm; have := H1.out.lay.h3; have := H1.out.lay.h4; have := H1.out.lay.h5; omega)
  have q2' := hq2.cell 0
  have q3' := hq2.free 0
  have HP := Lib.hid hpush
  clear hpush hown2 hk2 _hnil _hb hq2 q2 q3
  go_wp2_with fail
  go_end0
  exact ⟨rfl, at_ + 1, _, HDR.out.symm, by simp; omega, HP.out⟩
set_option maxHeartbeats 800000 in
set_option maxRecDepth 100000 in
theorem ditem_int0 {w0 w : World} {bL bD bO bA bN bI : Nat} {o : Option Addr} {n c : Nat} {xs : List Int} {dep : Int} {at_ : Nat} {es : List Ev} {v : Value} (d : Int) (h : DocIn w0 w bL bD bO bA bN bI o n c xs dep at_ es v) (hat : at_ ≤ es.length) (hes : es.length ≤ 5000)
    (x : Nat) (hx : (nx (xs.drop at_)).1 = x) (h8 : x % 8 = 6 ∨ x % 8 = 7) (hd : dep ≤ d) :
    Calls Try.prog 12 #[.int .i64 d, .pointer (some ⟨bN, 0, none⟩), .pointer (some ⟨bO, 0, none⟩), .pointer (some ⟨bD, 0, none⟩), .pointer (some ⟨bI, 0, none⟩)] w (ItemPost w0 bL bD bO bA bN bI o n c xs dep es ([evInt false x], (nx (xs.drop at_)).2)) := by
  obtain ⟨q1, q2, q3, q4, q5, q6, q7⟩ := doc_facts h
  have hnext := docNext_any h (by omega)
  rw [hx] at hnext
  have HN := Lib.hid hnext
  have hxs : x < 65536 := by have := nx_small (xs.drop at_); omega
  have hwr : IntKind.u64.wrap (x : Int) = (x : Int) := by rw [IntKind.wrap_u64]; omega
  have h8' : (x : Int) % 8 = 6 ∨ (x : Int) % 8 = 7 := by omega
  clear h hx h8 hnext
  rcases h8' with h8' | h8'
  all_goals
    go_enter Try.func12, Try.ntmps12
    go_wp2_with fail
    refine HN.out.mono ?_
    rintro e w1 ⟨rfl, h1, hdr⟩
    obtain ⟨q1, q2, q3, q4, q5, q6, q7⟩ := doc_facts h1
    have H1 := Lib.hid h1
    have HDR := Lib.hid hdr
    clear h1 hdr
    go_wp2_with (at_builtin; go_must (refine app_evs rfl _ _ rfl (bI + 1) _ es rfl (ownsRow_keeps H1.out.own ((Keeps.refl [] _).alloc _) (by simp)) ⟨_, 0, none⟩ 1 1 [evInt false x] rfl rfl (new_evc (evInt false x) rfl) (by omega) (by simp; omega) ?_))
    intro v2 w2 hown2 hk2 _hnil _hb
    obtain ⟨o2, c2, hv2⟩ := hown2.shape
    rw [List.length_append, List.length_singleton] at hv2
    subst hv2
    have hpush := H1.out.push hown2 (((Keeps.refl _ _).alloc _).trans hk2)
    have hq2 := (H1.out.out.alloc _).keeps hk2 (fun hm => by have := H1.out.blk _ hm; have := H1.out.lay.h3; have := H1.out.lay.h4; have := H1.out.lay.h5; omega)
    have q2' := hq2.cell 0
    have q3' := hq2.free 0
    have HP := Lib.hid hpush
    clear hpush hown2 hk2 _hnil _hb hq2 q2 q3
    go_wp2_with fail
    go_end0
    exact ⟨rfl, at_ + 1, _, HDR.out.symm, by simp; omega, HP.out⟩
end Go.Proofs.Ytdfdajedcgmbfaa
