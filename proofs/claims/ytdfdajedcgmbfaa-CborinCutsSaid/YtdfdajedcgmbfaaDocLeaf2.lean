/-
  truchmanbook.Doc's function item: a number, a text.
-/
import Derived.Test.YtdfdajedcgmbfaaDocLeaf
namespace Go.Proofs.Ytdfdajedcgmbfaa
open Go.RowKit Go.Tru

/-- append of one part, within a region that draws its order -/
theorem wp_append_evs {o : Oper} {a : Act} {w : World} {K : Act → World → Prop} {Q : Exit → Act → World → Prop} (s x : Operand)
    (ho : o.op = .call { callee := .builtin .append, args := #[s, x], argTypes := #[24, 24] })
    (base : Nat) (v : Value) (es : List Ev) (hs : a.eval s = v) (hown : OwnsEvs w base v es) (ad : Addr) (e : Ev) (hx : a.eval x = .slice (some ad) 1 1)
    (hnews : ∀ (j : Nat) (u : Value), ([e].flatMap Ev.cells)[j]? = some u → w.cell? (ad.add j) = some u) (hlen : es.length ≤ 1000000) (hbase : base ≤ w.heap.size)
    (h : ∀ v' w', OwnsEvs w' base v' (es ++ [e]) → Keeps (blks v) w w' → (v'.ownBlock = v.ownBlock ∨ v'.ownBlock = some w.heap.size) → K (a.put o.dst v') w') : Oper.wp Try.prog o a w K Q := by
  obtain ⟨i0, hi, hz0, hz1, hz2⟩ := info_parts info_ev
  obtain ⟨v', w', hr, h2, h3, _, h5⟩ := run_append_own_at (P := Try.prog) w base 24 o.type 36 i0 (.agg #[.int .i64 0, .bool false, .int .u64 0, .string ⟨#[]⟩, .int .i64 0]) 5 48 Try.underlying24 hi hz0 hz1 hz2 rfl (by decide) v es.length (es.flatMap Ev.cells) hown ad 1 1 ([e].flatMap Ev.cells) rfl hnews (ev_one [e]) (by unfold maxLen; omega) (by omega) hbase
  unfold Oper.wp execOp
  simp only [ho, resolve, invoke, builtin, Sem.run_bind, Sem.run_pure, Result.andThen_ok, List.map_toArray, List.map_cons, List.map_nil, hs, hx, hr]
  refine h v' w' ?_ (keeps_grown h3) h5
  unfold OwnsEvs
  rw [List.length_append, List.flatMap_append]
  exact h2

set_option maxHeartbeats 1600000 in
set_option maxRecDepth 100000 in
theorem ditem_int {w0 w : World} {bL bD bO bA bN bI : Nat} {o : Option Addr} {n c : Nat} {xs : List Int} {dep : Int} {at_ : Nat} {es : List Ev} {v : Value} (d : Int) (h : DocIn w0 w bL bD bO bA bN bI o n c xs dep at_ es v) (hat : at_ ≤ es.length) (hes : es.length ≤ 5000)
    (x : Nat) (hx : (nx (xs.drop at_)).1 = x) (h8 : x % 8 = 2 ∨ x % 8 = 3) :
    Calls Try.prog 12 #[.int .i64 d, .pointer (some ⟨bN, 0, none⟩), .pointer (some ⟨bO, 0, none⟩), .pointer (some ⟨bD, 0, none⟩), .pointer (some ⟨bI, 0, none⟩)] w (ItemPost w0 bL bD bO bA bN bI o n c xs dep es ([evInt (decide (x / 8 % 2 = 1)) (((x * x) >>> (x % 8) : Nat) : Int)], (nx (xs.drop at_)).2)) := by
  obtain ⟨q1, q2, q3, q4, q5, q6, q7⟩ := doc_facts h
  have hnext := docNext_any h (by omega)
  rw [hx] at hnext
  have HN := Lib.hid hnext
  have hxs : x < 65536 := by have := nx_small (xs.drop at_); omega
  have hyes : (bits .and .i64 (x : Int) 8 != 0) = decide (x / 8 % 2 = 1) := and8 x hxs
  have h7 : bits .and .i64 (x : Int) 7 = ((x % 8 : Nat) : Int) := by rw [i64_and7]; omega
  have hwr : IntKind.u64.wrap (x : Int) = (x : Int) := by rw [IntKind.wrap_u64]; omega
  have hxx : x * x < 4294967296 := Nat.mul_lt_mul'' hxs hxs
  have hxx2 : (x : Int) * (x : Int) = ((x * x : Nat) : Int) := by simp
  have hwr2 : IntKind.u64.wrap ((x : Int) * (x : Int)) = ((x * x : Nat) : Int) := by rw [hxx2, IntKind.wrap_u64]; omega
  have hm : (((x * x) >>> (x % 8) : Nat) : Int) = ((x * x : Nat) : Int) / ((2 ^ (x % 8) : Nat) : Int) := by
    rw [Nat.shiftRight_eq_div_pow, Int.natCast_ediv]
  have hb7 : x % 8 ≤ 7 := by omega
  rw [hm]
  generalize decide (x / 8 % 2 = 1) = y at hyes ⊢
  rcases h8 with h8 | h8
  · have h8' : (x : Int) % 8 = 2 := by omega
    rw [h8]
    rw [show ((2 ^ 2 : Nat) : Int) = 4 from rfl]
    generalize x * x = xx at hwr2 hxx ⊢
    have HXX := Lib.hid hxx
    clear h hx h8 hnext hxx hxx2 hm
    go_enter Try.func12, Try.ntmps12
    go_wp2_with fail
    refine HN.out.mono ?_
    rintro e w1 ⟨rfl, h1, hdr⟩
    obtain ⟨q1, q2, q3, q4, q5, q6, q7⟩ := doc_facts h1
    have H1 := Lib.hid h1
    have HDR := Lib.hid hdr
    clear h1 hdr
    go_wp2_with fail
    go_region_law (rw [if_pos (by rfl)]; refine wp_append_evs _ _ rfl (bI + 1) v es rfl (ownsRow_keeps H1.out.own (((Keeps.refl [] _).drew).alloc _) (by simp)) ⟨_, 0, none⟩ (evInt y (↑xx / 4)) rfl (new_evc (evInt y (↑xx / 4)) (by simp)) (by omega) (by simp; omega) ?_; intro v2 w2 hown2 hk2 _hb; obtain ⟨o2, c2, hv2⟩ := hown2.shape; rw [List.length_append, List.length_singleton] at hv2; subst hv2; have hpush := H1.out.push hown2 ((((Keeps.refl _ _).drew).alloc _).trans hk2); have hq2 := (H1.out.out.keeps (((Keeps.refl [] _).drew).alloc _) (by simp)).keeps hk2 (fun hm => by have := H1.out.blk _ hm; have := H1.out.lay.h3; have := H1.out.lay.h4; have := H1.out.lay.h5; omega); have q2 := hq2.cell 0; have q3 := hq2.free 0; have HP := Lib.hid hpush; clear hpush hown2 hk2 _hb hq2)
    all_goals
      go_wp2_with fail
      go_end0
      exact ⟨rfl, at_ + 1, _, HDR.out.symm, by simp; omega, HP.out⟩
  · have h8' : (x : Int) % 8 = 3 := by omega
    rw [h8]
    rw [show ((2 ^ 3 : Nat) : Int) = 8 from rfl]
    generalize x * x = xx at hwr2 hxx ⊢
    have HXX := Lib.hid hxx
    clear h hx h8 hnext hxx hxx2 hm
    go_enter Try.func12, Try.ntmps12
    go_wp2_with fail
    refine HN.out.mono ?_
    rintro e w1 ⟨rfl, h1, hdr⟩
    obtain ⟨q1, q2, q3, q4, q5, q6, q7⟩ := doc_facts h1
    have H1 := Lib.hid h1
    have HDR := Lib.hid hdr
    clear h1 hdr
    go_wp2_with fail
    go_region_law (rw [if_pos (by rfl)]; refine wp_append_evs _ _ rfl (bI + 1) v es rfl (ownsRow_keeps H1.out.own (((Keeps.refl [] _).drew).alloc _) (by simp)) ⟨_, 0, none⟩ (evInt y (↑xx / 8)) rfl (new_evc (evInt y (↑xx / 8)) (by simp)) (by omega) (by simp; omega) ?_; intro v2 w2 hown2 hk2 _hb; obtain ⟨o2, c2, hv2⟩ := hown2.shape; rw [List.length_append, List.length_singleton] at hv2; subst hv2; have hpush := H1.out.push hown2 ((((Keeps.refl _ _).drew).alloc _).trans hk2); have hq2 := (H1.out.out.keeps (((Keeps.refl [] _).drew).alloc _) (by simp)).keeps hk2 (fun hm => by have := H1.out.blk _ hm; have := H1.out.lay.h3; have := H1.out.lay.h4; have := H1.out.lay.h5; omega); have q2 := hq2.cell 0; have q3 := hq2.free 0; have HP := Lib.hid hpush; clear hpush hown2 hk2 _hb hq2)
    all_goals
      go_wp2_with fail
      go_end0
      exact ⟨rfl, at_ + 1, _, HDR.out.symm, by simp; omega, HP.out⟩

set_option maxHeartbeats 1600000 in
set_option maxRecDepth 100000 in
theorem ditem_text {w0 w : World} {bL bD bO bA bN bI : Nat} {o : Option Addr} {n c : Nat} {xs : List Int} {dep : Int} {at_ : Nat} {es : List Ev} {v : Value} (d : Int) (h : DocIn w0 w bL bD bO bA bN bI o n c xs dep at_ es v) (hat : at_ ≤ es.length) (hes : es.length ≤ 5000)
    (x : Nat) (hx : (nx (xs.drop at_)).1 = x) (h8 : x % 8 = 4) :
    Calls Try.prog 12 #[.int .i64 d, .pointer (some ⟨bN, 0, none⟩), .pointer (some ⟨bO, 0, none⟩), .pointer (some ⟨bD, 0, none⟩), .pointer (some ⟨bI, 0, none⟩)] w (ItemPost w0 bL bD bO bA bN bI o n c xs dep es ([evText (docText x)], (nx (xs.drop at_)).2)) := by
  obtain ⟨q1, q2, q3, q4, q5, q6, q7⟩ := doc_facts h
  have hnext := docNext_any h (by omega)
  rw [hx] at hnext
  have HN := Lib.hid hnext
  have h8' : (x : Int) % 8 = 4 := by omega
  clear h hx h8 hnext
  go_enter Try.func12, Try.ntmps12
  go_wp2_with fail
  refine HN.out.mono ?_
  rintro e w1 ⟨rfl, h1, hdr⟩
  obtain ⟨q1, q2, q3, q4, q5, q6, q7⟩ := doc_facts h1
  have H1 := Lib.hid h1
  have HDR := Lib.hid hdr
  clear h1 hdr
  go_wp2_with fail
  go_region_law (first | (rw [if_pos (by rfl)]; refine wp_append_evs _ _ rfl (bI + 1) v es rfl (ownsRow_keeps H3.out.own ((Keeps.refl [] _).alloc _) (by simp)) ⟨_, 0, none⟩ (evText (docText x)) rfl (new_evc (evText (docText x)) (by simp)) (by omega) (by simp; omega) ?_; intro v2 w2 hown2 hk2 _hb; obtain ⟨o2, c2, hv2⟩ := hown2.shape; rw [List.length_append, List.length_singleton] at hv2; subst hv2; have hpush := H3.out.push hown2 (((Keeps.refl _ _).alloc _).trans hk2); have hq2 := (H3.out.out.keeps ((Keeps.refl [] _).alloc _) (by simp)).keeps hk2 (fun hm => by have := H3.out.blk _ hm; have := H3.out.lay.h3; have := H3.out.lay.h4; have := H3.out.lay.h5; omega); have q2 := hq2.cell 0; have q3 := hq2.free 0; have HP := Lib.hid hpush; clear hpush hown2 hk2 _hb hq2) | (go_simp; go_at_call 13; refine (docText_any x _).mono ?_; rintro e w3 ⟨rfl, k3⟩; have H3 := Lib.hid (H1.out.keep0 (((Keeps.refl [] _).drew).trans k3)); obtain ⟨q1, q2, q3, q4, q5, q6, q7⟩ := doc_facts H3.out; clear k3; try go_simp))
  all_goals
    go_wp2_with fail
    go_end0
    exact ⟨rfl, at_ + 1, _, HDR.out.symm, by simp; omega, HP.out⟩
end Go.Proofs.Ytdfdajedcgmbfaa
