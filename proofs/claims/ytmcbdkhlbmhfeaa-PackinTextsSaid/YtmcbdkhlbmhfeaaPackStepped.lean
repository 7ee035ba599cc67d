/-
  A step of a parser that a law has made.
-/
import Derived.Test.YtmcbdkhlbmhfeaaPackAlive
namespace Go.Proofs.Ytmcbdkhlbmhfeaa
open Go.RowKit Go.Tru

theorem pstepped {N : Int} {w0 w : World} {b : Nat} {ov sv : Value} {p : Pk} (h : PkOk N w b b ov sv p) (x : Int) (hx0 : 0 ≤ x) (hx1 : x ≤ 255) (hw : w0.heap.size ≤ b) (k : Keeps [] w0 w) (hbig : 0 ≤ N + 1 ∧ N + 1 ≤ 100000000) :
    Calls Try.prog 15 #[.pointer (some ⟨b, 0, none⟩), .int .u8 x] w fun r w' => ∃ v ov' sv', r = .returned (.tuple #[v, .int .i64 (p.step x).2.c.e]) ∧ OwnsAny w' w.heap.size v (p.step x).1 ∧ PkOk (N + 1) w' b b ov' sv' (p.step x).2 ∧ Keeps [] w0 w' ∧ w.heap.size ≤ w'.heap.size := by
  refine (pstep_any h x hx0 hx1).mono ?_
  rintro e w' ⟨v, rfl, hown, ov', sv', hin, hk, _⟩
  have hlow := coBlks_base h.in_ (Nat.le_refl _)
  exact ⟨v, ov', sv', rfl, hown, ⟨hin, Pk.fit_step h.big.1 h.fit ⟨hx0, hx1⟩, hbig, Nat.le_trans h.base_ hk.size⟩, k.trans' hk (fun i hi => Or.inr (Nat.le_trans hw (hlow i hi))), hk.size⟩
end Go.Proofs.Ytmcbdkhlbmhfeaa
