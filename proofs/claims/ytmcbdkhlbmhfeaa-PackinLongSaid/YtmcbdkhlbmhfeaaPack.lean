/-
  packin.Parser's count, follows, number: their contracts.
-/
import Derived.Test.YtmcbdkhlbmhfeaaPackModel
import Derived.Test.YtmcbdkhlbmhfeaaCoreByte
import Derived.Laws.BitsAllLaws
namespace Go.Tru
theorem or_byte {v x : Int} (hv : 0 ≤ v) (hx0 : 0 ≤ x) (hx1 : x ≤ 255) (h : v * 256 + x ≤ 18446744073709551615) : bits .or .u64 (v * 256) x = v * 256 + x := by
  rw [u64_or _ _ (by omega) (by omega) hx0 (by omega)]
  have h1 : (v * 256).toNat = v.toNat <<< 8 := by rw [Nat.shiftLeft_eq]; omega
  rw [h1, ← Nat.shiftLeft_add_eq_or_of_lt (by omega : x.toNat < 2 ^ 8), ← h1]
  omega

theorem i64_not {n : Int} (h0 : -9223372036854775808 ≤ n) (h1 : n ≤ 9223372036854775807) : bits .xor .i64 (-1) n = -1 - n := by
  have h2 : BitVec.ofInt 64 (-1) ^^^ BitVec.ofInt 64 n = ~~~ (BitVec.ofInt 64 n) := by
    rw [show BitVec.ofInt 64 (-1) = BitVec.allOnes 64 by decide, BitVec.allOnes_xor]
  have h3 : bits .xor .i64 (-1) n = IntKind.i64.wrap ((BitVec.ofInt 64 (-1) ^^^ BitVec.ofInt 64 n).toNat : Int) := rfl
  rw [h3, h2, BitVec.toNat_not, BitVec.toNat_ofInt, IntKind.wrap_i64]
  omega
theorem u8_not {n : Int} (h0 : 0 ≤ n) (h1 : n ≤ 255) : bits .xor .u8 255 n = 255 - n := by
  have h2 : BitVec.ofInt 8 255 ^^^ BitVec.ofInt 8 n = ~~~ (BitVec.ofInt 8 n) := by
    rw [show BitVec.ofInt 8 255 = BitVec.allOnes 8 by decide, BitVec.allOnes_xor]
  have h3 : bits .xor .u8 255 n = IntKind.u8.wrap ((BitVec.ofInt 8 255 ^^^ BitVec.ofInt 8 n).toNat : Int) := rfl
  rw [h3, h2, BitVec.toNat_not, BitVec.toNat_ofInt, IntKind.wrap_u8]
  omega

def pkRest (p : Pk) : List Value := [.int .i64 p.kind, .int .i64 p.lack, .int .i64 p.all, .int .u64 p.v]

/-- Block b is a Parser. -/
def PkIn (w : World) (base b : Nat) (ov sv : Value) (p : Pk) : Prop := CoreIn w base b 72 (pkRest p) ov sv p.c

theorem pk_facts {w : World} {base b : Nat} {ov sv : Value} {p : Pk} (h : PkIn w base b ov sv p) :
    w.cell? ⟨b, 12, none⟩ = some (.int .i64 p.kind) ∧ w.cell? ⟨b, 13, none⟩ = some (.int .i64 p.lack) ∧ w.cell? ⟨b, 14, none⟩ = some (.int .i64 p.all) ∧ w.cell? ⟨b, 15, none⟩ = some (.int .u64 p.v) :=
  ⟨h.blk.cell 12, h.blk.cell 13, h.blk.cell 14, h.blk.cell 15⟩
theorem pk_free {w : World} {base b : Nat} {ov sv : Value} {p : Pk} (h : PkIn w base b ov sv p) :
    w.frozen? ⟨b, 12, none⟩ = false ∧ w.frozen? ⟨b, 13, none⟩ = false ∧ w.frozen? ⟨b, 14, none⟩ = false ∧ w.frozen? ⟨b, 15, none⟩ = false ∧ b < w.heap.size :=
  ⟨h.blk.free 12, h.blk.free 13, h.blk.free 14, h.blk.free 15, h.blk.lt⟩

/-- what a Parser must be for its methods -/
structure PkOk (N : Int) (w : World) (base b : Nat) (ov sv : Value) (p : Pk) : Prop where
  in_ : PkIn w base b ov sv p
  fit : p.Fit N
  big : 0 ≤ N ∧ N ≤ 100000000
  base_ : base ≤ w.heap.size

/-- what a method of the Parser gives: its parts, and what it leaves -/
def PkGives (w : World) (base b : Nat) (ov sv : Value) (t : List Ev × Pk) (r : Ending) (w' : World) : Prop :=
  ∃ v, r = .returned v ∧ OwnsAny w' w.heap.size v t.1 ∧ ∃ ov' sv', PkIn w' base b ov' sv' t.2 ∧ Keeps (coBlks b ov sv) w w' ∧ ∀ i ∈ coBlks b ov' sv', i ∈ coBlks b ov sv ∨ w.heap.size ≤ i

theorem PkGives.trans {w w1 w2 : World} {base b : Nat} {ov sv ov1 sv1 : Value} {t : List Ev × Pk} {r : Ending} (kp : Keeps (coBlks b ov sv) w w1) (hs : ∀ i ∈ coBlks b ov1 sv1, i ∈ coBlks b ov sv ∨ w.heap.size ≤ i) (h : PkGives w1 base b ov1 sv1 t r w2) : PkGives w base b ov sv t r w2 := by
  obtain ⟨v, h1, h2, ov2, sv2, h3, h4, h5⟩ := h
  refine ⟨v, h1, ownsRow_base h2 kp.size, ov2, sv2, h3, kp.trans' h4 hs, fun i hi => ?_⟩
  rcases h5 i hi with h | h
  · exact hs i h
  · exact Or.inr (Nat.le_trans kp.size h)
end Go.Tru
namespace Go.Proofs.Ytmcbdkhlbmhfeaa
open Go.RowKit Go.Tru

theorem _root_.Go.Tru.PkOk.core {N : Int} {w : World} {base b : Nat} {ov sv : Value} {p : Pk} (h : PkOk N w base b ov sv p) : CoreOk N w base b 72 (pkRest p) ov sv p.c := ⟨h.in_, h.fit.core, h.big.2, h.base_⟩

theorem CoreOk.keep0 {N : Int} {w W : World} {base b : Nat} {T : TypeId} {rest : List Value} {ov sv : Value} {k : Core} (h : CoreOk N w base b T rest ov sv k) (kp : Keeps [] w W) : CoreOk N W base b T rest ov sv k :=
  ⟨h.in_.keep0 kp, h.fit, h.big, Nat.le_trans h.base_ kp.size⟩
theorem _root_.Go.Tru.PkOk.keep0 {N : Int} {w W : World} {base b : Nat} {ov sv : Value} {p : Pk} (h : PkOk N w base b ov sv p) (kp : Keeps [] w W) : PkOk N W base b ov sv p :=
  ⟨CoreIn.keep0 h.in_ kp, h.fit, h.big, Nat.le_trans h.base_ kp.size⟩

theorem CoreGives.pk {w w' : World} {base b : Nat} {ov sv : Value} {p : Pk} {t : List Ev × Core} {r : Ending} (h : CoreGives w base b 72 (pkRest p) ov sv t r w') : PkGives w base b ov sv (p.put t) r w' := by
  obtain ⟨v, h1, h2, h3⟩ := h
  exact ⟨v, h1, h2, h3⟩

theorem pcount_any {N : Int} {w : World} {base b : Nat} {ov sv : Value} {p : Pk} (h : PkOk N w base b ov sv p) (pairs : Bool) (n : Int) (hn : 0 ≤ n) (hn2 : n ≤ 18446744073709551615) :
    Calls Try.prog 46 #[.pointer (some ⟨b, 0, none⟩), .bool pairs, .int .u64 n] w (PkGives w base b ov sv (p.count pairs n)) := by
  by_cases hl : 1000000 < n
  · rw [show p.count pairs n = p.put (p.c.fail 7) by unfold Pk.count; rw [if_pos hl]]
    have hf := fail_gives 7 p.c w base b _ _ _ _ h.core.in_
    have hbl := h.in_.blk.lt
    clear h
    go_enter Try.func46, Try.ntmps46
    go_wp2_with fail
    refine hf.mono ?_
    clear hf
    rintro e w2 h2
    have hg := CoreGives.pk h2
    obtain ⟨v, rfl, hown, hpost⟩ := hg
    obtain ⟨av, cv, rfl⟩ := hown.shape
    have HOWN := Lib.hid hown
    have HPOST := Lib.hid hpost
    clear hown hpost h2
    go_wp2_with fail
    go_ret
    exact ⟨_, rfl, HOWN.out, HPOST.out⟩
  · rw [show p.count pairs n = p.put (p.c.begin pairs n) by unfold Pk.count; rw [if_neg hl]]
    have hf := begin_any h.core pairs n
    have hbl := h.in_.blk.lt
    have hn3 : n ≤ 1000000 := by omega
    clear h
    go_enter Try.func46, Try.ntmps46
    go_wp2_with fail
    refine hf.mono ?_
    clear hf
    rintro e w2 h2
    have hg := CoreGives.pk h2
    obtain ⟨v, rfl, hown, hpost⟩ := hg
    obtain ⟨av, cv, rfl⟩ := hown.shape
    have HOWN := Lib.hid hown
    have HPOST := Lib.hid hpost
    clear hown hpost h2
    go_wp2_with fail
    go_ret
    exact ⟨_, rfl, HOWN.out, HPOST.out⟩

theorem follows_any {w : World} {base b : Nat} {ov sv : Value} {p : Pk} (h : PkIn w base b ov sv p) (kind n : Int) :
    Calls Try.prog 56 #[.pointer (some ⟨b, 0, none⟩), .int .i64 kind, .int .i64 n] w (PkGives w base b ov sv (p.follows kind n)) := by
  have H := Lib.hid h
  obtain ⟨g0, g1, g2, g3⟩ := pk_facts h
  obtain ⟨f0, f1, f2, f3, hbl⟩ := pk_free h
  clear h
  go_enter Try.func56, Try.ntmps56
  go_wp2_with fail
  go_ret
  refine ⟨_, rfl, OwnsAny.nil _ _, ov, sv, ?_, ((((Keeps.refl _ _).setIn (coBlks_self _ _ _) _).setIn (coBlks_self _ _ _) _).setIn (coBlks_self _ _ _) _).setIn (coBlks_self _ _ _) _, fun i hi => Or.inl hi⟩
  exact (((H.out.putRest (i := 0) (u := .int .i64 kind)).putRest (i := 1) (u := .int .i64 n)).putRest (i := 2) (u := .int .i64 n)).putRest (i := 3) (u := .int .u64 0)
end Go.Proofs.Ytmcbdkhlbmhfeaa
