/-
  cborin.Core's Text, Begin, Length, Byte: their contracts.
-/
import Derived.Test.YtmcbdkhlbmhfeaaCoreMore
namespace Go.Tru
theorem wordEv_part (word : Bool) (l : List UInt8) : (wordEv word l).part = if word then .iface 81 (.string (bytesOf l)) else .iface 83 (.string (bytesOf l)) := by
  cases word <;> rfl
end Go.Tru
namespace Go.Proofs.Ytmcbdkhlbmhfeaa
open Go.RowKit Go.Tru

/-- what a Core must be for its methods -/
structure CoreOk (N : Int) (w : World) (base b : Nat) (T : TypeId) (rest : List Value) (ov sv : Value) (k : Core) : Prop where
  in_ : CoreIn w base b T rest ov sv k
  fit : k.Fit N
  big : N ≤ 100000000
  base_ : base ≤ w.heap.size

theorem CoreOk.opens {N : Int} {w : World} {base b : Nat} {T : TypeId} {rest : List Value} {ov sv : Value} {k : Core} (h : CoreOk N w base b T rest ov sv k) : k.open_.length ≤ 100 := by
  have := h.fit.opens; have := h.fit.depth; omega
theorem CoreOk.parts {N : Int} {w : World} {base b : Nat} {T : TypeId} {rest : List Value} {ov sv : Value} {k : Core} (h : CoreOk N w base b T rest ov sv k) : ∀ c ∈ k.open_, 0 ≤ c.parts ∧ c.parts ≤ N := fun c hc => ⟨(h.fit.parts c hc).1, (h.fit.parts c hc).2.1⟩
theorem CoreOk.text {N : Int} {w : World} {base b : Nat} {T : TypeId} {rest : List Value} {ov sv : Value} {k : Core} (h : CoreOk N w base b T rest ov sv k) : k.s.length ≤ 200 := by
  have := h.fit.lack; omega

theorem CoreGives.trans {w w1 w2 : World} {base b : Nat} {T : TypeId} {rest : List Value} {ov sv ov1 sv1 : Value} {t : List Ev × Core} {r : Ending} (kp : Keeps (coBlks b ov sv) w w1) (hs : ∀ i ∈ coBlks b ov1 sv1, i ∈ coBlks b ov sv ∨ w.heap.size ≤ i) (h : CoreGives w1 base b T rest ov1 sv1 t r w2) : CoreGives w base b T rest ov sv t r w2 := by
  obtain ⟨v, h1, h2, h3⟩ := h
  exact ⟨v, h1, ownsRow_base h2 kp.size, CorePost.trans kp hs h3 rfl⟩

theorem value_ok {N : Int} {w : World} {base b : Nat} {T : TypeId} {rest : List Value} {ov sv : Value} {k : Core} (h : CoreOk N w base b T rest ov sv k) (p : Ev) :
    Calls Try.prog 44 #[.pointer (some ⟨b, 0, none⟩), p.part] w (CoreGives w base b T rest ov sv (k.value p)) :=
  value_any N (by have := h.big; omega) k p w base b T rest ov sv h.in_ h.opens h.parts

set_option maxHeartbeats 800000 in
theorem text_any {N : Int} {w : World} {base b : Nat} {T : TypeId} {rest : List Value} {ov sv : Value} {k : Core} (h : CoreOk N w base b T rest ov sv k) :
    Calls Try.prog 43 #[.pointer (some ⟨b, 0, none⟩)] w (CoreGives w base b T rest ov sv k.text) := by
  have hconv := fun W (kp : Keeps [b] w W) => bytes_string (ownsRow_keeps h.in_.s kp (fun i hi hm => h.in_.bs (by rw [List.mem_singleton] at hm; exact hm ▸ mem_blks.2 hi))) Try.underlying40 Try.underlying9
  have hconv0 := hconv w (Keeps.refl _ _)
  obtain ⟨oo, oc, rfl⟩ := h.in_.opn.shape
  obtain ⟨so, sc, rfl⟩ := OwnsBytes.shape h.in_.s
  obtain ⟨g0, g1, g2, g3, g4, g5, g6, g7⟩ := core_facts h.in_
  obtain ⟨f1, f2, f3, f4, f5, f6, f7, hbl⟩ := core_free h.in_
  have hset := CoreIn.setS h.in_ (OwnsBytes.nil w base) (Keeps.refl _ _) (Or.inr (Or.inl rfl))
  have hput := hset.1.put (i := 5) (u := .bool false) (k' := { k with s := [], chunks := false }) (by omega) rfl rfl rfl
  have HOK := Lib.hid h
  have HPUT := Lib.hid hput
  have HSET := Lib.hid hset
  clear h hconv hset hput
  have hev : k.text = Core.value { k with s := [], chunks := false } (wordEv k.word k.s) := rfl
  have HEV := Lib.hid hev
  clear hev
  have hwp := wordEv_part k.word k.s
  have hok2 : CoreOk N ((w.setCell ⟨b, 7, none⟩ (.slice none 0 0)).setCell ⟨b, 5, none⟩ (.bool false)) base b T rest (.slice oo k.open_.length oc) (.slice none 0 0) { k with s := [], chunks := false } :=
    ⟨HPUT.out, ⟨HOK.out.fit.depth, HOK.out.fit.opens, HOK.out.fit.parts, by have := HOK.out.fit.lack; simp only [List.length_nil]; omega, HOK.out.fit.chk⟩, HOK.out.big, by simpa [World.setCell] using HOK.out.base_⟩
  have hv := value_ok hok2 (wordEv k.word k.s)
  have HK := Lib.hid (HSET.out.2.1.setIn (i := 5) (coBlks_self _ _ _) (.bool false))
  clear hok2
  rw [hwp] at hv
  cases hw : k.word with
  | false =>
    rw [hw] at g4
    simp only [hw, Bool.false_eq_true, if_false] at hv
    clear hwp
    go_enter Try.func43, Try.ntmps43
    go_wp2_with fail
    refine (hv.mono ?_)
    rintro e w2 ⟨v, rfl, hown, hpost⟩
    obtain ⟨av, cv, rfl⟩ := hown.shape
    have HOWN := Lib.hid hown
    have HPOST := Lib.hid hpost
    clear hown hpost hv
    go_wp2_with fail
    go_ret
    rw [HEV.out, hw]
    exact CoreGives.trans HK.out HSET.out.2.2 ⟨_, rfl, HOWN.out, HPOST.out⟩
  | true =>
    rw [hw] at g4
    simp only [hw, if_true] at hv
    clear hwp
    go_enter Try.func43, Try.ntmps43
    go_wp2_with fail
    refine (hv.mono ?_)
    rintro e w2 ⟨v, rfl, hown, hpost⟩
    obtain ⟨av, cv, rfl⟩ := hown.shape
    have HOWN := Lib.hid hown
    have HPOST := Lib.hid hpost
    clear hown hpost hv
    go_wp2_with fail
    go_ret
    rw [HEV.out, hw]
    exact CoreGives.trans HK.out HSET.out.2.2 ⟨_, rfl, HOWN.out, HPOST.out⟩
end Go.Proofs.Ytmcbdkhlbmhfeaa
