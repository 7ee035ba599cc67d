/-
  A []string that came in.
-/
import Derived.Test.YtepajbimhpmpjaaLaw
import Derived.Deep.Strs
namespace Go.Tru
/-- The slice value (address o, length n, capacity c) holds these texts. -/
structure StrsIn (w : World) (o : Option Addr) (n c : Nat) (xs : List ByteArray) : Prop where
  len : xs.length = n
  room : n ≤ c
  most : c ≤ maxLen
  at_ : n = 0 ∨ ∃ b off, o = some ⟨b, off, none⟩ ∧ b < w.heap.size ∧ ∀ (i : Nat) (x : ByteArray), xs[i]? = some x → w.cell? ⟨b, off + i, none⟩ = some (.string x)
  fit : ∀ x ∈ xs, x.size ≤ maxLen

theorem StrsIn.keeps {w w' : World} {o : Option Addr} {n c : Nat} {xs : List ByteArray} (h : StrsIn w o n c xs) (k : Keeps [] w w') : StrsIn w' o n c xs :=
  ⟨h.len, h.room, h.most, h.at_.imp id fun ⟨b, off, h1, h2, h3⟩ => ⟨b, off, h1, Nat.lt_of_lt_of_le h2 k.size, fun i x hx => k.cell (h3 i x hx) (by simp)⟩, h.fit⟩

theorem StrsIn.get {w : World} {o : Option Addr} {n c : Nat} {xs : List ByteArray} (h : StrsIn w o n c xs) {k : Nat} (hk : k < n) (hk' : k < xs.length) :
    ∃ b off, o = some ⟨b, off, none⟩ ∧ w.cell? ⟨b, off + k, none⟩ = some (.string xs[k]) := by
  rcases h.at_ with h0 | ⟨b, off, h1, _, h3⟩
  · omega
  · exact ⟨b, off, h1, h3 k _ (List.getElem?_eq_getElem hk')⟩
end Go.Tru
namespace Go.Proofs.Ytepajbimhpmpjaa
open Go.RowKit Go.Tru Go.ChangeShapes Go.WideShapes Go.ChangeAt

theorem Try.cells_str : Try.prog.cellsOf 9 = 1 := by kernel_rfl
set_option maxRecDepth 100000 in
/-- a []string that came in -/
theorem open_list_strs {H : Type} {enc : TypeId × Value → H} {W : World} {base : Nat} {v : Value} {d : DataW H} {p : List MemPlace}
    (hv : Value.okWide Try.prog W .any base 44 v) (h : DataW.Trod enc Try.prog W 0 (fun _ => true) true 44 v d p) (hlt : ∀ x ∈ p, x.block < W.heap.size) :
    ∃ (n c : Nat) (o : Option Addr) (xs : List ByteArray), v = .slice o n c ∧ StrsIn W o n c xs := by
  obtain ⟨a0, len, cap, rfl⟩ := okWide_slice Try.underlying44 hv
  obtain ⟨fuel, hf⟩ := h
  rcases Deep.open_strs Try.underlying44 Try.underlying9 Try.cells_str hf with ⟨hcs, hx⟩ | ⟨a, len', cap', m, Sx, hcs, _, hl, hm, hz, hx, hcell⟩
  · simp [Value.cells] at hcs
    obtain ⟨rfl, rfl, rfl⟩ := hcs
    exact ⟨0, 0, none, [], rfl, rfl, Nat.le_refl _, Nat.zero_le _, Or.inl rfl, by simp⟩
  · simp [Value.cells] at hcs
    obtain ⟨rfl, rfl, rfl⟩ := hcs
    simp only [Prod.mk.injEq] at hx
    obtain ⟨rfl, rfl⟩ := hx
    simp only [if_true] at hz
    refine ⟨len, cap, some a, (List.range len).map Sx, rfl, by simp, hl, hm, ?_, fun x hx => ?_⟩
    · by_cases h0 : len = 0
      · exact Or.inl h0
      · obtain ⟨b, off, spot⟩ := a
        have hspot : spot = none := by simpa [Addr.add] using World.cell?_spot (hcell 0 (by omega)).1
        subst hspot
        refine Or.inr ⟨b, off, rfl, hlt (.cell b off) (MemPlace.mem_row.2 ⟨0, by omega, by simp⟩), fun i x hx => ?_⟩
        obtain ⟨hi, hx⟩ := List.getElem?_eq_some_iff.1 hx
        simp only [List.length_map, List.length_range] at hi
        rw [← add_plain, (hcell i (by omega)).1, ← hx]
        simp
    · obtain ⟨i, hi, rfl⟩ := List.mem_map.1 hx
      exact (hcell i (by have := List.mem_range.1 hi; omega)).2
end Go.Proofs.Ytepajbimhpmpjaa
