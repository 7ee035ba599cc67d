/-
  A []api.Whole that came in.
-/
import Derived.Test.YtbeocehadnhmnaaWholeLaw
import Derived.Test.YtbeocehadnhmnaaWholesIn
import Derived.Deep.Slices
namespace Go.Proofs.Ytbeocehadnhmnaa
open Go.RowKit Go.Tru Go.ChangeShapes Go.WideShapes Go.ChangeAt

set_option maxRecDepth 100000 in
theorem open_list_wholes {H : Type} {enc : TypeId × Value → H} {W : World} {base : Nat} {v : Value} {d : DataW H} {p : List MemPlace}
    (hv : Value.okWide Try.prog W .any base 51 v) (h : DataW.Trod enc Try.prog W 0 (fun _ => true) true 51 v d p) (hlt : ∀ x ∈ p, x.block < W.heap.size) :
    ∃ (n c : Nat) (o : Option Addr) (ws : List (Bool × Nat)), v = .slice o n c ∧ WholesIn W o n c ws := by
  obtain ⟨a0, len, cap, rfl⟩ := okWide_slice Try.underlying51 hv
  obtain ⟨fuel, hf⟩ := h
  rcases Deep.open_slice Try.underlying51 hf with ⟨hcs, hx⟩ | ⟨a, len', cap', m, n, D, Pl, hcs, _, hl, hm, hmm, hx, hel⟩
  · simp [Value.cells] at hcs
    obtain ⟨rfl, rfl, rfl⟩ := hcs
    exact ⟨0, 0, none, [], rfl, ⟨rfl, Nat.le_refl _, Nat.zero_le _, Or.inl rfl, by simp⟩⟩
  · simp [Value.cells] at hcs
    obtain ⟨rfl, rfl, rfl⟩ := hcs
    simp only [if_true] at hmm
    subst hmm
    have each : ∀ i, i < len → ∃ e : Bool × Nat, e.2 < 18446744073709551616 ∧ W.cell? (a.add (i * 2)) = some (.bool e.1) ∧ W.cell? (a.add (i * 2 + 1)) = some (.int .u64 e.2) := by
      intro i hi
      obtain ⟨cs', h1, h2⟩ := hel i (by omega)
      obtain ⟨y, u, rfl, hfit⟩ := read_whole h2
      rw [Try.cells_whole] at h1
      refine ⟨(y, u), hfit, ?_, ?_⟩
      · have h3 := (World.cells?_some h1).2.2 0 (by omega)
        rw [Deep.add_add] at h3
        simpa using h3
      · have h3 := (World.cells?_some h1).2.2 1 (by omega)
        rw [Deep.add_add] at h3
        simpa using h3
    obtain ⟨E, hE⟩ := Deep.choose_lt (p := fun i (e : Bool × Nat) => e.2 < 18446744073709551616 ∧ W.cell? (a.add (i * 2)) = some (.bool e.1) ∧ W.cell? (a.add (i * 2 + 1)) = some (.int .u64 e.2)) each
    refine ⟨len, _, some a, (List.range len).map E, rfl, ⟨by simp, hl, hm, ?_, ?_⟩⟩
    · by_cases h0 : len = 0
      · exact Or.inl h0
      · obtain ⟨b, off, spot⟩ := a
        have hspot : spot = none := by
          have := (hE 0 (by omega)).2.1
          simpa [Addr.add] using World.cell?_spot this
        subst hspot
        refine Or.inr ⟨b, off, rfl, hlt (.cell b off) ?_, fun i e he => ?_⟩
        · simp only [Prod.mk.injEq] at hx
          rw [hx.2, Try.cells_whole]
          exact List.mem_append_left _ (MemPlace.mem_row.2 ⟨0, by omega, by simp⟩)
        · rw [List.getElem?_map] at he
          obtain ⟨i', hi', rfl⟩ := Option.map_eq_some_iff.1 he
          obtain ⟨hlt', rfl⟩ := List.getElem?_eq_some_iff.1 hi'
          rw [List.length_range] at hlt'
          simp only [List.getElem_range]
          have := (hE i hlt').2
          rw [add_plain, add_plain] at this
          rw [Nat.add_assoc]
          exact this
    · intro e he
      obtain ⟨i, hi, rfl⟩ := List.mem_map.1 he
      exact (hE i (List.mem_range.1 hi)).1
end Go.Proofs.Ytbeocehadnhmnaa
