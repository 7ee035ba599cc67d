/-
  truchmanref1.Writer: its list of open containers put back, a new one.
-/
import Derived.Test.YtdfdajedcgmbfaaWrBox
namespace Go.Proofs.Ytdfdajedcgmbfaa
open Go.RowKit Go.Tru

/-- the list of what is open has been put back, in a row of its own -/
theorem _root_.Go.Tru.WrIn.pushed {w w2 : World} {base b : Nat} {to : Int} {ov v2 : Value} {stk s : List Cont} {c : Cont} {dn : Bool} (h : WrIn w base b to ov stk dn) (hown : OwnsStk w2 base 49 v2 (c :: s)) (k : Keeps [] w w2)
    (hb : ∀ m, v2.ownBlock = some m → w.heap.size ≤ m) :
    ∃ g cap, v2 = .slice (some ⟨g, 0, none⟩) (s.length + 1) cap ∧ w.heap.size ≤ g ∧ WrIn (w2.setCell ⟨b, 1, none⟩ v2) base b to v2 (c :: s) dn ∧ Keeps [b] w (w2.setCell ⟨b, 1, none⟩ v2) ∧
      w2.cell? ⟨b, 1, none⟩ = some ov ∧ w2.frozen? ⟨b, 1, none⟩ = false ∧ b < w2.heap.size := by
  obtain ⟨g, cap, rfl, -, gl, -, -, -, -, -, -⟩ := hown.some_
  have hg : w.heap.size ≤ g := hb g rfl
  have hbl := h.blk.lt
  have hblk := h.blk.keeps k (by simp)
  have hset : Keeps [b] w2 (w2.setCell ⟨b, 1, none⟩ (.slice (some ⟨g, 0, none⟩) (s.length + 1) cap)) := (Keeps.refl _ _).set1 _
  refine ⟨g, cap, rfl, hg, ⟨(hblk.set 1 _).conv rfl, ownsRow_keeps hown hset (fun i hi hmm => ?_), fun hmm => ?_⟩, (k.mono (by simp)).trans hset, hblk.cell 1, hblk.free 1, hblk.lt⟩
  · rw [List.mem_singleton] at hmm
    simp only [Value.ownBlock, Option.some.injEq] at hi
    omega
  · rw [mem_blks] at hmm
    simp only [Value.ownBlock, Option.some.injEq] at hmm
    omega

/-- a block's cells, one by one -/
theorem has_cells {w : World} {b : Nat} {cs : List Value} {t : TypeId} (h : Has w b cs t) : ∀ (j : Nat) (u : Value), cs[j]? = some u → w.cell? ((⟨b, 0, none⟩ : Addr).add j) = some u := by
  intro j u hu
  have hadd : (⟨b, 0, none⟩ : Addr).add j = ⟨b, j, none⟩ := by unfold Addr.add; split <;> simp_all
  rw [hadd, h.cell]
  exact hu
end Go.Proofs.Ytdfdajedcgmbfaa
