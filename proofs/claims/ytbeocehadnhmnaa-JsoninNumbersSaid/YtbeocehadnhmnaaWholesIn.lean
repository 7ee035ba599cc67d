/-
  A slice of api.Whole in memory.
-/
import Derived.Test.YtbeocehadnhmnaaTru
namespace Go.Tru

/-- The slice value (address o, length n, capacity c) holds these numbers. -/
structure WholesIn (w : World) (o : Option Addr) (n c : Nat) (ws : List (Bool × Nat)) : Prop where
  len : ws.length = n
  room : n ≤ c
  most : c ≤ maxLen
  at_ : n = 0 ∨ ∃ b off, o = some ⟨b, off, none⟩ ∧ b < w.heap.size ∧ ∀ (i : Nat) (x : Bool × Nat), ws[i]? = some x → w.cell? ⟨b, off + i * 2, none⟩ = some (.bool x.1) ∧ w.cell? ⟨b, off + i * 2 + 1, none⟩ = some (.int .u64 x.2)
  fit : ∀ x ∈ ws, x.2 < 18446744073709551616

theorem WholesIn.keeps {w w' : World} {o : Option Addr} {n c : Nat} {ws : List (Bool × Nat)} (h : WholesIn w o n c ws) (k : Keeps [] w w') : WholesIn w' o n c ws :=
  ⟨h.len, h.room, h.most, h.at_.imp id fun ⟨b, off, h1, h2, h3⟩ => ⟨b, off, h1, Nat.lt_of_lt_of_le h2 k.size, fun i x hx => ⟨k.cell (h3 i x hx).1 (by simp), k.cell (h3 i x hx).2 (by simp)⟩⟩, h.fit⟩

theorem WholesIn.get {w : World} {o : Option Addr} {n c : Nat} {ws : List (Bool × Nat)} (h : WholesIn w o n c ws) {k : Nat} (hk : k < n) {x : Bool × Nat} (hx : ws[k]? = some x) :
    ∃ b off, o = some ⟨b, off, none⟩ ∧ b < w.heap.size ∧ w.cell? ⟨b, off + k * 2, none⟩ = some (.bool x.1) ∧ w.cell? ⟨b, off + k * 2 + 1, none⟩ = some (.int .u64 x.2) := by
  rcases h.at_ with h0 | ⟨b, off, h1, h2, h3⟩
  · omega
  · exact ⟨b, off, h1, h2, (h3 k x hx).1, (h3 k x hx).2⟩
end Go.Tru
