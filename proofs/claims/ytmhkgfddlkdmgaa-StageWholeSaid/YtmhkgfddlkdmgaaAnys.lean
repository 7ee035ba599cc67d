/-
  A slice of parts as values of whatever type.
-/
import Derived.Test.YtmhkgfddlkdmgaaEvIn
import Derived.Test.YtmhkgfddlkdmgaaBlks
import Derived.Maps.AppendAt
namespace Go.Tru

theorem part_one (p : Ev) : p.part.oneCell' = true := by
  unfold Ev.part
  repeat' split
  all_goals rfl

theorem parts_one (ps : List Ev) : ∀ u ∈ ps.map Ev.part, u.oneCell' = true := by
  intro u hu
  obtain ⟨p, _, rfl⟩ := List.mem_map.1 hu
  exact part_one p

/-- The slice value v holds these parts, in a row that the call owns. -/
def OwnsAny (w : World) (base : Nat) (v : Value) (ps : List Ev) : Prop := w.ownsRow base 20 1 v ps.length (ps.map Ev.part)

theorem OwnsAny.nil (w : World) (base : Nat) : OwnsAny w base (.slice none 0 0) [] := World.ownsRow_nil _ _ _ _

/-- The slice value (address o, length n, capacity c) holds these parts. -/
structure AnysIn (w : World) (o : Option Addr) (n c : Nat) (ps : List Ev) : Prop where
  len : ps.length = n
  room : n ≤ c
  most : c ≤ maxLen
  at_ : n = 0 ∨ ∃ b off, o = some ⟨b, off, none⟩ ∧ b < w.heap.size ∧ ∀ (i : Nat) (p : Ev), ps[i]? = some p → w.cell? ⟨b, off + i, none⟩ = some p.part

theorem AnysIn.keeps {w w' : World} {o : Option Addr} {n c : Nat} {ps : List Ev} (h : AnysIn w o n c ps) (k : Keeps [] w w') : AnysIn w' o n c ps :=
  ⟨h.len, h.room, h.most, h.at_.imp id fun ⟨b, off, h1, h2, h3⟩ => ⟨b, off, h1, Nat.lt_of_lt_of_le h2 k.size, fun i p hp => k.cell (h3 i p hp) (by simp)⟩⟩

theorem AnysIn.get {w : World} {o : Option Addr} {n c : Nat} {ps : List Ev} (h : AnysIn w o n c ps) {k : Nat} (hk : k < n) (hk' : k < ps.length) :
    ∃ b off, o = some ⟨b, off, none⟩ ∧ w.cell? ⟨b, off + k, none⟩ = some ps[k].part := by
  rcases h.at_ with h0 | ⟨b, off, h1, _, h3⟩
  · omega
  · exact ⟨b, off, h1, h3 k _ (List.getElem?_eq_getElem hk')⟩

theorem AnysIn.nil (w : World) : AnysIn w none 0 0 [] := ⟨rfl, Nat.le_refl _, Nat.zero_le _, Or.inl rfl⟩

theorem anysIn_of_owns {w : World} {B : Nat} {v : Value} {ps : List Ev} (h : OwnsAny w B v ps) :
    ∃ o c, v = .slice o ps.length c ∧ AnysIn w o ps.length c ps := by
  have hlt := h.lt
  rcases h.2 with ⟨rfl, h0⟩ | ⟨g, cap, cur, rfl, hb, hg, hn, hm, _⟩
  · exact ⟨none, 0, by rw [h0], rfl, by omega, Nat.zero_le _, Or.inl h0⟩
  · refine ⟨_, cap, rfl, rfl, hn, hm, Or.inr ⟨g, 0, rfl, (hlt g rfl).2, fun i p hp => ?_⟩⟩
    have hl : i < ps.length := (List.getElem?_eq_some_iff.1 hp).1
    rw [Nat.zero_add, World.ownsRow.cellAt h i (by omega)]
    simp [hp]

theorem anysIn_has {w : World} {b : Nat} {ps : List Ev} {t : TypeId} (h : Has w b (ps.map Ev.part) t) {n : Nat} (hn : ps.length = n) (hm : n ≤ maxLen) : AnysIn w (some ⟨b, 0, none⟩) n n ps :=
  ⟨hn, Nat.le_refl _, hm, Or.inr ⟨b, 0, rfl, h.lt, fun i p hp => by rw [Nat.zero_add, h.cell]; simp [hp]⟩⟩

theorem OwnsAny.shape {w : World} {base : Nat} {v : Value} {ps : List Ev} (h : OwnsAny w base v ps) : ∃ a cap, v = .slice a ps.length cap := by
  rcases h.2 with ⟨h1, h2⟩ | ⟨g, cap, cur, h1, _⟩
  · exact ⟨none, 0, by rw [h1, h2]⟩
  · exact ⟨_, _, h1⟩

end Go.Tru
namespace Go.Proofs.Ytmhkgfddlkdmgaa
open Go.RowKit Go.Tru

theorem info_any : (Try.prog.info? 20).map (fun i => (i.zero, i.size, i.bytes)) = some (some .nilIface, 1, 16) := by kernel_rfl

/-- append to an own row of parts -/
theorem app_any {ops : Array Oper} {rest : List Oper} {o : Oper} {a : Act} {w : World} {Q : Exit → Act → World → Prop} (hgd : o.guard = none) (s x : Operand)
    (ho : o.op = .call { callee := .builtin .append, args := #[s, x], argTypes := #[35, 35] })
    (base : Nat) (v : Value) (es : List Ev) (hs : a.eval s = v) (hown : OwnsAny w base v es)
    (ad : Addr) (m c : Nat) (ds : List Ev) (hx : a.eval x = .slice (some ad) m c) (hl : ds.length = m) (hnews : ∀ (j : Nat) (u : Value), (ds.map Ev.part)[j]? = some u → w.cell? (ad.add j) = some u)
    (hlen : es.length + m ≤ 1000000000) (hbase : base ≤ w.heap.size)
    (h : ∀ v' w', OwnsAny w' base v' (es ++ ds) → Keeps (blks v) w w' → (v' = .slice none 0 0 ↔ v = .slice none 0 0 ∧ m = 0) → (v'.ownBlock = v.ownBlock ∨ v'.ownBlock = some w.heap.size) → wpList Try.prog ops Q rest (a.put o.dst v') w') :
    wpList Try.prog ops Q (o :: rest) a w := by
  obtain ⟨i0, hi, hz0, hz1, hz2⟩ := info_parts info_any
  subst hl
  refine wpList_append_own_at w hgd s x 35 ho base 20 i0 .nilIface 1 16 Try.underlying35 hi hz0 hz1 hz2 rfl (by decide) v es.length (es.map Ev.part) hs hown ad ds.length c (ds.map Ev.part) hx (by simp) hnews (parts_one ds) (by unfold maxLen; omega) (by omega) hbase ?_
  intro v' w' h2 h3 h4 h5
  refine h v' w' ?_ (keeps_grown h3) h4 h5
  unfold OwnsAny
  rw [List.length_append, List.map_append]
  exact h2
end Go.Proofs.Ytmhkgfddlkdmgaa
