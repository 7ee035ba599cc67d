/-
  cborin.Core in memory: the beginning of a block; its two slices lie in rows of their own.
-/
import Derived.Test.YtmcbdkhlbmhfeaaCoreModel
import Derived.Test.YtmcbdkhlbmhfeaaUtfCore
import Derived.Test.YtmcbdkhlbmhfeaaAnys
namespace Go.Tru

theorem Keeps.setIn {F : List Nat} {a w : World} (h : Keeps F a w) {b i : Nat} (hb : b ∈ F) (u : Value) : Keeps F a (w.setCell ⟨b, i, none⟩ u) := h.setCell (p := ⟨b, i, none⟩) (Or.inl hb) u

def byteVals (l : List UInt8) : List Value := l.map fun b => .int .u8 b.toNat

/-- The slice value v holds these bytes, in a row that the call owns. -/
def OwnsBytes (w : World) (base : Nat) (v : Value) (l : List UInt8) : Prop := w.ownsRow base 5 1 v l.length (byteVals l)

theorem OwnsBytes.nil (w : World) (base : Nat) : OwnsBytes w base (.slice none 0 0) [] := World.ownsRow_nil _ _ _ _
theorem OwnsBytes.shape {w : World} {base : Nat} {v : Value} {s : List UInt8} (h : OwnsBytes w base v s) : ∃ a cap, v = .slice a s.length cap := by
  rcases h.2 with ⟨h1, h2⟩ | ⟨g, cap, cur, h1, _⟩
  · exact ⟨none, 0, by rw [h1, h2]⟩
  · exact ⟨_, _, h1⟩

/-- the Core's own cells -/
def coreCells (k : Core) (ov sv : Value) : List Value := [.int .i64 k.depth, ov, .bool k.done, .int .i64 k.e, .bool k.word, .bool k.chunks, .int .i64 k.lack, sv, .int .i64 k.c.lack, .int .u8 k.c.low, .int .u8 k.c.high, .bool k.c.bad]
def corePre (k : Core) (ov sv : Value) : List Value := [.int .i64 k.depth, ov, .bool k.done, .int .i64 k.e, .bool k.word, .bool k.chunks, .int .i64 k.lack, sv]
theorem coreCells_pre (k : Core) (ov sv : Value) (rest : List Value) : coreCells k ov sv ++ rest = corePre k ov sv ++ k.c.cells ++ rest := rfl

structure CoreIn (w : World) (base b : Nat) (T : TypeId) (rest : List Value) (ov sv : Value) (k : Core) : Prop where
  blk : Has w b (coreCells k ov sv ++ rest) T
  opn : OwnsStk w base 102 ov k.open_
  s : OwnsBytes w base sv k.s
  bo : b ∉ blks ov
  bs : b ∉ blks sv
  os : ∀ i, i ∈ blks ov → i ∉ blks sv

/-- the blocks that a Core may write -/
def coBlks (b : Nat) (ov sv : Value) : List Nat := b :: (blks ov ++ blks sv)

theorem coBlks_self (b : Nat) (ov sv : Value) : b ∈ coBlks b ov sv := List.mem_cons_self ..
theorem coBlks_ov {b : Nat} {ov sv : Value} {i : Nat} (h : i ∈ blks ov) : i ∈ coBlks b ov sv := List.mem_cons_of_mem _ (List.mem_append_left _ h)
theorem coBlks_sv {b : Nat} {ov sv : Value} {i : Nat} (h : i ∈ blks sv) : i ∈ coBlks b ov sv := List.mem_cons_of_mem _ (List.mem_append_right _ h)

theorem coBlks_lt {w : World} {base b : Nat} {T : TypeId} {rest : List Value} {ov sv : Value} {k : Core} (h : CoreIn w base b T rest ov sv k) : ∀ i ∈ coBlks b ov sv, i < w.heap.size := by
  intro i hi
  rcases List.mem_cons.1 hi with rfl | hi
  · exact h.blk.lt
  · rcases List.mem_append.1 hi with hi | hi
    · exact (World.ownsRow.lt h.opn i (mem_blks.1 hi)).2
    · exact (World.ownsRow.lt h.s i (mem_blks.1 hi)).2

theorem coBlks_base {w : World} {base b : Nat} {T : TypeId} {rest : List Value} {ov sv : Value} {k : Core} (h : CoreIn w base b T rest ov sv k) (hb : base ≤ b) : ∀ i ∈ coBlks b ov sv, base ≤ i := by
  intro i hi
  rcases List.mem_cons.1 hi with rfl | hi
  · exact hb
  · rcases List.mem_append.1 hi with hi | hi
    · exact (World.ownsRow.lt h.opn i (mem_blks.1 hi)).1
    · exact (World.ownsRow.lt h.s i (mem_blks.1 hi)).1

theorem CoreIn.keeps {F : List Nat} {w w' : World} {base b : Nat} {T : TypeId} {rest : List Value} {ov sv : Value} {k : Core} (h : CoreIn w base b T rest ov sv k) (kp : Keeps F w w') (hF : ∀ i ∈ coBlks b ov sv, i ∉ F) : CoreIn w' base b T rest ov sv k :=
  ⟨h.blk.keeps kp (hF b (coBlks_self _ _ _)), ownsRow_keeps h.opn kp (fun i hi => hF i (coBlks_ov (mem_blks.2 hi))), ownsRow_keeps h.s kp (fun i hi => hF i (coBlks_sv (mem_blks.2 hi))), h.bo, h.bs, h.os⟩

theorem CoreIn.keep0 {w w' : World} {base b : Nat} {T : TypeId} {rest : List Value} {ov sv : Value} {k : Core} (h : CoreIn w base b T rest ov sv k) (kp : Keeps [] w w') : CoreIn w' base b T rest ov sv k := h.keeps kp (by simp)

/-- one of its own cells is turned -/
theorem CoreIn.put {w : World} {base b : Nat} {T : TypeId} {rest : List Value} {ov sv : Value} {k : Core} (h : CoreIn w base b T rest ov sv k) {i : Nat} {u : Value} {k' : Core} (hi : i < 12) (hk : (coreCells k ov sv).set i u = coreCells k' ov sv) (ho : k'.open_ = k.open_) (hs : k'.s = k.s) :
    CoreIn (w.setCell ⟨b, i, none⟩ u) base b T rest ov sv k' := by
  have hset : Keeps [b] w (w.setCell ⟨b, i, none⟩ u) := (Keeps.refl _ _).set1 _
  refine ⟨(h.blk.set i u).conv (by rw [List.set_append_left _ _ (by simpa [coreCells] using hi), hk]), ?_, ?_, h.bo, h.bs, h.os⟩
  · rw [ho]; exact ownsRow_keeps h.opn hset (fun i hi hm => h.bo (by rw [List.mem_singleton] at hm; exact hm ▸ mem_blks.2 hi))
  · rw [hs]; exact ownsRow_keeps h.s hset (fun i hi hm => h.bs (by rw [List.mem_singleton] at hm; exact hm ▸ mem_blks.2 hi))

/-- one of the cells behind it is turned -/
theorem CoreIn.putRest {w : World} {base b : Nat} {T : TypeId} {rest : List Value} {ov sv : Value} {k : Core} (h : CoreIn w base b T rest ov sv k) {i : Nat} {u : Value} :
    CoreIn (w.setCell ⟨b, 12 + i, none⟩ u) base b T (rest.set i u) ov sv k := by
  have hset : Keeps [b] w (w.setCell ⟨b, 12 + i, none⟩ u) := (Keeps.refl _ _).set1 _
  refine ⟨(h.blk.set (12 + i) u).conv ?_, ownsRow_keeps h.opn hset (fun i hi hm => h.bo (by rw [List.mem_singleton] at hm; exact hm ▸ mem_blks.2 hi)), ownsRow_keeps h.s hset (fun i hi hm => h.bs (by rw [List.mem_singleton] at hm; exact hm ▸ mem_blks.2 hi)), h.bo, h.bs, h.os⟩
  have hl : (coreCells k ov sv).length = 12 := rfl
  rw [List.set_append_right _ _ (by omega), hl]
  congr 2
  omega

/-- what a method of the Core leaves -/
def CorePost (w : World) (base b : Nat) (T : TypeId) (rest : List Value) (ov sv : Value) (k' : Core) (w' : World) : Prop :=
  ∃ ov' sv', CoreIn w' base b T rest ov' sv' k' ∧ Keeps (coBlks b ov sv) w w' ∧ ∀ i ∈ coBlks b ov' sv', i ∈ coBlks b ov sv ∨ w.heap.size ≤ i

theorem CorePost.trans {w w1 w2 : World} {base b : Nat} {T : TypeId} {rest rest' : List Value} {ov sv ov1 sv1 : Value} {k2 : Core} (kp : Keeps (coBlks b ov sv) w w1) (hs : ∀ i ∈ coBlks b ov1 sv1, i ∈ coBlks b ov sv ∨ w.heap.size ≤ i) (h : CorePost w1 base b T rest ov1 sv1 k2 w2) (_ : rest' = rest) : CorePost w base b T rest ov sv k2 w2 := by
  obtain ⟨ov2, sv2, h1, h2, h3⟩ := h
  refine ⟨ov2, sv2, h1, kp.trans' h2 hs, fun i hi => ?_⟩
  rcases h3 i hi with h | h
  · exact hs i h
  · exact Or.inr (Nat.le_trans kp.size h)

theorem CorePost.same {w w' : World} {base b : Nat} {T : TypeId} {rest : List Value} {ov sv : Value} {k : Core} (h : CoreIn w' base b T rest ov sv k) (kp : Keeps (coBlks b ov sv) w w') : CorePost w base b T rest ov sv k w' :=
  ⟨ov, sv, h, kp, fun _ hi => Or.inl hi⟩

theorem core_facts {w : World} {base b : Nat} {T : TypeId} {rest : List Value} {ov sv : Value} {k : Core} (h : CoreIn w base b T rest ov sv k) :
    w.cell? ⟨b, 0, none⟩ = some (.int .i64 k.depth) ∧ w.cell? ⟨b, 1, none⟩ = some ov ∧ w.cell? ⟨b, 2, none⟩ = some (.bool k.done) ∧ w.cell? ⟨b, 3, none⟩ = some (.int .i64 k.e) ∧ w.cell? ⟨b, 4, none⟩ = some (.bool k.word) ∧ w.cell? ⟨b, 5, none⟩ = some (.bool k.chunks) ∧ w.cell? ⟨b, 6, none⟩ = some (.int .i64 k.lack) ∧ w.cell? ⟨b, 7, none⟩ = some sv :=
  ⟨h.blk.cell 0, h.blk.cell 1, h.blk.cell 2, h.blk.cell 3, h.blk.cell 4, h.blk.cell 5, h.blk.cell 6, h.blk.cell 7⟩

theorem core_free {w : World} {base b : Nat} {T : TypeId} {rest : List Value} {ov sv : Value} {k : Core} (h : CoreIn w base b T rest ov sv k) :
    w.frozen? ⟨b, 1, none⟩ = false ∧ w.frozen? ⟨b, 2, none⟩ = false ∧ w.frozen? ⟨b, 3, none⟩ = false ∧ w.frozen? ⟨b, 4, none⟩ = false ∧ w.frozen? ⟨b, 5, none⟩ = false ∧ w.frozen? ⟨b, 6, none⟩ = false ∧ w.frozen? ⟨b, 7, none⟩ = false ∧ b < w.heap.size :=
  ⟨h.blk.free 1, h.blk.free 2, h.blk.free 3, h.blk.free 4, h.blk.free 5, h.blk.free 6, h.blk.free 7, h.blk.lt⟩

/-- the open containers have been put back: fewer, in the same row; or more -/
theorem CoreIn.setOpn {w w2 : World} {base b : Nat} {T : TypeId} {rest : List Value} {ov sv v2 : Value} {k : Core} {l : List Cont} (h : CoreIn w base b T rest ov sv k) (hown : OwnsStk w2 base 102 v2 l) (kp : Keeps (blks ov) w w2) (hb : v2.ownBlock = ov.ownBlock ∨ ∃ n, v2.ownBlock = some n ∧ w.heap.size ≤ n) :
    CoreIn (w2.setCell ⟨b, 1, none⟩ v2) base b T rest v2 sv { k with open_ := l } ∧ Keeps (coBlks b ov sv) w (w2.setCell ⟨b, 1, none⟩ v2) ∧ ∀ i ∈ coBlks b v2 sv, i ∈ coBlks b ov sv ∨ w.heap.size ≤ i := by
  have hbl := h.blk.lt
  have hnew : ∀ i, i ∈ blks v2 → i ∈ blks ov ∨ w.heap.size ≤ i := fun i hi => by
    rw [mem_blks] at hi ⊢
    rcases hb with h1 | ⟨n, h1, h2⟩
    · rw [← h1]; exact Or.inl hi
    · rw [h1] at hi
      injection hi with hi
      exact Or.inr (hi ▸ h2)
  have hb2 : b ∉ blks v2 := fun hm => by
    rcases hnew b hm with h1 | h1
    · exact h.bo h1
    · omega
  have hset : Keeps [b] w2 (w2.setCell ⟨b, 1, none⟩ v2) := (Keeps.refl _ _).set1 v2
  have hs : OwnsBytes w2 base sv k.s := ownsRow_keeps h.s kp (fun i hi hm => h.os i hm (mem_blks.2 hi))
  refine ⟨⟨(h.blk.keeps kp h.bo).set 1 v2, ownsRow_keeps hown hset (fun i hi hm => hb2 (by rw [List.mem_singleton] at hm; exact hm ▸ mem_blks.2 hi)), ownsRow_keeps hs hset (fun i hi hm => h.bs (by rw [List.mem_singleton] at hm; exact hm ▸ mem_blks.2 hi)), hb2, h.bs, fun i hi hm => ?_⟩, ?_, fun i hi => ?_⟩
  · rcases hnew i hi with h1 | h1
    · exact h.os i h1 hm
    · have := (World.ownsRow.lt h.s i (mem_blks.1 hm)).2
      omega
  · exact (kp.mono (fun i hi => coBlks_ov hi)).trans (hset.mono (fun i hi => by rw [List.mem_singleton] at hi; exact hi ▸ coBlks_self _ _ _))
  · rcases List.mem_cons.1 hi with rfl | hi
    · exact Or.inl (coBlks_self _ _ _)
    · rcases List.mem_append.1 hi with hi | hi
      · rcases hnew i hi with h1 | h1
        · exact Or.inl (coBlks_ov h1)
        · exact Or.inr h1
      · exact Or.inl (coBlks_sv hi)

/-- the bytes have been put back: more, or none -/
theorem CoreIn.setS {w w2 : World} {base b : Nat} {T : TypeId} {rest : List Value} {ov sv v2 : Value} {k : Core} {l : List UInt8} (h : CoreIn w base b T rest ov sv k) (hown : OwnsBytes w2 base v2 l) (kp : Keeps (blks sv) w w2) (hb : v2.ownBlock = sv.ownBlock ∨ v2.ownBlock = none ∨ ∃ n, v2.ownBlock = some n ∧ w.heap.size ≤ n) :
    CoreIn (w2.setCell ⟨b, 7, none⟩ v2) base b T rest ov v2 { k with s := l } ∧ Keeps (coBlks b ov sv) w (w2.setCell ⟨b, 7, none⟩ v2) ∧ ∀ i ∈ coBlks b ov v2, i ∈ coBlks b ov sv ∨ w.heap.size ≤ i := by
  have hbl := h.blk.lt
  have hnew : ∀ i, i ∈ blks v2 → i ∈ blks sv ∨ w.heap.size ≤ i := fun i hi => by
    rw [mem_blks] at hi ⊢
    rcases hb with h1 | h1 | ⟨n, h1, h2⟩
    · rw [← h1]; exact Or.inl hi
    · rw [h1] at hi; cases hi
    · rw [h1] at hi
      injection hi with hi
      exact Or.inr (hi ▸ h2)
  have hb2 : b ∉ blks v2 := fun hm => by
    rcases hnew b hm with h1 | h1
    · exact h.bs h1
    · omega
  have hset : Keeps [b] w2 (w2.setCell ⟨b, 7, none⟩ v2) := (Keeps.refl _ _).set1 v2
  have ho : OwnsStk w2 base 102 ov k.open_ := ownsRow_keeps h.opn kp (fun i hi hm => h.os i (mem_blks.2 hi) hm)
  refine ⟨⟨(h.blk.keeps kp h.bs).set 7 v2, ownsRow_keeps ho hset (fun i hi hm => h.bo (by rw [List.mem_singleton] at hm; exact hm ▸ mem_blks.2 hi)), ownsRow_keeps hown hset (fun i hi hm => hb2 (by rw [List.mem_singleton] at hm; exact hm ▸ mem_blks.2 hi)), h.bo, hb2, fun i hi hm => ?_⟩, ?_, fun i hi => ?_⟩
  · rcases hnew i hm with h1 | h1
    · exact h.os i hi h1
    · have := (World.ownsRow.lt h.opn i (mem_blks.1 hi)).2
      omega
  · exact (kp.mono (fun i hi => coBlks_sv hi)).trans (hset.mono (fun i hi => by rw [List.mem_singleton] at hi; exact hi ▸ coBlks_self _ _ _))
  · rcases List.mem_cons.1 hi with rfl | hi
    · exact Or.inl (coBlks_self _ _ _)
    · rcases List.mem_append.1 hi with hi | hi
      · exact Or.inl (coBlks_ov hi)
      · rcases hnew i hi with h1 | h1
        · exact Or.inl (coBlks_sv h1)
        · exact Or.inr h1

/-- the innermost container has one part more -/
theorem CoreIn.bump {w : World} {base b g cap : Nat} {T : TypeId} {rest : List Value} {sv : Value} {k : Core} {c : Cont} {r : List Cont} (h : CoreIn w base b T rest (.slice (some ⟨g, 0, none⟩) (r.length + 1) cap) sv k) (ho : k.open_ = c :: r) (x : Int) :
    CoreIn (w.setCell ⟨g, r.length * 3 + 2, none⟩ (.int .i64 x)) base b T rest (.slice (some ⟨g, 0, none⟩) (r.length + 1) cap) sv { k with open_ := { c with parts := x } :: r } := by
  have hgb : b ≠ g := fun e => h.bo (by rw [mem_blks, e]; rfl)
  have hset : Keeps [g] w (w.setCell ⟨g, r.length * 3 + 2, none⟩ (.int .i64 x)) := (Keeps.refl _ _).set1 _
  have hopn := h.opn
  rw [ho] at hopn
  exact ⟨h.blk.other hgb _, OwnsStk.setParts hopn x, ownsRow_keeps h.s hset (fun j hj hm => h.os g (by rw [mem_blks]; rfl) (by rw [List.mem_singleton] at hm; rw [← hm, mem_blks]; exact hj)), h.bo, h.bs, h.os⟩
end Go.Tru
