/-
  truchmanbook.Doc in memory; its function next.
-/
import Derived.Test.YtdfdajedcgmbfaaDocText
import Derived.Test.YtdfdajedcgmbfaaEvRow
import Derived.Test.YtdfdajedcgmbfaaAnys
namespace Go.Tru

/-- the blocks of Doc's variables, one behind the other -/
structure DocLay (w0 : World) (bL bD bO bA bN bI : Nat) : Prop where
  h0 : w0.heap.size ≤ bL
  h1 : bL < bD
  h2 : bD < bO
  h3 : bO < bA
  h4 : bA < bN
  h5 : bN < bI

/-- Doc's variables: the numbers, the depth, what is out, how many numbers were asked for, the two functions. -/
structure DocIn (w0 w : World) (bL bD bO bA bN bI : Nat) (o : Option Addr) (n c : Nat) (xs : List Int) (dep : Int) (at_ : Nat) (es : List Ev) (v : Value) : Prop where
  lay : DocLay w0 bL bD bO bA bN bI
  l : Has w bL [.slice o n c] 22
  d : Has w bD [.int .i64 dep] 3
  out : Has w bO [v] 24
  own : OwnsEvs w (bI + 1) v es
  a : Has w bA [.int .i64 at_] 3
  nx : Has w bN [.func (.func 11) #[] #[.pointer (some ⟨bA, 0, none⟩), .pointer (some ⟨bL, 0, none⟩)]] 43
  it : Has w bI [.func (.func 12) #[] #[.pointer (some ⟨bN, 0, none⟩), .pointer (some ⟨bO, 0, none⟩), .pointer (some ⟨bD, 0, none⟩), .pointer (some ⟨bI, 0, none⟩)]] 44
  ints : IntsIn w0 o n c xs
  keep : Keeps [] w0 w

theorem DocIn.blk {w0 w : World} {bL bD bO bA bN bI : Nat} {o : Option Addr} {n c : Nat} {xs : List Int} {dep : Int} {at_ : Nat} {es : List Ev} {v : Value} (h : DocIn w0 w bL bD bO bA bN bI o n c xs dep at_ es v) : ∀ i ∈ blks v, bI < i := by
  intro i hi
  have := (World.ownsRow.lt h.own i (mem_blks.1 hi)).1
  omega

theorem DocIn.keep0 {w0 w w' : World} {bL bD bO bA bN bI : Nat} {o : Option Addr} {n c : Nat} {xs : List Int} {dep : Int} {at_ : Nat} {es : List Ev} {v : Value} (h : DocIn w0 w bL bD bO bA bN bI o n c xs dep at_ es v) (k : Keeps [] w w') :
    DocIn w0 w' bL bD bO bA bN bI o n c xs dep at_ es v :=
  ⟨h.lay, h.l.keeps k (by simp), h.d.keeps k (by simp), h.out.keeps k (by simp), ownsRow_keeps h.own k (by simp), h.a.keeps k (by simp), h.nx.keeps k (by simp), h.it.keeps k (by simp), h.ints, h.keep.trans k⟩

theorem DocIn.setAt {w0 w : World} {bL bD bO bA bN bI : Nat} {o : Option Addr} {n c : Nat} {xs : List Int} {dep : Int} {at_ : Nat} {es : List Ev} {v : Value} (h : DocIn w0 w bL bD bO bA bN bI o n c xs dep at_ es v) (m : Nat) {x : Int} (hx : x = m) :
    DocIn w0 (w.setCell ⟨bA, 0, none⟩ (.int .i64 x)) bL bD bO bA bN bI o n c xs dep m es v := by
  subst hx
  obtain ⟨h0, h1, h2, h3, h4, h5⟩ := h.lay
  have hset : Keeps [bA] w (w.setCell ⟨bA, 0, none⟩ (.int .i64 (m : Int))) := (Keeps.refl _ _).set1 _
  exact ⟨h.lay, h.l.keeps hset (by simp; omega), h.d.keeps hset (by simp; omega), h.out.keeps hset (by simp; omega), ownsRow_keeps h.own hset (fun i hi hm => by rw [List.mem_singleton] at hm; have := h.blk i (mem_blks.2 hi); omega), h.a.set 0 _, h.nx.keeps hset (by simp; omega), h.it.keeps hset (by simp; omega), h.ints, h.keep.trans' hset (by intro i hi; rw [List.mem_singleton] at hi; right; omega)⟩

theorem DocIn.push {w0 w w2 : World} {bL bD bO bA bN bI : Nat} {o : Option Addr} {n c : Nat} {xs : List Int} {dep : Int} {at_ : Nat} {es es2 : List Ev} {v v2 : Value} (h : DocIn w0 w bL bD bO bA bN bI o n c xs dep at_ es v) (hown : OwnsEvs w2 (bI + 1) v2 es2) (k : Keeps (blks v) w w2) :
    DocIn w0 (w2.setCell ⟨bO, 0, none⟩ v2) bL bD bO bA bN bI o n c xs dep at_ es2 v2 := by
  obtain ⟨h0, h1, h2, h3, h4, h5⟩ := h.lay
  have hb := h.blk
  have hset : Keeps [bO] w2 (w2.setCell ⟨bO, 0, none⟩ v2) := (Keeps.refl _ _).set1 _
  have hk : ∀ b, b ≤ bI → b ∉ blks v := fun b hb2 hm => by have := hb b hm; omega
  exact ⟨h.lay, (h.l.keeps k (hk _ (by omega))).keeps hset (by simp; omega), (h.d.keeps k (hk _ (by omega))).keeps hset (by simp; omega), (h.out.keeps k (hk _ (by omega))).set 0 _,
    ownsRow_keeps hown hset (fun i hi hm => by rw [List.mem_singleton] at hm; have := (World.ownsRow.lt hown i hi).1; omega), (h.a.keeps k (hk _ (by omega))).keeps hset (by simp; omega), (h.nx.keeps k (hk _ (by omega))).keeps hset (by simp; omega), (h.it.keeps k (hk _ (by omega))).keeps hset (by simp; omega), h.ints,
    (h.keep.trans' k (fun i hi => Or.inr (by have := hb i hi; omega))).trans' hset (by intro i hi; rw [List.mem_singleton] at hi; right; omega)⟩
end Go.Tru
namespace Go.Proofs.Ytdfdajedcgmbfaa
open Go.RowKit Go.Tru

theorem docNext_any {w0 w : World} {bL bD bO bA bN bI : Nat} {o : Option Addr} {n c : Nat} {xs : List Int} {dep : Int} {at_ : Nat} {es : List Ev} {v : Value} (h : DocIn w0 w bL bD bO bA bN bI o n c xs dep at_ es v) (hat : at_ ≤ 1000000) :
    Calls Try.prog 11 #[.pointer (some ⟨bA, 0, none⟩), .pointer (some ⟨bL, 0, none⟩)] w fun e w' =>
      e = .returned (.int .i64 (Go.Tru.nx (xs.drop at_)).1) ∧ DocIn w0 w' bL bD bO bA bN bI o n c xs dep (at_ + 1) es v ∧ (Go.Tru.nx (xs.drop at_)).2 = xs.drop (at_ + 1) := by
  have H := Lib.hid h
  have hl := h.ints.len
  have hr := h.ints.room
  have hm := h.ints.most
  unfold maxLen at hm
  have g0 : w.cell? ⟨bA, 0, none⟩ = some (.int .i64 at_) := h.a.cell 0
  have f0 := h.a.free 0
  have g1 : w.cell? ⟨bL, 0, none⟩ = some (.slice o n c) := h.l.cell 0
  have hne1 : bA ≠ bL := by have := h.lay.h1; have := h.lay.h2; have := h.lay.h3; omega
  have hne2 : bL ≠ bA := fun e => hne1 e.symm
  have hend : at_ < n ∨ n ≤ at_ := by omega
  have HS := Lib.hid (h.setAt (at_ + 1) (x := (at_ : Int) + 1) (by simp))
  have L := Lib.hid hl
  rcases hend with hlt | hge
  · have hx : at_ < xs.length := by omega
    obtain ⟨b1, f1, rfl, g2⟩ := (h.ints.keeps h.keep).get hlt hx
    have hdr : xs.drop at_ = xs[at_] :: xs.drop (at_ + 1) := List.drop_eq_getElem_cons hx
    have hb1 : b1 ≠ bA := by
      intro e
      rcases h.ints.at_ with h0 | ⟨b, off, e1, e2, _⟩
      · omega
      · simp only [Option.some.injEq, Addr.mk.injEq, and_true] at e1
        have := h.lay.h0; have := h.lay.h1; have := h.lay.h2; have := h.lay.h3
        omega
    have hb2 : bA ≠ b1 := fun e => hb1 e.symm
    have hand : bits .and .i64 xs[at_] 65535 = ((nx (xs.drop at_)).1 : Int) := by
      rw [i64_and65535, hdr]; simp only [nx]; omega
    have h2 : (nx (xs.drop at_)).2 = xs.drop (at_ + 1) := by rw [hdr]; rfl
    have H2 := Lib.hid h2
    generalize (nx (xs.drop at_)).1 = y at hand ⊢
    clear h hl hdr h2
    go_enter Try.func11, Try.ntmps11
    go_wp2_with fail
    go_ret
    exact ⟨rfl, HS.out, H2.out⟩
  · have h1 : nx (xs.drop at_) = (0, []) := by rw [List.drop_of_length_le (by omega)]; rfl
    have h2 : xs.drop (at_ + 1) = [] := List.drop_of_length_le (by omega)
    rw [h1, h2]
    clear h hl h1 h2
    go_enter Try.func11, Try.ntmps11
    go_wp2_with fail
    go_ret
    exact ⟨rfl, HS.out, by first | trivial | rfl⟩
end Go.Proofs.Ytdfdajedcgmbfaa
