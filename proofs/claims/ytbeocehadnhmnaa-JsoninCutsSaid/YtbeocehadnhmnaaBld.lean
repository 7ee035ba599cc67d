/-
  A strings.Builder in the middle of a block: copyCheck, Len, Reset, WriteString, String.
-/
import Derived.Test.YtbeocehadnhmnaaRows
import Derived.Test.YtbeocehadnhmnaaBlks
import Derived.Lib.Builder
import Derived.Lib.Strings
import Derived.Laws.Externs
namespace Go.Proofs.Ytbeocehadnhmnaa
open Go.RowKit Go.Tru

/-- a Builder may lie at this place of a block of n cells of type T -/
structure BldT (T : TypeId) (n off : Nat) : Prop where
  lies : liesAt Try.prog Try.prog.depth T (n / Try.prog.cellsOf T) off 77 1 = true
  lt : off < n
  ne : T ≠ 5

theorem info_bld : (Try.prog.info? 77).map (·.size) = some 2 := by kernel_rfl
theorem info_byte : (Try.prog.info? 5).map (fun i => (i.zero, i.size, i.bytes)) = some (some (.int .u8 0), 1, 1) := by kernel_rfl
theorem cells_byte : Try.prog.cellsOf 5 = 1 := by kernel_rfl

theorem bld_cell {w : World} {b : Nat} {pre post : List Value} {T : TypeId} {p v : Value} {off : Nat} (h : Has w b (pre ++ [p, v] ++ post) T) (ho : off = pre.length) :
    w.cell? ⟨b, off, none⟩ = some p ∧ w.cell? ⟨b, off + 1, none⟩ = some v ∧ w.frozen? ⟨b, off, none⟩ = false ∧ w.frozen? ⟨b, off + 1, none⟩ = false ∧ w.shape? b = some (T, pre.length + 2 + post.length) := by
  refine ⟨mid_cell h ho 0 (by simp), mid_cell h ho 1 (by simp), h.free _, h.free _, ?_⟩
  have hb : w.heap[b]? = _ := h
  simp [World.shape?, hb]
  omega

set_option maxHeartbeats 1000000 in
set_option maxRecDepth 100000 in
theorem bld_copy (b : Nat) (pre post : List Value) (T : TypeId) (p v : Value) (w : World) (h : Has w b (pre ++ [p, v] ++ post) T) (off : Nat) (hoff : off = pre.length) (hp : p = .pointer none ∨ p = .pointer (some ⟨b, off, none⟩)) (ht : BldT T (pre.length + 2 + post.length) off) :
    Calls Try.prog 60 #[.pointer (some ⟨b, off, none⟩)] w fun e w' => e = .returned (.tuple #[]) ∧ Has w' b (pre ++ [.pointer (some ⟨b, off, none⟩), v] ++ post) T ∧ Keeps [b] w w' := by
  obtain ⟨j, hj, hjs⟩ := Option.map_eq_some_iff.1 info_bld
  obtain ⟨h0, h1, f0, f1, hsh⟩ := bld_cell h hoff
  have HO := Lib.hid hoff
  rcases hp with rfl | rfl
  · have H := Lib.hid h
    clear h hoff
    go_enter Try.func60, Try.ntmps60
    go_wp2
    rw [Lib.run_to_unsafe w ⟨b, off, none⟩ Try.underlying75 Try.underlying136 hj (by rw [hjs]; decide) hsh ht.lt]
    simp only [Result.andThen]
    rw [Oper.upon_value]
    go_wp2
    rw [run_callFunc_extern Try.func66 (by kernel_rfl) (by kernel_rfl) (by kernel_rfl) (e := Extern.AbiNoEscape.same) (by kernel_rfl)]
    rw [Lib.run_noEscape]
    simp only [Result.andThen]
    rw [Oper.upon_value]
    go_wp2
    rw [Lib.run_from_unsafe w ⟨b, off, none⟩ Try.underlying136 Try.underlying75 hj hsh ht.lies]
    simp only [Result.andThen]
    rw [Oper.upon_value]
    go_wp2
    go_end0
    exact ⟨rfl, (mid_set0 H.out HO.out _ (by simp)).conv (by simp), (Keeps.refl _ _).set1 _⟩
  · have H := Lib.hid h
    clear h hoff
    go_enter Try.func60, Try.ntmps60
    go_wp2
    rw [Lib.run_neq_ptr_same w _ Try.underlying75 hj]
    go_wp2
    go_end0
    exact ⟨rfl, H.out, Keeps.refl _ _⟩

theorem bld_len (b : Nat) (pre post : List Value) (T : TypeId) (p : Value) (o : Option Addr) (n c : Nat) (w : World) (h : Has w b (pre ++ [p, .slice o n c] ++ post) T) (off : Nat) (hoff : off = pre.length) :
    Calls Try.prog 48 #[.pointer (some ⟨b, off, none⟩)] w fun e w' => e = .returned (.int .i64 n) ∧ w = w' := by
  obtain ⟨h0, h1, f0, f1, hsh⟩ := bld_cell h hoff
  clear h hoff
  go_enter Try.func48, Try.ntmps48
  go_wp2
  go_ret
  exact ⟨rfl, rfl⟩

theorem bld_reset (b : Nat) (pre post : List Value) (T : TypeId) (p v : Value) (w : World) (h : Has w b (pre ++ [p, v] ++ post) T) (off : Nat) (hoff : off = pre.length) :
    Calls Try.prog 51 #[.pointer (some ⟨b, off, none⟩)] w fun e w' => e = .returned (.tuple #[]) ∧ Has w' b (pre ++ [.pointer none, .slice none 0 0] ++ post) T ∧ Keeps [b] w w' := by
  obtain ⟨h0, h1, f0, f1, hsh⟩ := bld_cell h hoff
  have H := Lib.hid h
  have HO := Lib.hid hoff
  clear h hoff
  go_enter Try.func51, Try.ntmps51
  go_wp2
  go_end0
  exact ⟨rfl, (mid_set (mid_set0 H.out HO.out _ (by simp)) HO.out 1 _ (by simp)).conv (by simp), ((Keeps.refl _ _).set1 _).set1 _⟩

/-- a Builder's buffer: an own row of these bytes -/
def BufIs (w : World) (base : Nat) (v : Value) (l : List UInt8) : Prop := w.ownsRow base 5 1 v l.length (Lib.byteCells l)

theorem BufIs.nil (w : World) (base : Nat) : BufIs w base (.slice none 0 0) [] := World.ownsRow_nil _ _ _ _

theorem BufIs.shape {w : World} {base : Nat} {v : Value} {l : List UInt8} (h : BufIs w base v l) : ∃ a cap, v = .slice a l.length cap := by
  rcases h.2 with ⟨h1, h2⟩ | ⟨g, cap, cur, h1, _⟩
  · exact ⟨none, 0, by rw [h1, h2]⟩
  · exact ⟨_, _, h1⟩

theorem strCells_of (s : ByteArray) : Lib.strCells s = Lib.byteCells s.data.toList := rfl
theorem byteCells_append (l m : List UInt8) : Lib.byteCells (l ++ m) = Lib.byteCells l ++ Lib.byteCells m := by simp [Lib.byteCells]

/-- the block that a buffer lies in is none of another type -/
theorem BufIs.ne {w : World} {base : Nat} {v : Value} {l : List UInt8} (h : BufIs w base v l) {b : Nat} {cs : List Value} {T : TypeId} (hb : Has w b cs T) (hT : T ≠ 5) : b ∉ blks v := fun hm =>
  Lib.ownBlock_ne h hb hT (mem_blks.1 hm)

set_option maxHeartbeats 2000000 in
set_option maxRecDepth 100000 in
theorem bld_write (b : Nat) (pre post : List Value) (T : TypeId) (p v : Value) (base : Nat) (l : List UInt8) (s : ByteArray) (w : World) (h : Has w b (pre ++ [p, v] ++ post) T) (off : Nat) (hoff : off = pre.length) (hp : p = .pointer none ∨ p = .pointer (some ⟨b, off, none⟩)) (ht : BldT T (pre.length + 2 + post.length) off)
    (hown : BufIs w base v l) (hlen : l.length + s.size ≤ 1000000) (hbase : base ≤ w.heap.size) :
    Calls Try.prog 47 #[.pointer (some ⟨b, off, none⟩), .string s] w fun e w' => e = .returned (.tuple #[.int .i64 s.size, .nilIface]) ∧
      ∃ v', Has w' b (pre ++ [.pointer (some ⟨b, off, none⟩), v'] ++ post) T ∧ BufIs w' base v' (l ++ s.data.toList) ∧ Keeps (b :: blks v) w w' ∧ ∀ i ∈ blks v', i ∈ blks v ∨ w.heap.size ≤ i := by
  obtain ⟨i0, hi, hz0, hz1, hz2⟩ := info_parts info_byte
  have hbv := hown.ne h ht.ne
  have hl := h.lt
  have HOF := Lib.hid hoff
  have HP := Lib.hid hp
  have HT := Lib.hid ht
  have H := Lib.hid h
  have HW := Lib.hid hown
  have HBV := Lib.hid hbv
  clear hoff hp ht h hown hbv
  go_enter Try.func47, Try.ntmps47
  go_wp2_with fail
  refine (bld_copy b pre post T p v w H.out off HOF.out HP.out HT.out).mono ?_
  rintro e w1 ⟨rfl, h1, k1⟩
  obtain ⟨c0, c1, f0, f1, hsh⟩ := bld_cell h1 HOF.out
  have hown1 : BufIs w1 base v l := ownsRow_keeps HW.out k1 (fun i hi hm => HBV.out (by rw [List.mem_singleton] at hm; exact hm ▸ mem_blks.2 hi))
  go_wp2_with (at_builtin; refine wpList_append_str_at _ rfl _ _ 42 9 rfl base 5 i0 Try.underlying42 Try.underlying9 hi hz0 hz1 hz2 _ _ _ rfl hown1 s rfl ?c3 ?c4 ?c5 ?_)
  case c3 => unfold maxLen; omega
  case c4 => omega
  case c5 => have := k1.size; omega
  intro v' w2 hown' hgrow hat
  have hk2 := keeps_grown hgrow
  have h2 := h1.keeps hk2 HBV.out
  obtain ⟨d0, d1, e0, e1, hsh2⟩ := bld_cell h2 HOF.out
  have hown2 : BufIs w2 base v' (l ++ s.data.toList) := by
    unfold BufIs
    rw [byteCells_append, List.length_append, Array.length_toList]
    exact hown'
  obtain ⟨ao, cap, hv'⟩ := hown2.shape
  obtain ⟨n2, hn2⟩ : ∃ n2, (l ++ s.data.toList).length = n2 := ⟨_, rfl⟩
  rw [hn2] at hv'
  have hbv2 := hown2.ne h2 HT.out.ne
  subst hv'
  have H2 := Lib.hid h2
  have HO := Lib.hid hown2
  have K1 := Lib.hid k1
  have K2 := Lib.hid hk2
  have HB := Lib.hid hbv2
  have HA := Lib.hid hat
  clear h2 hown2 k1 hk2 hbv2 hat hown' hgrow hown1 h1 hsh hsh2 hn2
  go_wp2
  go_ret2
  refine ⟨rfl, _, (mid_set H2.out HOF.out 1 _ (by simp)).conv (by simp; rfl), ?_, ?_, fun i hi => ?_⟩
  · exact ownsRow_keeps HO.out ((Keeps.refl [b] _).set1 _) (fun i hi hm => HB.out (by rw [List.mem_singleton] at hm; exact hm ▸ mem_blks.2 hi))
  · exact ((K1.out.mono (by simp)).trans (K2.out.mono (fun i hi => List.mem_cons_of_mem _ hi))).setCell (Or.inl (by simp)) _
  · rcases HA.out i (mem_blks.1 hi) with h | h
    · exact Or.inl (mem_blks.2 h)
    · exact Or.inr (by have := K1.out.size; omega)

theorem keeps_froze {w : World} {g : Nat} (n : Nat) : Keeps [g] w (w.drew.freeze ⟨g, 0, none⟩ n) := (Keeps.refl [g] w).drew.freeze (Or.inl (by simp)) n

set_option maxHeartbeats 1000000 in
set_option maxRecDepth 100000 in
theorem bld_string (b : Nat) (pre post : List Value) (T : TypeId) (p v : Value) (base : Nat) (l : List UInt8) (w : World) (h : Has w b (pre ++ [p, v] ++ post) T) (off : Nat) (hoff : off = pre.length)
    (hown : BufIs w base v l) :
    Calls Try.prog 45 #[.pointer (some ⟨b, off, none⟩)] w fun e w' => e = .returned (.string ⟨l.toArray⟩) ∧ Keeps (blks v) w w' := by
  by_cases h0 : l = []
  · subst h0
    have hUS : ∀ (W : World) (q : Option Addr), (Builtin.unsafeString_ #[128, 3] 9 #[.pointer q, .int .i64 0]).run Try.prog W = .ok (.string .empty) W := fun W q => Lib.run_unsafeString_none W _ _ _ q
    rcases hown.2 with ⟨rfl, _⟩ | ⟨g, cap, cur, rfl, hbg, hg, _, _, _, _⟩
    · obtain ⟨c0, c1, f0, f1, hsh⟩ := bld_cell (w := w.drew) h hoff
      have hSD : (Builtin.unsafeSliceData_ #[42] 128 #[.slice none 0 0]).run Try.prog w.drew = .ok (.pointer none) w.drew := rfl
      clear h hoff
      go_enter Try.func45, Try.ntmps45
      go_wp2
      go_region
      all_goals (go_wp2; go_ret; exact ⟨rfl, (Keeps.refl _ _).drew⟩)
    · by_cases hc0 : cap = 0
      · subst hc0
        obtain ⟨c0, c1, f0, f1, hsh⟩ := bld_cell (w := w.drew) h hoff
        have hSD : (Builtin.unsafeSliceData_ #[42] 128 #[.slice (some ⟨g, 0, none⟩) 0 0]).run Try.prog w.drew = .ok (.pointer (some ⟨w.drew.heap.size, 0, none⟩)) (w.drew.alloc (.view ⟨g, 0, none⟩ 5)) :=
          Lib.run_unsafeSliceData_zero w.drew _ _ 5 Try.underlying128 ⟨g, 0, none⟩ 0 (5, cur.size) (by have hg' : w.drew.heap[g]? = some (.cells cur 5 (0, 0)) := hg; simp [World.shape?, hg'])
        obtain ⟨d0, d1, _, _, _⟩ := bld_cell (Has.alloc (w := w.drew) h (.view ⟨g, 0, none⟩ 5)) hoff
        have c3 : (w.alloc (.view ⟨g, 0, none⟩ 5)).drew.cell? ⟨b, off + 1, none⟩ = some (.slice (some ⟨g, 0, none⟩) 0 0) := d1
        have c4 : w.cell? ⟨b, off + 1, none⟩ = some (.slice (some ⟨g, 0, none⟩) 0 0) := c1
        clear h hoff
        go_enter Try.func45, Try.ntmps45
        go_wp2
        go_region
        all_goals (go_wp2; go_ret; exact ⟨rfl, ((Keeps.refl _ _).drew).alloc _⟩)
      · obtain ⟨c0, c1, f0, f1, hsh⟩ := bld_cell (w := w.drew) h hoff
        have hSD : (Builtin.unsafeSliceData_ #[42] 128 #[.slice (some ⟨g, 0, none⟩) 0 cap]).run Try.prog w.drew = .ok (.pointer (some ⟨g, 0, none⟩)) w.drew :=
          Lib.run_unsafeSliceData_row _ _ _ _ _ _ hc0
        clear h hoff hc0
        go_enter Try.func45, Try.ntmps45
        go_wp2
        go_region
        all_goals (go_wp2; go_ret; exact ⟨rfl, (Keeps.refl _ _).drew⟩)
  · have hl0 : l.length ≠ 0 := by simpa using h0
    obtain ⟨g, cap, cur, rfl, hbg, hg, hnc, hcm, hcs, htake⟩ : ∃ g cap cur, v = .slice (some ⟨g, 0, none⟩) l.length cap ∧ base ≤ g ∧ w.heap[g]? = some (.cells cur 5 (0, 0)) ∧ l.length ≤ cap ∧ cap ≤ maxLen ∧ cur.size = cap * 1 ∧ cur.toList.take (l.length * 1) = Lib.byteCells l := by
      rcases hown.2 with ⟨_, hz⟩ | ⟨g, cap, cur, hv, r⟩
      · exact absurd hz hl0
      · exact ⟨g, cap, cur, hv, r⟩
    obtain ⟨c0, c1, f0, f1, hsh⟩ := bld_cell (w := w.drew) h hoff
    have hSD : (Builtin.unsafeSliceData_ #[42] 128 #[.slice (some ⟨g, 0, none⟩) l.length cap]).run Try.prog w.drew = .ok (.pointer (some ⟨g, 0, none⟩)) w.drew :=
      Lib.run_unsafeSliceData_row _ _ _ _ _ _ (by omega)
    have hUS : (Builtin.unsafeString_ #[128, 3] 9 #[.pointer (some ⟨g, 0, none⟩), .int .i64 l.length]).run Try.prog w.drew = .ok (.string ⟨l.toArray⟩) (w.drew.freeze ⟨g, 0, none⟩ l.length) := by
      refine Lib.run_unsafeString_row w.drew 128 3 9 5 Try.underlying128 cells_byte g cur.size (by have hg' : w.drew.heap[g]? = some (.cells cur 5 (0, 0)) := hg; simp [World.shape?, hg']) l h0 (by omega) (by unfold maxLen at hcm; omega) ?_
      intro j x hx
      exact hown.cells (g := g) rfl j (.int .u8 x.toNat) (by simp [Lib.byteCells, hx])
    clear h hoff hown
    go_enter Try.func45, Try.ntmps45
    go_wp2
    go_region
    all_goals (go_wp2; go_ret; exact ⟨rfl, keeps_froze _⟩)

end Go.Proofs.Ytbeocehadnhmnaa
