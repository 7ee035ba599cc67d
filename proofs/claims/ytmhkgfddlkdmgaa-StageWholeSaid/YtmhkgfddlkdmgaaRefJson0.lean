/-
  truchmanref1.Json: what it tells of a text without an error is what the tokens tell jsonin's Parser (as plain data).
-/
import Derived.Test.YtmhkgfddlkdmgaaRefToks
import Derived.Test.YtmhkgfddlkdmgaaJsCkPlain
import Derived.Test.YtmhkgfddlkdmgaaEvRow2
import Derived.Test.YtmhkgfddlkdmgaaPlainList
import Derived.Deep.Cut
import Derived.Deep.CutRange
import Derived.Deep.AppendLies
import Derived.Deep.RegionLaw
namespace Go.Tru

/-- The slice value v holds the containers that are open, in a row of the call's own. -/
def OwnsMaps (w : World) (base : Nat) (v : Value) (l : List Bool) : Prop := w.ownsRow base 4 1 v l.length (l.reverse.map Value.bool)

theorem OwnsMaps.nil (w : World) (base : Nat) : OwnsMaps w base (.slice none 0 0) [] := World.ownsRow_nil _ _ _ _

theorem OwnsMaps.shape {w : World} {base : Nat} {v : Value} {l : List Bool} (h : OwnsMaps w base v l) : ∃ a cap, v = .slice a l.length cap := by
  rcases h.2 with ⟨h1, h2⟩ | ⟨g, cap, cur, h1, _⟩
  · exact ⟨none, 0, by rw [h1, h2]⟩
  · exact ⟨_, _, h1⟩

theorem mapsCells_cons (m : Bool) (l : List Bool) : ((m :: l).reverse.map Value.bool) = (l.reverse.map Value.bool) ++ [.bool m] := by simp

theorem OwnsMaps.some_ {w : World} {base : Nat} {v : Value} {m : Bool} {l : List Bool} (h : OwnsMaps w base v (m :: l)) :
    ∃ g cap, v = .slice (some ⟨g, 0, none⟩) (l.length + 1) cap ∧ base ≤ g ∧ g < w.heap.size ∧ l.length + 1 ≤ cap ∧ cap ≤ maxLen ∧ w.cell? ⟨g, l.length, none⟩ = some (.bool m) := by
  have hlt := World.ownsRow.lt h
  rcases h.2 with ⟨_, h2⟩ | ⟨g, cap, cur, rfl, hb, hg, hn, hm, _⟩
  · simp at h2
  · refine ⟨g, cap, rfl, hb, (hlt g rfl).2, hn, hm, ?_⟩
    rw [World.ownsRow.cellAt h _ (by simp), mapsCells_cons, List.getElem?_append_right (by simp)]
    simp

theorem OwnsMaps.pop {w : World} {base g cap : Nat} {m : Bool} {l : List Bool} (h : OwnsMaps w base (.slice (some ⟨g, 0, none⟩) (l.length + 1) cap) (m :: l)) : OwnsMaps w base (.slice (some ⟨g, 0, none⟩) l.length cap) l := by
  unfold OwnsMaps at h ⊢
  refine ⟨by simp, ?_⟩
  rcases h.2 with ⟨h1, _⟩ | ⟨g', cap', cur, h1, hb, hg, hn, hm, hs, ht⟩
  · cases h1
  · injection h1 with e1 e2 e3
    injection e1 with e1
    injection e1 with e1
    subst e1 e3
    refine Or.inr ⟨g, cap, cur, rfl, hb, hg, by simp only [List.length_cons] at hn; omega, hm, hs, ?_⟩
    rw [mapsCells_cons, List.length_cons] at ht
    have := congrArg (List.take l.length) ht
    rw [List.take_take, List.take_append_of_le_length (by simp)] at this
    simp only [Nat.mul_one] at this ⊢
    rw [Nat.min_eq_left (by omega)] at this
    rw [this, List.take_of_length_le (by simp)]

theorem bools_one (l : List Bool) : ∀ u ∈ l.map Value.bool, u.oneCell' = true := by
  intro u hu
  obtain ⟨x, _, rfl⟩ := List.mem_map.1 hu
  rfl

/-- one more token -/
theorem jsToks_snoc {p q : Js} {L : List Ev} : ∀ {l : List Tok} {t : Tok}, p.toks l = (L, q) → q.e = 0 → (q.token t).2.e = 0 → p.toks (l ++ [t]) = (L ++ (q.token t).1.toList, (q.token t).2)
  | [], t, h, h0, h1 => by
    simp only [Js.toks, Prod.mk.injEq] at h
    obtain ⟨rfl, rfl⟩ := h
    simp [Js.toks, h1]
  | x :: l, t, h, h0, h1 => by
    unfold Js.toks at h
    by_cases hx : (p.token x).2.e = 0
    · rw [if_neg (by simp [hx])] at h
      injection h with e1 e2
      have ih := jsToks_snoc (p := (p.token x).2) (l := l) (t := t) (L := ((p.token x).2.toks l).1) (q := q) (by rw [← e2]) h0 h1
      rw [List.cons_append, Js.toks, if_neg (by simp [hx]), ih, ← e1]
      simp
    · rw [if_pos hx] at h
      injection h with _ e2
      subst e2
      exact absurd h0 hx

theorem ownsRow_mono {w : World} {b b' : Nat} {e : TypeId} {sz : Nat} {v : Value} {n : Nat} {xs : List Value} (h : w.ownsRow b e sz v n xs) (hb : b' ≤ b) : w.ownsRow b' e sz v n xs :=
  ⟨h.1, h.2.imp id fun ⟨g, cap, cur, h1, h2, h3⟩ => ⟨g, cap, cur, h1, Nat.le_trans hb h2, h3⟩⟩

theorem results_cell_one {fn : Func} {p : Tmp} {ty : TypeId} (h : fn.results = #[.cell p ty]) (tmps : Array Value) (P : Program) (w : World) :
    (results fn tmps).run P w = ((asAddr (tmps.getD p undef)).run P w).andThen fun a w₁ => (loadVar ty a).run P w₁ := by
  simp only [results, h]
  simp [Sem.run_bind, Result.andThen]

theorem jkind (c : Int) : c = 44 ∨ c = 58 ∨ c = 115 ∨ c = 91 ∨ c = 123 ∨ c = 110 ∨ c = 116 ∨ c = 102 ∨ c = 48 ∨
    ((c == 44) = false ∧ (c == 58) = false ∧ (c == 115) = false ∧ (c == 91) = false ∧ (c == 123) = false ∧ (c == 110) = false ∧ (c == 116) = false ∧ (c == 102) = false ∧ (c == 48) = false) := by
  simp only [beq_eq_false_iff_ne, ne_eq]
  omega

/-- what the Parser's state may be -/
theorem js_shape {p : Js} {st : List Cont} {d : Bool} (h : JRel p st d) : (p.maps = [] ∧ (p.next = 0 ∨ p.next = 6)) ∨ (∃ r, p.maps = true :: r ∧ (p.next = 0 ∨ p.next = 2 ∨ p.next = 3 ∨ p.next = 4 ∨ p.next = 5)) ∨ ∃ r, p.maps = false :: r ∧ (p.next = 0 ∨ p.next = 1 ∨ p.next = 5) := by
  obtain ⟨h1, _, _, h4⟩ := h
  cases st with
  | nil => exact Or.inl ⟨by rw [← h1]; rfl, by simpa using h4.symm⟩
  | cons c r =>
    obtain ⟨_, h5⟩ := h4
    rw [List.map_cons] at h1
    rcases h5 with ⟨hc, h5⟩ | ⟨hc, h5⟩
    · refine Or.inr (Or.inl ⟨_, by rw [← h1, hc], ?_⟩)
      rcases h5 with ⟨h | h | h, _⟩ | ⟨h | h, _⟩ <;> omega
    · exact Or.inr (Or.inr ⟨_, by rw [← h1, hc], h5⟩)
end Go.Tru
namespace Go.Proofs.Ytmhkgfddlkdmgaa
open Go.RowKit Go.Tru

theorem info_bool : (Try.prog.info? 4).map (fun i => (i.zero, i.size, i.bytes)) = some (some (.bool false), 1, 1) := by kernel_rfl

/-- append to an own row of bools -/
theorem app_bools {ops : Array Oper} {rest : List Oper} {o : Oper} {a : Act} {w : World} {Q : Exit → Act → World → Prop} (hgd : o.guard = none) (s x : Operand)
    (ho : o.op = .call { callee := .builtin .append, args := #[s, x], argTypes := #[50, 50] })
    (base : Nat) (v : Value) (l : List Bool) (hs : a.eval s = v) (hown : OwnsMaps w base v l)
    (base2 : Nat) (vx : Value) (ds : List Bool) (hx : a.eval x = vx) (hds : OwnsMaps w base2 vx ds)
    (hlen : l.length + ds.length ≤ 1000000000) (hbase : base ≤ w.heap.size)
    (h : ∀ v' w', OwnsMaps w' base v' (ds ++ l) → Keeps (blks v) w w' → (v'.ownBlock = v.ownBlock ∨ v'.ownBlock = some w.heap.size) → wpList Try.prog ops Q rest (a.put o.dst v') w') :
    wpList Try.prog ops Q (o :: rest) a w := by
  obtain ⟨i0, hi, hz0, hz1, hz2⟩ := info_parts info_bool
  rcases hds.2 with ⟨rfl, h0⟩ | ⟨g, cap, cur, rfl, hb, hg, hr⟩
  · obtain rfl : ds = [] := List.length_eq_zero_iff.1 h0
    refine wpList_append_own_none hgd s x 50 ho base 4 i0 1 Try.underlying50 hi v l.length (l.reverse.map Value.bool) hs hown hx ?_
    exact h v w hown (Keeps.refl _ _) (Or.inl rfl)
  · refine wpList_append_own_at w hgd s x 50 ho base 4 i0 (.bool false) 1 1 Try.underlying50 hi hz0 hz1 hz2 rfl (by decide) v l.length (l.reverse.map Value.bool) hs hown ⟨g, 0, none⟩ ds.length cap (ds.reverse.map Value.bool) hx (by simp) (World.ownsRow.cells hds (g := g) rfl) (bools_one _) (by unfold maxLen; omega) (by omega) hbase ?_
    intro v' w' h2 h3 h4 h5
    refine h v' w' ?_ (keeps_grown h3) h5
    unfold OwnsMaps
    rw [List.length_append, List.reverse_append, List.map_append, Nat.add_comm]
    exact h2

theorem rtokCells_get (l : List Tok) : ∀ (i : Nat) (t : Tok), l[i]? = some t → ∀ j, j < 4 → (l.flatMap Tok.cells)[i * 4 + j]? = t.cells[j]? := by
  induction l with
  | nil => intro i t h; simp at h
  | cons a l ih =>
    intro i t h j hj
    rw [List.flatMap_cons]
    have ha : a.cells.length = 4 := rfl
    cases i with
    | zero =>
      simp only [List.getElem?_cons_zero, Option.some.injEq] at h
      subst h
      rw [List.getElem?_append_left (by omega), Nat.zero_mul, Nat.zero_add]
    | succ i =>
      rw [List.getElem?_cons_succ] at h
      rw [List.getElem?_append_right (by omega), ha, ← ih i t h j hj]
      congr 1
      omega

theorem OwnsRT.get {w : World} {base : Nat} {oa : Option Addr} {n c : Nat} {ts : List Tok} (h : OwnsRT w base (.slice oa n c) ts) {k : Nat} {t : Tok} (hk : ts[k]? = some t) :
    ∃ g, oa = some ⟨g, 0, none⟩ ∧ n = ts.length ∧ ts.length ≤ c ∧ c ≤ maxLen ∧ g < w.heap.size ∧ w.cell? ⟨g, k * 4, none⟩ = some (.int .u8 t.kind) ∧ w.cell? ⟨g, k * 4 + 1, none⟩ = some (.string t.text) ∧ w.cell? ⟨g, k * 4 + 2, none⟩ = some (.bool t.neg) ∧ w.cell? ⟨g, k * 4 + 3, none⟩ = some (.int .u64 t.mag) := by
  have hlt := (List.getElem?_eq_some_iff.1 hk).1
  obtain ⟨g, cap, e, hg1, hg2, hg3, hg4⟩ := OwnsRT.some_ h (by intro e; subst e; simp at hlt)
  injection e with e1 e2 e3
  subst e1 e2 e3
  have hc : ∀ j, j < 4 → w.cell? ⟨g, k * 4 + j, none⟩ = t.cells[j]? := fun j hj => by
    rw [World.ownsRow.cellAt h _ (by omega)]
    exact rtokCells_get ts k t hk j hj
  exact ⟨g, rfl, rfl, hg3, hg4, hg2, hc 0 (by omega), hc 1 (by omega), hc 2 (by omega), hc 3 (by omega)⟩

theorem has_cells {w : World} {b : Nat} {cs : List Value} {t : TypeId} (h : Has w b cs t) : ∀ (j : Nat) (u : Value), cs[j]? = some u → w.cell? ((⟨b, 0, none⟩ : Addr).add j) = some u := by
  intro j u hu
  have hadd : (⟨b, 0, none⟩ : Addr).add j = ⟨b, j, none⟩ := by unfold Addr.add; split <;> simp_all
  rw [hadd, h.cell]
  exact hu

/-- append of open containers to none, within a region that draws its order -/
theorem wp_app_bools {o : Oper} {a : Act} {w : World} {K : Act → World → Prop} {Q : Exit → Act → World → Prop} (s x : Operand)
    (ho : o.op = .call { callee := .builtin .append, args := #[s, x], argTypes := #[50, 50] })
    (base : Nat) (hs : a.eval s = .slice none 0 0) (base2 : Nat) (vx : Value) (ds : List Bool) (hx : a.eval x = vx) (hds : OwnsMaps w base2 vx ds) (hlen : ds.length ≤ 1000000) (hbase : base ≤ w.heap.size)
    (h : ∀ v' w', OwnsMaps w' base v' ds → Keeps [] w w' → (v' = .slice none 0 0 ∨ v'.ownBlock = some w.heap.size) → K (a.put o.dst v') w') : Oper.wp Try.prog o a w K Q := by
  obtain ⟨i0, hi, hz0, hz1, hz2⟩ := info_parts info_bool
  rcases hds.2 with ⟨rfl, h0⟩ | ⟨g, cap, cur, rfl, hb, hg, hr⟩
  · obtain rfl : ds = [] := List.length_eq_zero_iff.1 h0
    have hrun := run_append_owned_none (P := Try.prog) (w := w) base 50 o.type 4 i0 1 Try.underlying50 hi (.slice none 0 0) 0 [] (World.ownsRow_nil _ _ _ _)
    unfold Oper.wp execOp
    simp only [ho, resolve, invoke, builtin, Sem.run_bind, Sem.run_pure, Result.andThen_ok, List.map_toArray, List.map_cons, List.map_nil, hs, hx, hrun]
    exact h _ w (OwnsMaps.nil _ _) (Keeps.refl _ _) (Or.inl rfl)
  · obtain ⟨v', w', hr, h2, h3, h4, h5⟩ := run_append_own_at (P := Try.prog) w base 50 o.type 4 i0 (.bool false) 1 1 Try.underlying50 hi hz0 hz1 hz2 rfl (by decide) (.slice none 0 0) 0 [] (World.ownsRow_nil _ _ _ _) ⟨g, 0, none⟩ ds.length cap (ds.reverse.map Value.bool) (by simp) (World.ownsRow.cells hds (g := g) rfl) (bools_one _) (by unfold maxLen; omega) (by omega) hbase
    unfold Oper.wp execOp
    simp only [ho, resolve, invoke, builtin, Sem.run_bind, Sem.run_pure, Result.andThen_ok, List.map_toArray, List.map_cons, List.map_nil, hs, hx, hr]
    refine h v' w' ?_ (keeps_grown h3) ?_
    · unfold OwnsMaps
      rw [Nat.zero_add, List.nil_append] at h2
      exact h2
    · rcases h5 with h5 | h5
      · left
        rcases h2.2 with ⟨h6, _⟩ | ⟨g', c', cur', h6, _⟩
        · exact h6
        · rw [h6] at h5; simp [Value.ownBlock] at h5
      · exact Or.inr h5

/-- .. of one -/
theorem wp_app_bool1 {o : Oper} {a : Act} {w : World} {K : Act → World → Prop} {Q : Exit → Act → World → Prop} (s x : Operand)
    (ho : o.op = .call { callee := .builtin .append, args := #[s, x], argTypes := #[50, 50] })
    (base : Nat) (v : Value) (l : List Bool) (hs : a.eval s = v) (hown : OwnsMaps w base v l) (ad : Addr) (b : Bool) (hx : a.eval x = .slice (some ad) 1 1) (hnew : w.cell? (ad.add 0) = some (.bool b)) (hlen : l.length ≤ 1000000) (hbase : base ≤ w.heap.size)
    (h : ∀ v' w', OwnsMaps w' base v' (b :: l) → Keeps (blks v) w w' → (v'.ownBlock = v.ownBlock ∨ v'.ownBlock = some w.heap.size) → K (a.put o.dst v') w') : Oper.wp Try.prog o a w K Q := by
  obtain ⟨i0, hi, hz0, hz1, hz2⟩ := info_parts info_bool
  obtain ⟨v', w', hr, h2, h3, h4, h5⟩ := run_append_own_at (P := Try.prog) w base 50 o.type 4 i0 (.bool false) 1 1 Try.underlying50 hi hz0 hz1 hz2 rfl (by decide) v l.length (l.reverse.map Value.bool) hown ad 1 1 [.bool b] rfl (fun j u hu => by
    cases j with
    | zero => simp only [List.getElem?_cons_zero, Option.some.injEq] at hu; rw [← hu]; exact hnew
    | succ j => simp at hu) (bools_one [b]) (by unfold maxLen; omega) (by omega) hbase
  unfold Oper.wp execOp
  simp only [ho, resolve, invoke, builtin, Sem.run_bind, Sem.run_pure, Result.andThen_ok, List.map_toArray, List.map_cons, List.map_nil, hs, hx, hr]
  refine h v' w' ?_ (keeps_grown h3) h5
  unfold OwnsMaps
  rw [mapsCells_cons]
  exact h2

/-- the reference's answer -/
def RdIn (w : World) (b : Nat) (vL : Value) (x : Int) (d : Bool) (n : Int) : Prop := Has w b [vL, .int .i64 x, .bool d, .int .i64 n] 26

theorem rd_ret {w' : World} {tmps : Array Value} {b : Nat} {vL : Value} {x n : Int} {d : Bool} (h : RdIn w' b vL x d n) (hp : tmps.getD 6 undef = .pointer (some ⟨b, 0, none⟩)) :
    (results Try.f5 tmps).run Try.prog w' = .ok (.agg #[vL, .int .i64 x, .bool d, .int .i64 n]) w' := by
  rw [results_cell_one rfl, hp]
  have c0 := h.cell 0
  have c1 := h.cell 1
  have c2 := h.cell 2
  have c3 := h.cell 3
  simp only [List.getElem?_cons_zero, List.getElem?_cons_succ] at c0 c1 c2 c3
  go_simp

def JsonPost (s : ByteArray) (w : World) (e : Ending) (w' : World) : Prop :=
  ∃ (vL : Value) (L : List Ev) (x : Int) (d : Bool) (n : Int), e = .returned (.agg #[vL, .int .i64 x, .bool d, .int .i64 n]) ∧ OwnsEvs w' w.heap.size vL L ∧
    (x = 0 → ∃ (ts : List Tok) (p : Js), tokSum ts ≤ s.size ∧ (Js.new 16).toks ts = (L, p) ∧ p.e = 0 ∧ p.next = 6) ∧ Keeps [] w w'

def JsonRel (ts : List Tok) (bR : Nat) (w1 : World) (vM may i : Value) (wr : World) : Prop :=
  ∃ (k : Nat) (p : Js) (L : List Ev) (vL : Value), i = .int .i64 k ∧ may = .int .i64 p.next ∧ k ≤ ts.length ∧ (Js.new 16).toks (ts.take k) = (L, p) ∧ p.e = 0 ∧ p.depth = 16 ∧
    OwnsMaps wr (bR + 1) vM p.maps ∧ OwnsEvs wr (bR + 1) vL L ∧ (∀ i ∈ blks vM, i ∉ blks vL) ∧ RdIn wr bR vL 0 false 0 ∧ bR < wr.heap.size ∧ Keeps [] w1 wr

/-- a round's memory: the token's block, the part's, the answer's, both rows -/
structure JWorld (w1 wr W : World) (b6 : Nat) (tc ec : List Value) (vM vL : Value) (mp : List Bool) (L : List Ev) : Prop where
  tok : Has W wr.heap.size tc 54
  ev : Has W (wr.heap.size + 1) ec 34
  rd : RdIn W w1.heap.size vL 0 false 0
  maps : OwnsMaps W (w1.heap.size + 1) vM mp
  evs : OwnsEvs W (w1.heap.size + 1) vL L
  ap : ∀ i ∈ blks vM, i ∉ blks vL
  keeps : Keeps [] w1 W
  sz : wr.heap.size + 2 ≤ W.heap.size

/-- behind an append to the parts -/
theorem jw_app {w1 wr w4 : World} {b6 : Nat} {tc ec nc : List Value} {T : TypeId} {vM vL v4 : Value} {mp : List Bool} {L L4 : List Ev} (hrd : RdIn wr w1.heap.size vL 0 false 0) (hmp : OwnsMaps wr (w1.heap.size + 1) vM mp) (hev : OwnsEvs wr (w1.heap.size + 1) vL L)
    (hap : ∀ i ∈ blks vM, i ∉ blks vL) (hK : Keeps [] w1 wr) (hbr : w1.heap.size < wr.heap.size)
    (hown : OwnsEvs w4 (w1.heap.size + 1) v4 L4) (hk : Keeps (blks vL) (((wr.alloc (.cells tc.toArray 54)).alloc (.cells ec.toArray 34)).alloc (.cells nc.toArray T)) w4) (hb : v4.ownBlock = vL.ownBlock ∨ v4.ownBlock = some (wr.heap.size + 1 + 1 + 1)) :
    w4.cell? ⟨w1.heap.size, 0, none⟩ = some vL ∧ w4.frozen? ⟨w1.heap.size, 0, none⟩ = false ∧ w1.heap.size < w4.heap.size ∧ JWorld w1 wr (w4.setCell ⟨w1.heap.size, 0, none⟩ v4) b6 tc ec vM v4 mp L4 := by
  have hlo : ∀ i ∈ blks vL, w1.heap.size + 1 ≤ i ∧ i < wr.heap.size := fun i hi => World.ownsRow.lt hev i (mem_blks.1 hi)
  have hlm : ∀ i ∈ blks vM, w1.heap.size + 1 ≤ i ∧ i < wr.heap.size := fun i hi => World.ownsRow.lt hmp i (mem_blks.1 hi)
  have hz : wr.heap.size + 1 + 1 + 1 ≤ w4.heap.size := by simpa using hk.size
  have k3 : Keeps [] wr (((wr.alloc (.cells tc.toArray 54)).alloc (.cells ec.toArray 34)).alloc (.cells nc.toArray T)) := (((Keeps.refl [] _).alloc _).alloc _).alloc _
  have hrd4 : RdIn w4 w1.heap.size vL 0 false 0 := (Has.keeps hrd k3 (by simp)).keeps hk (fun hm => by have := hlo _ hm; omega)
  have htok : Has w4 wr.heap.size tc 54 := (((Has.new wr tc _).alloc _).alloc _).keeps hk (fun hm => by have := hlo _ hm; omega)
  have hevb : Has w4 (wr.heap.size + 1) ec 34 := by
    have h := ((Has.new (wr.alloc (.cells tc.toArray 54)) ec 34).alloc (.cells nc.toArray T))
    rw [show (wr.alloc (.cells tc.toArray 54)).heap.size = wr.heap.size + 1 by simp] at h
    exact h.keeps hk (fun hm => by have := hlo _ hm; omega)
  have hset : Keeps [w1.heap.size] w4 (w4.setCell ⟨w1.heap.size, 0, none⟩ v4) := (Keeps.refl _ _).set1 _
  have hn4 : ∀ i ∈ blks v4, w1.heap.size + 1 ≤ i ∧ (i ∈ blks vL ∨ wr.heap.size + 3 ≤ i) := fun i hi => by
    have h1 := (World.ownsRow.lt hown i (mem_blks.1 hi)).1
    refine ⟨h1, ?_⟩
    rw [mem_blks] at hi
    rcases hb with hb | hb
    · rw [hb] at hi; exact Or.inl (mem_blks.2 hi)
    · rw [hb] at hi
      injection hi with hi
      exact Or.inr (by omega)
  refine ⟨hrd4.cell 0, hrd4.free 0, hrd4.lt, ⟨htok.keeps hset (by simp; omega), hevb.keeps hset (by simp; omega), (hrd4.set 0 v4).conv rfl, ?_, ?_, ?_, ?_, ?_⟩⟩
  · refine ownsRow_keeps (ownsRow_keeps (ownsRow_keeps hmp k3 (by simp)) hk (fun i hi hm => hap i (mem_blks.2 hi) hm)) hset (fun i hi hm => ?_)
    rw [List.mem_singleton] at hm
    have := hlm i (mem_blks.2 hi)
    omega
  · refine ownsRow_keeps hown hset (fun i hi hm => ?_)
    rw [List.mem_singleton] at hm
    have := (hn4 i (mem_blks.2 hi)).1
    omega
  · intro i hi hm
    rcases (hn4 i hm).2 with h | h
    · exact hap i hi h
    · have := hlm i hi; omega
  · exact ((hK.trans k3).trans' hk (fun i hi => Or.inr (by have := hlo i hi; omega))).setCell (Or.inr (Nat.le_refl _)) _
  · show wr.heap.size + 2 ≤ (w4.setCell _ _).heap.size
    have := hset.size
    omega

/-- an error's answer -/
theorem json_err {w w1 wr : World} {vL : Value} {L : List Ev} (x : Int) (o1 o2 : Obj) (h6 : RdIn wr w.heap.size (.slice none 0 0) 0 false 0) (hev : OwnsEvs wr (w1.heap.size + 1) vL L) (hw : w.heap.size < w1.heap.size) (k : Keeps [] w wr) :
    RdIn (((((((wr.setCell ⟨w1.heap.size, 1, none⟩ (.int .i64 x)).setCell ⟨w.heap.size, 0, none⟩ vL).setCell ⟨w.heap.size, 1, none⟩ (.int .i64 x)).setCell ⟨w.heap.size, 2, none⟩ (.bool false)).setCell ⟨w.heap.size, 3, none⟩ (.int .i64 0)).alloc o1).alloc o2) w.heap.size vL x false 0 ∧
    OwnsEvs (((((((wr.setCell ⟨w1.heap.size, 1, none⟩ (.int .i64 x)).setCell ⟨w.heap.size, 0, none⟩ vL).setCell ⟨w.heap.size, 1, none⟩ (.int .i64 x)).setCell ⟨w.heap.size, 2, none⟩ (.bool false)).setCell ⟨w.heap.size, 3, none⟩ (.int .i64 0)).alloc o1).alloc o2) w.heap.size vL L ∧
    Keeps [] w (((((((wr.setCell ⟨w1.heap.size, 1, none⟩ (.int .i64 x)).setCell ⟨w.heap.size, 0, none⟩ vL).setCell ⟨w.heap.size, 1, none⟩ (.int .i64 x)).setCell ⟨w.heap.size, 2, none⟩ (.bool false)).setCell ⟨w.heap.size, 3, none⟩ (.int .i64 0)).alloc o1).alloc o2) := by
  have hlo : ∀ i ∈ blks vL, w1.heap.size + 1 ≤ i := fun i hi => (World.ownsRow.lt hev i (mem_blks.1 hi)).1
  have kk : Keeps [w1.heap.size, w.heap.size] wr (((((((wr.setCell ⟨w1.heap.size, 1, none⟩ (.int .i64 x)).setCell ⟨w.heap.size, 0, none⟩ vL).setCell ⟨w.heap.size, 1, none⟩ (.int .i64 x)).setCell ⟨w.heap.size, 2, none⟩ (.bool false)).setCell ⟨w.heap.size, 3, none⟩ (.int .i64 0)).alloc o1).alloc o2) :=
    (((((((Keeps.refl _ _).setCell (Or.inl (by simp)) _).setCell (Or.inl (by simp)) _).setCell (Or.inl (by simp)) _).setCell (Or.inl (by simp)) _).setCell (Or.inl (by simp)) _).alloc _).alloc _
  refine ⟨?_, ownsRow_mono (ownsRow_keeps hev kk (fun i hi hm => ?_)) (by omega), k.trans' kk (fun i hi => Or.inr ?_)⟩
  · exact (((((((Has.other h6 (p := ⟨w1.heap.size, 1, none⟩) (by show ¬ w.heap.size = w1.heap.size; omega) (.int .i64 x)).set 0 vL).set 1 (.int .i64 x)).set 2 (.bool false)).set 3 (.int .i64 0)).alloc o1).alloc o2).conv rfl
  · have := hlo i (mem_blks.2 hi)
    simp only [List.mem_cons, List.not_mem_nil, or_false] at hm
    omega
  · simp only [List.mem_cons, List.not_mem_nil, or_false] at hi
    omega

/-- the answer's block has been turned -/
structure JEnd (w w1 W : World) (vL : Value) (L : List Ev) (x : Int) (d : Bool) (y : Int) : Prop where
  rd : RdIn W w1.heap.size vL x d y
  r6 : RdIn W w.heap.size (.slice none 0 0) 0 false 0
  evs : OwnsEvs W w.heap.size vL L
  lo : ∀ i ∈ blks vL, w.heap.size < i
  keeps : Keeps [] w W

theorem json_end {w w1 wr W : World} {vL : Value} {L : List Ev} {x : Int} {d : Bool} {y : Int} (hrd : RdIn W w1.heap.size vL x d y) (h6 : RdIn wr w.heap.size (.slice none 0 0) 0 false 0) (hev : OwnsEvs wr (w1.heap.size + 1) vL L) (hw : w.heap.size < w1.heap.size) (k : Keeps [] w wr) (kk : Keeps [w1.heap.size] wr W) : JEnd w w1 W vL L x d y := by
  have hlo : ∀ i ∈ blks vL, w1.heap.size + 1 ≤ i := fun i hi => (World.ownsRow.lt hev i (mem_blks.1 hi)).1
  refine ⟨hrd, Has.keeps h6 kk (by simp; omega), ownsRow_mono (ownsRow_keeps hev kk (fun i hi hm => ?_)) (by omega), fun i hi => by have := hlo i hi; omega, k.trans' kk (fun i hi => Or.inr (by simp at hi; omega))⟩
  have := hlo i (mem_blks.2 hi)
  simp at hm
  omega

/-- .. and given back -/
theorem JEnd.back {w w1 W : World} {vL : Value} {L : List Ev} {x : Int} {d : Bool} {y : Int} (h : JEnd w w1 W vL L x d y) : RdIn ((((W.setCell ⟨w.heap.size, 0, none⟩ vL).setCell ⟨w.heap.size, 1, none⟩ (.int .i64 x)).setCell ⟨w.heap.size, 2, none⟩ (.bool d)).setCell ⟨w.heap.size, 3, none⟩ (.int .i64 y)) w.heap.size vL x d y ∧
    OwnsEvs ((((W.setCell ⟨w.heap.size, 0, none⟩ vL).setCell ⟨w.heap.size, 1, none⟩ (.int .i64 x)).setCell ⟨w.heap.size, 2, none⟩ (.bool d)).setCell ⟨w.heap.size, 3, none⟩ (.int .i64 y)) w.heap.size vL L ∧
    Keeps [] w ((((W.setCell ⟨w.heap.size, 0, none⟩ vL).setCell ⟨w.heap.size, 1, none⟩ (.int .i64 x)).setCell ⟨w.heap.size, 2, none⟩ (.bool d)).setCell ⟨w.heap.size, 3, none⟩ (.int .i64 y)) := by
  have kk : Keeps [w.heap.size] W ((((W.setCell ⟨w.heap.size, 0, none⟩ vL).setCell ⟨w.heap.size, 1, none⟩ (.int .i64 x)).setCell ⟨w.heap.size, 2, none⟩ (.bool d)).setCell ⟨w.heap.size, 3, none⟩ (.int .i64 y)) :=
    ((((Keeps.refl _ _).setCell (Or.inl (by simp)) _).setCell (Or.inl (by simp)) _).setCell (Or.inl (by simp)) _).setCell (Or.inl (by simp)) _
  refine ⟨((((h.r6.set 0 vL).set 1 (.int .i64 x)).set 2 (.bool d)).set 3 (.int .i64 y)).conv rfl, ownsRow_keeps h.evs kk (fun i hi hm => ?_), h.keeps.trans' kk (fun i hi => Or.inr (by simp at hi; omega))⟩
  have := h.lo i (mem_blks.2 hi)
  simp at hm
  omega

end Go.Proofs.Ytmhkgfddlkdmgaa
