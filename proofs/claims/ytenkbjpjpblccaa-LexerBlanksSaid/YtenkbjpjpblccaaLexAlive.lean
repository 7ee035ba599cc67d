/-
  The laws' Lexer; truchmanlaw10.alive returns true.
-/
import Derived.Test.YtenkbjpjpblccaaLexTop
import Derived.Test.YtenkbjpjpblccaaLexPlain
import Derived.Lib.SlBytesConst
namespace Go.Proofs.Ytenkbjpjpblccaa
open Go.RowKit Go.Tru

set_option maxRecDepth 100000 in
theorem lexT_own : LexT 39 0 := ⟨by kernel_rfl, by decide, by decide⟩

/-- a law's Lexer: block b, above base; F: the blocks that it may write -/
structure LexAt (w0 w : World) (base b : Nat) (L : Lex) (F : List Nat) : Prop where
  in_ : LexIn w base b [] 39 L F
  low : ∀ i ∈ F, base ≤ i
  keeps : Keeps [] w0 w
  fit : L.Fit ∧ L.Mid

theorem LexAt.base_le {w0 w : World} {base b : Nat} {L : Lex} {F : List Nat} (h : LexAt w0 w base b L F) : base ≤ w.heap.size :=
  Nat.le_of_lt (Nat.lt_of_le_of_lt (h.low b h.in_.1.1) h.in_.b_lt)

/-- a step of a law's Lexer -/
def Lexed (w0 w : World) (base b : Nat) (F : List Nat) (r : Lex × List Tok) (e : Ending) (w' : World) : Prop :=
  ∃ v F', e = .returned (ToksVal v r.1.e) ∧ ToksOut w' w.heap.size v r.2 ∧ LexAt w0 w' base b r.1 F' ∧ Keeps F w w' ∧ (∀ i ∈ F', i ∈ F ∨ w.heap.size ≤ i) ∧ ∀ i ∈ F', i ∉ blks v

theorem lexed_of {w0 w w' : World} {base b : Nat} {L : Lex} {F : List Nat} {r : Lex × List Tok} {e : Ending} (h : LexAt w0 w base b L F) (hw : w0.heap.size ≤ base) (hr : r.1.Fit ∧ r.1.Mid) (hp : StepPost w base b [] 39 F r e w') : Lexed w0 w base b F r e w' := by
  obtain ⟨v, F', he, ho, h1, h2, h3, h3'⟩ := hp
  have hb := h.base_le
  refine ⟨v, F', he, ho, ⟨h1, fun i hi => ?_, h.keeps.trans' h2 (fun i hi => Or.inr (Nat.le_trans hw (h.low i hi))), hr⟩, h2, h3, h3'⟩
  rcases h3 i hi with h4 | h4
  · exact h.low i h4
  · omega

theorem lexed {w0 w : World} {base b : Nat} {L : Lex} {F : List Nat} (h : LexAt w0 w base b L F) (hw : w0.heap.size ≤ base) (x : Int) (hx : 0 ≤ x) (hx2 : x ≤ 255) :
    Calls Try.prog 9 #[.pointer (some ⟨b, 0, none⟩), .int .u8 x] w (Lexed w0 w base b F (L.step x)) :=
  (lex_step base b [] _ L x F w h.in_ lexT_own hx hx2 h.base_le h.fit.1).mono fun _ _ hp => lexed_of h hw ⟨Lex.fit_step h.fit.1 h.fit.2 x, Lex.mid_step h.fit.2 x⟩ hp

def lexZero : Array Value := #[.int .i64 0, .int .i64 0, .int .u8 0, .int .u8 0, .bool false, .int .i64 0, .int .i64 0, .int .i64 0, .int .i64 0, .int .i64 0, .pointer none, .slice none 0 0, .bool false, .bool false, .bool false, .bool false, .int .u64 0, .bool false, .bool false, .int .i64 0, .string ⟨#[]⟩, .int .u8 0, .int .i64 0]
theorem lexZero_eq : lexZero = (Lex.new.cells (.pointer none) (.slice none 0 0)).toArray := rfl

/-- a new one -/
theorem lexAt_new {w0 w : World} (k : Keeps [] w0 w) {base n : Nat} (hn : n = w.heap.size) (hb : base ≤ n) (cs : Array Value) (hc : cs = (Lex.new.cells (.pointer none) (.slice none 0 0)).toArray) :
    LexAt w0 (w.alloc (.cells cs 39)) base n Lex.new [n] := by
  subst hn hc
  refine ⟨⟨⟨by simp, fun i hi => by rw [List.mem_singleton] at hi; subst hi; simp⟩, .pointer none, .slice none 0 0, ?_, fun h => by simp [Lex.new] at h⟩, fun i hi => by rw [List.mem_singleton] at hi; omega, k.alloc _, Lex.fit_new, Lex.mid_new⟩
  rw [List.append_nil]
  exact Has.new _ _ _

theorem LexAt.keeps' {G : List Nat} {w0 w w' : World} {base b : Nat} {L : Lex} {F : List Nat} (h : LexAt w0 w base b L F) (k : Keeps G w w') (hF : ∀ i ∈ F, i ∉ G) (hG : ∀ i ∈ G, w0.heap.size ≤ i) : LexAt w0 w' base b L F :=
  ⟨h.in_.keeps k hF, h.low, h.keeps.trans' k (fun i hi => Or.inr (hG i hi)), h.fit⟩

theorem ToksOut.shape {w : World} {B : Nat} {v : Value} {l : List Tok} (h : ToksOut w B v l) : ∃ o c, v = .slice o l.length c := by
  rcases h.1.2 with ⟨h1, h2⟩ | ⟨g, cap, cur, h1, _⟩
  · exact ⟨none, 0, by rw [h1, h2]⟩
  · exact ⟨_, _, h1⟩

theorem OwnsToks.nil (w : World) (base : Nat) : OwnsToks w base (.slice none 0 0) [] := World.ownsRow_nil _ _ _ _

theorem OwnsToks.shape {w : World} {base : Nat} {v : Value} {l : List Tok} (h : OwnsToks w base v l) : ∃ o c, v = .slice o l.length c := by
  rcases h.2 with ⟨h1, h2⟩ | ⟨g, cap, cur, h1, _⟩
  · exact ⟨none, 0, by rw [h1, h2]⟩
  · exact ⟨_, _, h1⟩

theorem tokCells_get (l : List Tok) : ∀ (i : Nat) (t : Tok), l[i]? = some t → ∀ j, j < 4 → (l.flatMap Tok.cells)[i * 4 + j]? = t.cells[j]? := by
  induction l with
  | nil => intro i t h; simp at h
  | cons a l ih =>
    intro i t h j hj
    rw [List.flatMap_cons]
    have ha : a.cells.length = 4 := rfl
    cases i with
    | zero =>
      simp only [List.getElem?_cons_zero, Option.some.injEq] at h
      subst h
      rw [List.getElem?_append_left (by omega), Nat.zero_mul, Nat.zero_add]
    | succ i =>
      rw [List.getElem?_cons_succ] at h
      rw [List.getElem?_append_right (by omega), ha, ← ih i t h j hj]
      congr 1
      omega

/-- the tokens' cells -/
theorem OwnsToks.get {w : World} {base : Nat} {v : Value} {l : List Tok} (h : OwnsToks w base v l) (hl : l ≠ []) :
    ∃ g cap, v = .slice (some ⟨g, 0, none⟩) l.length cap ∧ base ≤ g ∧ g < w.heap.size ∧ ∀ (i : Nat) (t : Tok), l[i]? = some t → ∀ j, j < 4 → w.cell? ⟨g, i * 4 + j, none⟩ = t.cells[j]? := by
  have hlt := World.ownsRow.lt h
  rcases h.2 with ⟨_, h2⟩ | ⟨g, cap, cur, rfl, hb, hg, hn, hm, _⟩
  · exact absurd (List.length_eq_zero_iff.1 h2) hl
  · refine ⟨g, cap, rfl, hb, (hlt g rfl).2, fun i t ht j hj => ?_⟩
    have hi : i < l.length := (List.getElem?_eq_some_iff.1 ht).1
    rw [World.ownsRow.cellAt h _ (by omega)]
    exact tokCells_get l i t ht j hj

/-- the Lexer has read these bytes; vg holds the tokens so far; nothing of it lies in the blocks Z, that stay as they are -/
structure Gath (w0 wr : World) (base b : Nat) (Z : List Nat) (vg : Value) (r : Lex × List Tok) (F : List Nat) : Prop where
  at_ : LexAt w0 wr base b r.1 F
  own : OwnsToks wr base vg r.2
  apart : ∀ i ∈ F, i ∉ blks vg
  fz : ∀ i ∈ F, i ∉ Z
  gz : ∀ i ∈ blks vg, i ∉ Z
  zlt : ∀ i ∈ Z, i < wr.heap.size

theorem Gath.start {w0 wr : World} {base b : Nat} {Z : List Nat} {L : Lex} {F : List Nat} (h : LexAt w0 wr base b L F) (hz : ∀ i ∈ F, i ∉ Z) (hl : ∀ i ∈ Z, i < wr.heap.size) : Gath w0 wr base b Z (.slice none 0 0) (L, []) F :=
  ⟨h, OwnsToks.nil _ _, by simp [blks_nil], hz, by simp [blks_nil], hl⟩

/-- behind a step and an append -/
theorem Gath.next {w0 w w1 w2 : World} {base b : Nat} {Z : List Nat} {vg vg2 : Value} {r : Lex × List Tok} {L1 : Lex} {t : List Tok} {F F1 : List Nat} (h : Gath w0 w base b Z vg r F) (hw : w0.heap.size ≤ base)
    (h1 : LexAt w0 w1 base b L1 F1) (k1 : Keeps F w w1) (hn : ∀ i ∈ F1, i ∈ F ∨ w.heap.size ≤ i)
    (hown : OwnsToks w2 base vg2 (r.2 ++ t)) (k2 : Keeps (blks vg) w1 w2) (hb : vg2.ownBlock = vg.ownBlock ∨ vg2.ownBlock = some w1.heap.size) : Gath w0 w2 base b Z vg2 (L1, r.2 ++ t) F1 ∧ Keeps (F ++ blks vg) w w2 := by
  have hv : ∀ i ∈ blks vg, i < w.heap.size ∧ base ≤ i := fun i hi => by
    have := World.ownsRow.lt h.own i (mem_blks.1 hi)
    omega
  have hs1 := k1.size
  have hs2 := k2.size
  have hv2 : ∀ i ∈ blks vg2, i ∈ blks vg ∨ i = w1.heap.size := fun i hi => by
    rw [mem_blks] at hi
    rcases hb with h4 | h4
    · rw [h4] at hi; exact Or.inl (mem_blks.2 hi)
    · rw [h4] at hi; injection hi with hi; exact Or.inr hi.symm
  refine ⟨⟨h1.keeps' k2 (fun i hi hm => ?_) (fun i hi => Nat.le_trans hw (hv i hi).2), hown, fun i hi hm => ?_, fun i hi hm => ?_, fun i hi hm => ?_, fun i hi => ?_⟩, ?_⟩
  · rcases hn i hi with h4 | h4
    · exact h.apart i h4 hm
    · have := hv i hm; omega
  · rcases hv2 i hm with h5 | h5
    · rcases hn i hi with h4 | h4
      · exact h.apart i h4 h5
      · have := hv i h5; omega
    · have := h1.in_.1.2 i hi; omega
  · rcases hn i hi with h4 | h4
    · exact h.fz i h4 hm
    · have := h.zlt i hm; omega
  · rcases hv2 i hi with h5 | h5
    · exact h.gz i h5 hm
    · have := h.zlt i hm; omega
  · have := h.zlt i hi; omega
  · exact (k1.mono (fun i hi => List.mem_append_left _ hi)).trans (k2.mono (fun i hi => List.mem_append_right _ hi))

def aliveBytes : List UInt8 := [91, 49, 50, 44, 116, 114, 117, 101, 93]
def aliveCells : Array Value := #[.int .u8 91, .int .u8 49, .int .u8 50, .int .u8 44, .int .u8 116, .int .u8 114, .int .u8 117, .int .u8 101, .int .u8 93]
theorem aliveCells_eq : aliveCells = (aliveBytes.map fun b => Value.int .u8 b.toNat).toArray := rfl
def aliveToks : List Tok := [Tok.of 91, ⟨110, ⟨#[]⟩, false, 12⟩, Tok.of 44, Tok.of 116, Tok.of 93]

theorem alive_run : (Lex.new.run aliveBytes).2 = aliveToks := by rfl
theorem alive_ok : ∀ k, k < 9 → (Lex.new.run (aliveBytes.take (k + 1))).1.e = 0 := by decide +kernel

def AliveRel (w : World) (vg i : Value) (wr : World) : Prop :=
  ∃ (k : Nat) (F : List Nat), k ≤ 9 ∧ i = .int .i64 k ∧ Gath w wr w.heap.size w.heap.size [w.heap.size + 1] vg (Lex.new.run (aliveBytes.take k)) F ∧ wr.heap[w.heap.size + 1]? = some (.cells aliveCells 5 (9, 10))

set_option maxHeartbeats 4000000 in
set_option maxRecDepth 100000 in
theorem alive_any (w : World) : Calls Try.prog 8 #[] w fun e w' => e = .returned (.bool true) ∧ Keeps [] w w' := by
  have kc := Lib.run_convert_bytes_const (P := Try.prog) (w.alloc (.cells #[.int .i64 0, .int .i64 0, .int .u8 0, .int .u8 0, .bool false, .int .i64 0, .int .i64 0, .int .i64 0, .int .i64 0, .int .i64 0, .pointer none, .slice none 0 0, .bool false, .bool false, .bool false, .bool false, .int .u64 0, .bool false, .bool false, .int .i64 0, .string ⟨#[]⟩, .int .u8 0, .int .i64 0] 39)) 32 5 #[.int .u8 91, .int .u8 49, .int .u8 50, .int .u8 44, .int .u8 116, .int .u8 114, .int .u8 117, .int .u8 101, .int .u8 93] 9 9 Try.underlying32 Try.underlying5
  simp only [World.size_alloc] at kc
  go_enter Try.func8, Try.ntmps8
  go_wp2_with fail
  clear kc
  go_loopw [2, 12] (fun vg i wr => AliveRel w vg i wr) (fun _ i _ => 20 - (intOf i).toNat)
  case atStart =>
    have h0 := (lexAt_new (Keeps.refl [] w) (base := w.heap.size) rfl (Nat.le_refl _) lexZero lexZero_eq).keeps' (G := []) ((Keeps.refl _ _).alloc (.cells aliveCells 5 (9, 10))) (by simp) (by simp)
    refine ⟨0, [w.heap.size], by omega, rfl, Gath.start h0 (by simp) (by simp), ?_⟩
    have := heap_alloc_new (w.alloc (.cells lexZero 39)) (.cells aliveCells 5 (9, 10))
    rw [World.size_alloc] at this
    exact this
  case round =>
    obtain ⟨k, F, hk, rfl, hg, hO⟩ := hrel
    by_cases hlt : k < 9
    · obtain ⟨x, hx⟩ : ∃ x : UInt8, aliveBytes[k]'hlt = x := ⟨_, rfl⟩
      have hx8 : x.toNat < 256 := x.toNat_lt
      have hcell : wr.cell? ⟨w.heap.size + 1, k, none⟩ = some (.int .u8 x.toNat) := by
        have e1 : aliveCells[k]? = some (.int .u8 x.toNat) := by
          rw [← hx]
          rw [aliveCells_eq]
          simp [List.getElem?_eq_getElem (show k < aliveBytes.length from hlt)]
          rfl
        simp [World.cell?, hO, e1]
      have hok := alive_ok k hlt
      have hrt := run_take (bs := aliveBytes) hlt Lex.new
      rw [hx] at hrt
      have hst := lexed hg.at_ (Nat.le_refl _) (x.toNat : Int) (by omega) (by omega)
      obtain ⟨r, hr⟩ : ∃ r, (Lex.new.run (aliveBytes.take k)).1.step x.toNat = r := ⟨_, rfl⟩
      rw [hr] at hst hrt
      have he0 : r.1.e = 0 := by rw [hrt] at hok; exact hok
      have hlen : (Lex.new.run (aliveBytes.take k)).2.length ≤ 100 := by
        have : ∀ j : Fin 9, (Lex.new.run (aliveBytes.take j.1)).2.length ≤ 100 := by decide +kernel
        exact this ⟨k, hlt⟩
      have hlen2 : r.2.length ≤ 100 := by
        have : ∀ j : Fin 9, (Lex.new.run (aliveBytes.take (j.1 + 1))).2.length ≤ 100 := by decide +kernel
        have := this ⟨k, hlt⟩
        simp only [hrt, List.length_append] at this
        omega
      have HG := Lib.hid hg
      have HO := Lib.hid hO
      have HRT := Lib.hid hrt
      have HE := Lib.hid he0
      have hki : (k : Int) < 9 := by omega
      have HZ := hg.zlt (w.heap.size + 1) (by simp)
      clear hok hrt hr hg hO hk hx he0
      go_wp2_with fail
      refine hst.mono ?_
      rintro e w1 ⟨v1, F1, rfl, ho1, h1, k1, hn1, _⟩
      simp only [ToksVal]
      rw [HE.out]
      have H1 := Lib.hid h1
      have K1 := Lib.hid k1
      have HN1 := Lib.hid hn1
      have HOT := Lib.hid ho1
      have hown1 := ownsRow_keeps HG.out.own k1 (fun i hi hm => HG.out.apart i hm (mem_blks.2 hi))
      have hsz1 := k1.size
      have hb1 := h1.base_le
      clear hst h1 k1 hn1 ho1
      go_wp2_with (at_builtin; refine app_toks rfl _ _ rfl w.heap.size _ _ rfl hown1 wr.heap.size v1 r.2 rfl HOT.out (by omega) hb1 ?_)
      intro v2 w2 hown2 k2 hb2 _
      obtain ⟨hg2, kk2⟩ := Gath.next HG.out (Nat.le_refl _) H1.out K1.out HN1.out hown2 k2 hb2
      have HG2 := Lib.hid hg2
      have hO2 := kk2.heap HO.out (by
        intro hm
        rcases List.mem_append.1 hm with hm | hm
        · exact HG.out.fz _ hm (by simp)
        · exact HG.out.gz _ hm (by simp))
      clear hg2 hown2 k2 hb2 hown1
      go_wp2_with fail
      go_roundw
      case rel => exact ⟨k + 1, F1, by omega, by go_num, by rw [HRT.out]; exact HG2.out, hO2⟩
      case measure => simp [intOf]; omega
    · obtain rfl : k = 9 := by omega
      have hrun : Lex.new.run (aliveBytes.take 9) = ((Lex.new.run aliveBytes).1, aliveToks) := by rw [← alive_run]; rfl
      rw [hrun] at hg
      obtain ⟨g, cap, rfl, hgb, hglt, hget⟩ := OwnsToks.get hg.own (by decide)
      have c0 := hget 0 (Tok.of 91) rfl 0 (by omega)
      have c1 := hget 1 ⟨110, ⟨#[]⟩, false, 12⟩ rfl 0 (by omega)
      have c2 := hget 1 ⟨110, ⟨#[]⟩, false, 12⟩ rfl 3 (by omega)
      have c3 := hget 3 (Tok.of 116) rfl 0 (by omega)
      have c4 := hget 4 (Tok.of 93) rfl 0 (by omega)
      simp only [Tok.cells, Tok.of, Nat.zero_mul, Nat.add_zero, Nat.one_mul, List.getElem?_cons_zero, List.getElem?_cons_succ] at c0 c1 c2 c3 c4
      have HK := Lib.hid hg.at_.keeps
      have hlen : aliveToks.length = 5 := rfl
      simp only [hlen] at *
      clear hget hg hO hrun
      go_wp2_with fail
      go_ret
      exact ⟨rfl, HK.out⟩
end Go.Proofs.Ytenkbjpjpblccaa
