/-
  lexer.Lexer.between: its contract.
-/
import Derived.Test.YtbeocehadnhmnaaLexMem
namespace Go.Proofs.Ytbeocehadnhmnaa
open Go.RowKit Go.Tru

/-- what the Lexer's inner methods leave: tokens, in none of the Lexer's blocks -/
def TokPost (w : World) (base b : Nat) (post : List Value) (T : TypeId) (F : List Nat) (r : Lex × List Tok) (e : Ending) (w' : World) : Prop :=
  ∃ v F', e = .returned v ∧ ToksOut w' w.heap.size v r.2 ∧ LexIn w' base b post T r.1 F' ∧ Keeps F w w' ∧ (∀ i ∈ F', i ∈ F ∨ w.heap.size ≤ i) ∧ ∀ i ∈ F', i ∉ blks v

theorem tokPost_nil {w w' : World} {base b : Nat} {post : List Value} {T : TypeId} {F : List Nat} {L' : Lex} {e : Ending} (he : e = .returned (.slice none 0 0)) (h : LexPost w base b post T F L' w') : TokPost w base b post T F (L', []) e w' := by
  obtain ⟨F', h1, h2, h3⟩ := h
  exact ⟨_, F', he, ToksOut.nil _ _, h1, h2, h3, by simp [blks_nil]⟩

theorem tokNil {w w' : World} {base b : Nat} {post : List Value} {T : TypeId} {F : List Nat} {L' : Lex} {e : Ending} (he : e = .returned (.slice none 0 0)) (h : LexSame w base b post T F L' w') : TokPost w base b post T F (L', []) e w' := tokPost_nil he h.post

theorem tokSame {w w' : World} {base b : Nat} {post : List Value} {T : TypeId} {F : List Nat} {L' : Lex} {t : List Tok} {e : Ending} {v : Value} (he : e = .returned v) (ho : ToksOut w' w.heap.size v t) (h : LexSame w base b post T F L' w') : TokPost w base b post T F (L', t) e w' :=
  ⟨v, F, he, ho, h.1, h.2.1, fun _ hi => Or.inl hi, fun i hi hm => by
    have h1 := ho.1.lt i (mem_blks.1 hm)
    have h2 := h.2.2 i hi
    omega⟩

set_option maxHeartbeats 2000000 in
set_option maxRecDepth 100000 in
theorem lex_between_a (base b : Nat) (post : List Value) (T : TypeId) (L : Lex) (x : Int) (F : List Nat) (w : World) (h : LexIn w base b post T L F) (hx : 0 ≤ x) (hx2 : x ≤ 255) (hc : isBlank x = true ∨ isMark x = true) :
    Calls Try.prog 41 #[.pointer (some ⟨b, 0, none⟩), .int .u8 x] w fun e w' => TokPost w base b post T F (L.between x) e w' := by
  have hpost : ∀ w', Keeps [] w w' → LexSame w base b post T F L w' := fun w' k => ⟨h.keeps k (by simp), k.mono (by simp), h.1.2⟩
  have hi1 := index_any ⟨#[32, 9, 10, 13]⟩ x w
  have hi2 := index_any ⟨#[123, 125, 91, 93, 58, 44]⟩ x w
  have hb := blank_idx x hx hx2
  have hm := mark_idx x hx hx2
  clear h
  cases h1 : isBlank x
  · have h2 : isMark x = true := by rcases hc with h | h; rw [h1] at h; cases h; exact h
    have hL : L.between x = (L, [Tok.of x]) := by unfold Lex.between; rw [if_neg (by simp [h1]), if_pos h2]
    rw [hL]
    rw [h1] at hb
    rw [h2] at hm
    have hb' : Lib.indexByte (⟨#[32, 9, 10, 13]⟩ : ByteArray).data.toList x.toNat.toUInt8 = -1 := by
      rcases hb with ⟨_, h⟩ | ⟨h, _⟩
      · exact h
      · cases h
    have hm' : 0 ≤ Lib.indexByte (⟨#[123, 125, 91, 93, 58, 44]⟩ : ByteArray).data.toList x.toNat.toUInt8 := by
      rcases hm with ⟨h, _⟩ | ⟨_, h⟩
      · cases h
      · exact h
    rw [hb'] at hi1
    obtain ⟨k, hk⟩ : ∃ k, Lib.indexByte (⟨#[123, 125, 91, 93, 58, 44]⟩ : ByteArray).data.toList x.toNat.toUInt8 = k := ⟨_, rfl⟩
    rw [hk] at hi2 hm'
    have HP := Lib.hid hpost
    clear hb hm hb' hk hL h1 h2 hc hpost
    go_enter Try.func41, Try.ntmps41
    go_wp2_with fail
    refine hi1.mono ?_
    rintro e w1 ⟨rfl, rfl⟩
    go_wp2_with fail
    refine hi2.mono ?_
    rintro e w1 ⟨rfl, rfl⟩
    go_wp2_with fail
    go_ret
    exact tokSame rfl (ToksOut.one _ _ (Nat.le_refl _) (Tok.of x) rfl) (HP.out _ ((Keeps.refl _ _).alloc _))
  · have hL : L.between x = (L, []) := by unfold Lex.between; rw [if_pos h1]
    rw [hL]
    rw [h1] at hb
    have hb' : 0 ≤ Lib.indexByte (⟨#[32, 9, 10, 13]⟩ : ByteArray).data.toList x.toNat.toUInt8 := by
      rcases hb with ⟨h, _⟩ | ⟨_, h⟩
      · cases h
      · exact h
    obtain ⟨k, hk⟩ : ∃ k, Lib.indexByte (⟨#[32, 9, 10, 13]⟩ : ByteArray).data.toList x.toNat.toUInt8 = k := ⟨_, rfl⟩
    rw [hk] at hi1 hb'
    have HP := Lib.hid hpost
    clear hb hm hk hL h1 hc hpost hi2
    go_enter Try.func41, Try.ntmps41
    go_wp2_with fail
    refine hi1.mono ?_
    rintro e w1 ⟨rfl, rfl⟩
    go_wp2_with fail
    go_ret
    exact tokNil rfl (HP.out _ (Keeps.refl _ _))

set_option maxHeartbeats 2000000 in
set_option maxRecDepth 100000 in
theorem lex_between_q (base b : Nat) (post : List Value) (T : TypeId) (L : Lex) (F : List Nat) (w : World) (h : LexIn w base b post T L F) :
    Calls Try.prog 41 #[.pointer (some ⟨b, 0, none⟩), .int .u8 34] w fun e w' => TokPost w base b post T F (L.between 34) e w' := by
  have hL : L.between 34 = ({ L with state := 1, r := Rdr.new, s := [] }, []) := by simp [Lex.between, isBlank, isMark]
  rw [hL]
  obtain ⟨hbF, p, v, hh, _⟩ := h
  have hi1 := index_any ⟨#[32, 9, 10, 13]⟩ 34 w
  have hi2 := index_any ⟨#[123, 125, 91, 93, 58, 44]⟩ 34 w
  have e1 : Lib.indexByte (⟨#[32, 9, 10, 13]⟩ : ByteArray).data.toList (34 : Int).toNat.toUInt8 = -1 := by decide
  have e2 : Lib.indexByte (⟨#[123, 125, 91, 93, 58, 44]⟩ : ByteArray).data.toList (34 : Int).toNat.toUInt8 = -1 := by decide
  rw [e1] at hi1
  rw [e2] at hi2
  obtain ⟨g0, g20, g21, g22, hlt⟩ := lex_cell hh
  have g1 := hh.cell 1
  have g2 := hh.cell 2
  have g3 := hh.cell 3
  have g4 := hh.cell 4
  have g5 := hh.cell 5
  have g6 := hh.cell 6
  have g7 := hh.cell 7
  have g8 := hh.cell 8
  have g9 := hh.cell 9
  have f0 := hh.free 0
  have f1 := hh.free 1
  have f2 := hh.free 2
  have f3 := hh.free 3
  have f4 := hh.free 4
  have f5 := hh.free 5
  have f6 := hh.free 6
  have f7 := hh.free 7
  have f8 := hh.free 8
  have f9 := hh.free 9
  simp only [Lex.cells, Rdr.cells, Chk.cells, List.cons_append, List.nil_append, List.getElem?_cons_zero, List.getElem?_cons_succ] at g1 g2 g3 g4 g5 g6 g7 g8 g9
  have HH := Lib.hid hh
  clear e1 e2 hL hh
  go_enter Try.func41, Try.ntmps41
  go_wp2_with fail
  refine hi1.mono ?_
  rintro e w1 ⟨rfl, rfl⟩
  go_wp2_with fail
  refine hi2.mono ?_
  rintro e w1 ⟨rfl, rfl⟩
  go_wp2_with fail
  have h10 := HH.out.set 0 (.int .i64 1)
  have h10 := ((((((((((HH.out.set 0 (.int .i64 1)).set 1 (.int .i64 0)).set 2 (.int .u8 0)).set 3 (.int .u8 0)).set 4 (.bool false)).set 5 (.int .i64 0)).set 6 (.int .i64 0)).set 7 (.int .i64 0)).set 8 (.int .i64 0)).set 9 (.int .i64 0))
  have k10 : Keeps [b] w ((((((((((w.setCell ⟨b, 0, none⟩ (.int .i64 1)).setCell ⟨b, 1, none⟩ (.int .i64 0)).setCell ⟨b, 2, none⟩ (.int .u8 0)).setCell ⟨b, 3, none⟩ (.int .u8 0)).setCell ⟨b, 4, none⟩ (.bool false)).setCell ⟨b, 5, none⟩ (.int .i64 0)).setCell ⟨b, 6, none⟩ (.int .i64 0)).setCell ⟨b, 7, none⟩ (.int .i64 0)).setCell ⟨b, 8, none⟩ (.int .i64 0)).setCell ⟨b, 9, none⟩ (.int .i64 0)) :=
    ((((((((((Keeps.refl _ _).set1 _).set1 _).set1 _).set1 _).set1 _).set1 _).set1 _).set1 _).set1 _).set1 _
  have h11 := h10.conv (cs' := Lex.cells { L with state := 1, r := Rdr.new, s := [] } p v ++ post) (by simp [Lex.cells, Rdr.cells, Chk.cells, Rdr.new, Chk.zero])
  obtain ⟨w2, hw2⟩ : ∃ w2, w2 = ((((((((((w.setCell ⟨b, 0, none⟩ (.int .i64 1)).setCell ⟨b, 1, none⟩ (.int .i64 0)).setCell ⟨b, 2, none⟩ (.int .u8 0)).setCell ⟨b, 3, none⟩ (.int .u8 0)).setCell ⟨b, 4, none⟩ (.bool false)).setCell ⟨b, 5, none⟩ (.int .i64 0)).setCell ⟨b, 6, none⟩ (.int .i64 0)).setCell ⟨b, 7, none⟩ (.int .i64 0)).setCell ⟨b, 8, none⟩ (.int .i64 0)).setCell ⟨b, 9, none⟩ (.int .i64 0)) := ⟨_, rfl⟩
  rw [← hw2] at h11 k10 ⊢
  rw [Lex.cells_b] at h11
  refine (bld_reset b _ _ T p v w2 h11 10 (by simp [Rdr.cells, Chk.cells])).mono ?_
  rintro e w3 ⟨rfl, h3, k3⟩
  rw [← Lex.cells_b] at h3
  have H3 := Lib.hid h3
  have K3 := Lib.hid (k10.trans k3)
  clear h10 k10 h11 hw2 h3 k3 g0 g1 g2 g3 g4 g5 g6 g7 g8 g9 f0 f1 f2 f3 f4 f5 f6 f7 f8 f9 g20 g21 g22
  go_wp2_with fail
  go_ret
  refine tokPost_nil rfl ⟨F, ⟨⟨hbF.1, fun i hi => Nat.lt_of_lt_of_le (hbF.2 i hi) K3.out.size⟩, _, _, H3.out, fun _ _ => ⟨Or.inl rfl, BufIs.nil _ _, by simp [blks_nil]⟩⟩, K3.out.mono (by simpa using hbF.1), fun _ hi => Or.inl hi⟩

set_option maxHeartbeats 2000000 in
set_option maxRecDepth 100000 in
theorem lex_between_n (base b : Nat) (post : List Value) (T : TypeId) (L : Lex) (x : Int) (F : List Nat) (w : World) (h : LexIn w base b post T L F) (hx : 0 ≤ x) (hx2 : x ≤ 255) (hc : x = 45 ∨ 48 ≤ x ∧ x ≤ 57) :
    Calls Try.prog 41 #[.pointer (some ⟨b, 0, none⟩), .int .u8 x] w fun e w' => TokPost w base b post T F (L.between x) e w' := by
  have hb : isBlank x = false := by simp only [isBlank, decide_eq_false_iff_not]; omega
  have hm : isMark x = false := by simp only [isMark, decide_eq_false_iff_not]; omega
  have hL : L.between x = ({ L with state := 2, n := Num.new.after x, e := (Num.new.after x).e }, []) := by
    unfold Lex.between
    rw [if_neg (by simp [hb]), if_neg (by simp [hm]), if_neg (by omega), if_pos (by rcases hc with h | h; exact Or.inl h; exact Or.inr (by simp [isDig, h]))]
  rw [hL]
  obtain ⟨hbF, p, v, hh, _⟩ := h
  have hi1 := index_any ⟨#[32, 9, 10, 13]⟩ x w
  have hi2 := index_any ⟨#[123, 125, 91, 93, 58, 44]⟩ x w
  have e1 : Lib.indexByte (⟨#[32, 9, 10, 13]⟩ : ByteArray).data.toList x.toNat.toUInt8 = -1 := by
    rcases blank_idx x hx hx2 with ⟨_, h⟩ | ⟨h, _⟩
    · exact h
    · rw [hb] at h; cases h
  have e2 : Lib.indexByte (⟨#[123, 125, 91, 93, 58, 44]⟩ : ByteArray).data.toList x.toNat.toUInt8 = -1 := by
    rcases mark_idx x hx hx2 with ⟨_, h⟩ | ⟨h, _⟩
    · exact h
    · rw [hm] at h; cases h
  rw [e1] at hi1
  rw [e2] at hi2
  obtain ⟨g0, g20, g21, g22, hlt⟩ := lex_cell hh
  have g12 := hh.cell 12
  have g13 := hh.cell 13
  have g14 := hh.cell 14
  have g15 := hh.cell 15
  have g16 := hh.cell 16
  have g17 := hh.cell 17
  have g18 := hh.cell 18
  have g19 := hh.cell 19
  have f0 := hh.free 0
  have f12 := hh.free 12
  have f13 := hh.free 13
  have f14 := hh.free 14
  have f15 := hh.free 15
  have f16 := hh.free 16
  have f17 := hh.free 17
  have f18 := hh.free 18
  have f19 := hh.free 19
  simp only [Lex.cells, Rdr.cells, Chk.cells, Num.cells, List.cons_append, List.nil_append, List.getElem?_cons_zero, List.getElem?_cons_succ] at g12 g13 g14 g15 g16 g17 g18 g19
  have n34 : (x == 34) = false := by rw [beq_eq_false_iff_ne]; omega
  have HH := Lib.hid hh
  clear e1 e2 hL hh hb hm
  have hcc : (x == 45) = true ∨ (x == 45) = false ∧ 48 ≤ x ∧ x ≤ 57 := by
    rcases hc with h | h
    · exact Or.inl (by simp [h])
    · exact Or.inr ⟨by rw [beq_eq_false_iff_ne]; omega, h⟩
  clear hc
  rcases hcc with h45 | ⟨h45, h48, h57⟩
  all_goals
    go_enter Try.func41, Try.ntmps41
    go_wp2_with fail
    refine hi1.mono ?_
    rintro e w1 ⟨rfl, rfl⟩
    go_wp2_with fail
    refine hi2.mono ?_
    rintro e w1 ⟨rfl, rfl⟩
    go_wp2_with fail
    have h10 := (((((((((HH.out.set 0 (.int .i64 2)).set 12 (.bool false)).set 13 (.bool false)).set 14 (.bool false)).set 15 (.bool false)).set 16 (.int .u64 0)).set 17 (.bool false)).set 18 (.bool false)).set 19 (.int .i64 0))
    obtain ⟨w2, hw2, k10⟩ : ∃ w2, w2 = ((((((((w.setCell ⟨b, 0, none⟩ (.int .i64 2)).setCell ⟨b, 12, none⟩ (.bool false)).setCell ⟨b, 13, none⟩ (.bool false)).setCell ⟨b, 14, none⟩ (.bool false)).setCell ⟨b, 15, none⟩ (.bool false)).setCell ⟨b, 16, none⟩ (.int .u64 0)).setCell ⟨b, 17, none⟩ (.bool false)).setCell ⟨b, 18, none⟩ (.bool false)).setCell ⟨b, 19, none⟩ (.int .i64 0) ∧ Keeps [b] w w2 := ⟨_, rfl, (((((((((Keeps.refl _ _).set1 _).set1 _).set1 _).set1 _).set1 _).set1 _).set1 _).set1 _).set1 _⟩
    have h11 := h10.conv (cs' := Lex.cells { L with state := 2, n := Num.new } p v ++ post) (by simp [Lex.cells, Rdr.cells, Chk.cells, Num.cells, Num.new])
    rw [← hw2] at h11 ⊢
    rw [Lex.cells_n] at h11
    refine (num_step b _ _ T Num.new x w2 h11 12 (by simp [Rdr.cells, Chk.cells]) ⟨hx, hx2⟩ (by decide)).mono ?_
    rintro e w3 ⟨rfl, h3, k3⟩
    have h3' : Has w3 b (Lex.cells { L with state := 2, n := Num.new.after x } p v ++ post) T := h3.conv (by rw [Lex.cells_n])
    obtain ⟨_, _, _, g22, hlt3⟩ := lex_cell h3'
    obtain ⟨_, _, _, f22⟩ := lex_free h3'
    have H3 := Lib.hid h3'
    have K3 := Lib.hid (k10.trans k3)
    clear h10 k10 h11 hw2 h3 k3 g0 g20 g21 h3' f0 f12 f13 f14 f15 f16 f17 f18 f19 g12 g13 g14 g15 g16 g17 g18 g19
    go_wp2_with fail
    go_ret
    refine tokNil rfl (lexPost_of (p := p) (v := v) hbF ((H3.out.set 22 _).conv (by simp [Lex.cells, Rdr.cells, Chk.cells, Num.cells])) (Or.inl (by simp)) ((K3.out.set1 _).mono (by simpa using hbF.1)))

set_option maxHeartbeats 2000000 in
set_option maxRecDepth 100000 in
theorem lex_between_w (base b : Nat) (post : List Value) (T : TypeId) (L : Lex) (x : Int) (F : List Nat) (w : World) (h : LexIn w base b post T L F) (hc : x = 116 ∨ x = 102 ∨ x = 110) :
    Calls Try.prog 41 #[.pointer (some ⟨b, 0, none⟩), .int .u8 x] w fun e w' => TokPost w base b post T F (L.between x) e w' := by
  obtain ⟨hbF, p, v, hh, _⟩ := h
  obtain ⟨g0, g20, g21, g22, hlt⟩ := lex_cell hh
  obtain ⟨f0, f20, f21, f22⟩ := lex_free hh
  have HH := Lib.hid hh
  clear hh
  have hi1 := index_any ⟨#[32, 9, 10, 13]⟩ x w
  have hi2 := index_any ⟨#[123, 125, 91, 93, 58, 44]⟩ x w
  have e1 : Lib.indexByte (⟨#[32, 9, 10, 13]⟩ : ByteArray).data.toList x.toNat.toUInt8 = -1 := by rcases hc with rfl | rfl | rfl <;> decide
  have e2 : Lib.indexByte (⟨#[123, 125, 91, 93, 58, 44]⟩ : ByteArray).data.toList x.toNat.toUInt8 = -1 := by rcases hc with rfl | rfl | rfl <;> decide
  rw [e1] at hi1
  rw [e2] at hi2
  clear e1 e2
  rcases hc with rfl | rfl | rfl
  all_goals
    go_enter Try.func41, Try.ntmps41
    go_wp2_with fail
    refine hi1.mono ?_
    rintro e w1 ⟨rfl, rfl⟩
    go_wp2_with fail
    refine hi2.mono ?_
    rintro e w1 ⟨rfl, rfl⟩
    go_wp2_with fail
    go_ret
    refine tokNil rfl (lexPost_of (p := p) (v := v) hbF ((((HH.out.set 0 _).set 20 _).set 21 _).conv ?_) (Or.inl ?_) (((((Keeps.refl _ _).set1 _).set1 _).set1 _).mono (by simpa using hbF.1)))
    · simp [Lex.cells, Rdr.cells, Chk.cells, Num.cells]
    · simp

set_option maxHeartbeats 2000000 in
set_option maxRecDepth 100000 in
theorem lex_between_e (base b : Nat) (post : List Value) (T : TypeId) (L : Lex) (x : Int) (F : List Nat) (w : World) (h : LexIn w base b post T L F) (hx : 0 ≤ x) (hx2 : x ≤ 255) (hs : L.state ≠ 1) (hb : isBlank x = false) (hm : isMark x = false) (h34 : x ≠ 34) (h45 : x ≠ 45) (hd : isDig x = false) (h1 : x ≠ 116) (h2 : x ≠ 102) (h3 : x ≠ 110) :
    Calls Try.prog 41 #[.pointer (some ⟨b, 0, none⟩), .int .u8 x] w fun e w' => TokPost w base b post T F (L.between x) e w' := by
  have hL : L.between x = ({ L with e := 2 }, []) := by
    unfold Lex.between
    rw [if_neg (by simp [hb]), if_neg (by simp [hm]), if_neg h34, if_neg (by simp [h45, hd]), if_neg h1, if_neg h2, if_neg h3]
  rw [hL]
  obtain ⟨hbF, p, v, hh, _⟩ := h
  have hi1 := index_any ⟨#[32, 9, 10, 13]⟩ x w
  have hi2 := index_any ⟨#[123, 125, 91, 93, 58, 44]⟩ x w
  have e1 : Lib.indexByte (⟨#[32, 9, 10, 13]⟩ : ByteArray).data.toList x.toNat.toUInt8 = -1 := by
    rcases blank_idx x hx hx2 with ⟨_, h⟩ | ⟨h, _⟩
    · exact h
    · rw [hb] at h; cases h
  have e2 : Lib.indexByte (⟨#[123, 125, 91, 93, 58, 44]⟩ : ByteArray).data.toList x.toNat.toUInt8 = -1 := by
    rcases mark_idx x hx hx2 with ⟨_, h⟩ | ⟨h, _⟩
    · exact h
    · rw [hm] at h; cases h
  rw [e1] at hi1
  rw [e2] at hi2
  obtain ⟨g0, g20, g21, g22, hlt⟩ := lex_cell hh
  obtain ⟨f0, f20, f21, f22⟩ := lex_free hh
  have HH := Lib.hid hh
  have HS := Lib.hid hs
  have n1 : (x == 34) = false := by simp [h34]
  have n2 : (x == 45) = false := by simp [h45]
  have n3 : (x == 116) = false := by simp [h1]
  have n4 : (x == 102) = false := by simp [h2]
  have n5 : (x == 110) = false := by simp [h3]
  have hd' : x < 48 ∨ 57 < x := by simp [isDig] at hd; omega
  clear e1 e2 hL hh hs hb hm hd h34 h45 h1 h2 h3
  rcases hd' with hd | hd
  all_goals
    go_enter Try.func41, Try.ntmps41
    go_wp2_with fail
    refine hi1.mono ?_
    rintro e w1 ⟨rfl, rfl⟩
    go_wp2_with fail
    refine hi2.mono ?_
    rintro e w1 ⟨rfl, rfl⟩
    go_wp2_with fail
    go_ret
    refine tokNil rfl (lexPost_of (p := p) (v := v) hbF ((HH.out.set 22 _).conv ?_) (Or.inl ?_) (((Keeps.refl _ _).set1 _).mono (by simpa using hbF.1)))
    · simp [Lex.cells, Rdr.cells, Chk.cells, Num.cells]
    · exact HS.out

theorem lex_between (base b : Nat) (post : List Value) (T : TypeId) (L : Lex) (x : Int) (F : List Nat) (w : World) (h : LexIn w base b post T L F) (hx : 0 ≤ x) (hx2 : x ≤ 255) (hs : L.state ≠ 1) :
    Calls Try.prog 41 #[.pointer (some ⟨b, 0, none⟩), .int .u8 x] w fun e w' => TokPost w base b post T F (L.between x) e w' := by
  by_cases hc : isBlank x = true ∨ isMark x = true
  · exact lex_between_a base b post T L x F w h hx hx2 hc
  have hb : isBlank x = false := by cases hh : isBlank x <;> simp_all
  have hm : isMark x = false := by cases hh : isMark x <;> simp_all
  by_cases h34 : x = 34
  · subst h34; exact lex_between_q base b post T L F w h
  by_cases hn : x = 45 ∨ 48 ≤ x ∧ x ≤ 57
  · exact lex_between_n base b post T L x F w h hx hx2 hn
  by_cases hw : x = 116 ∨ x = 102 ∨ x = 110
  · exact lex_between_w base b post T L x F w h hw
  exact lex_between_e base b post T L x F w h hx hx2 hs hb hm h34 (by omega) (by simp [isDig]; omega) (by omega) (by omega) (by omega)

end Go.Proofs.Ytbeocehadnhmnaa
