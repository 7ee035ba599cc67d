/-
  lexer.Lexer: text, word, ended, number: their contracts.
-/
import Derived.Test.YtbeocehadnhmnaaLexBet
import Derived.Laws.RangeAny
import Derived.Lib.OthersKept
import Derived.Deep.QuietTactic
import Derived.Deep.RegionWith
import Derived.Laws.ResultCell
namespace Go.Proofs.Ytbeocehadnhmnaa
open Go.RowKit Go.Tru

set_option maxHeartbeats 2000000 in
set_option maxRecDepth 100000 in
theorem lex_text_end (base b : Nat) (post : List Value) (T : TypeId) (L : Lex) (F : List Nat) (w : World) (h : LexIn w base b post T L F) (ht : LexT T post.length) (hs : L.state = 1) (he : L.e = 0) (hwh : L.r.whole = true) :
    Calls Try.prog 38 #[.pointer (some ⟨b, 0, none⟩), .int .u8 34] w fun e w' => TokPost w base b post T F (L.text 34) e w' := by
  have hL : L.text 34 = ({ L with state := 0, s := [] }, [⟨115, ⟨L.s.toArray⟩, false, 0⟩]) := by unfold Lex.text; rw [if_pos ⟨rfl, hwh⟩]
  rw [hL]
  obtain ⟨hbF, p, v, hh, hbuf⟩ := h
  obtain ⟨hp, hbf, hvF⟩ := hbuf hs he
  have hbv := hbf.ne hh ht.ne
  have hrw := rdr_whole b _ _ T L.r w (hh.conv (L.cells_r p v post)) 1 rfl
  rw [hwh] at hrw
  obtain ⟨g0, g20, g21, g22, hlt⟩ := lex_cell hh
  obtain ⟨f0, f20, f21, f22⟩ := lex_free hh
  have h1 := (hh.set 0 (.int .i64 0)).conv (cs' := Lex.cells { L with state := 0, s := [] } p v ++ post) (by simp [Lex.cells])
  obtain ⟨w1, hw1, k1⟩ : ∃ w1, w1 = w.setCell ⟨b, 0, none⟩ (.int .i64 0) ∧ Keeps [b] w w1 := ⟨_, rfl, (Keeps.refl _ _).set1 _⟩
  rw [← hw1] at h1
  have hbf1 := hbf.keeps k1 (fun i hi hm => hbv (by rw [List.mem_singleton] at hm; exact hm ▸ hi))
  have hstr := bld_string b _ _ T p v base L.s w1 (h1.conv (Lex.cells_b _ p v post)) 10 (pre_b _) hbf1
  have H1 := Lib.hid h1
  have K1 := Lib.hid k1
  have HV := Lib.hid hvF
  have HB := Lib.hid hbv
  obtain ⟨ls, hls⟩ : ∃ ls : ByteArray, ⟨L.s.toArray⟩ = ls := ⟨_, rfl⟩
  rw [hls] at hstr ⊢
  rw [hs] at g0
  have HW := Lib.hid hw1
  clear hL hh hbuf hp hbf hs he hwh h1 hbf1 hw1 k1 hvF hbv ht hls
  go_enter Try.func38, Try.ntmps38
  go_wp2_with fail
  refine hrw.mono ?_
  rintro e wz ⟨rfl, rfl⟩
  go_wp2_with fail
  rw [← HW.out]
  refine hstr.mono ?_
  rintro e w2 ⟨rfl, k2⟩
  have H2 := Lib.hid (H1.out.keeps k2 HB.out)
  have K2 := Lib.hid k2
  clear k2 g0 g20 g21 g22 f0 f20 f21 f22 hlt
  go_wp2_with fail
  go_ret
  have kk : Keeps F w w2 := (K1.out.mono (by simpa using hbF.1)).trans (K2.out.mono HV.out)
  exact tokSame rfl (ToksOut.one _ _ kk.size ⟨115, ls, false, 0⟩ rfl) (lexPost_of (p := p) (v := v) hbF (H2.out.alloc _) (Or.inl (by simp)) (kk.alloc _))

set_option maxHeartbeats 4000000 in
set_option maxRecDepth 100000 in
theorem lex_text_in (base b : Nat) (post : List Value) (T : TypeId) (L : Lex) (x : Int) (F : List Nat) (w : World) (h : LexIn w base b post T L F) (ht : LexT T post.length) (hx : 0 ≤ x) (hx2 : x ≤ 255) (hbase : base ≤ w.heap.size) (hf : L.Fit) (hs : L.state = 1) (he : L.e = 0) (hn : ¬ (x = 34 ∧ L.r.whole = true)) :
    Calls Try.prog 38 #[.pointer (some ⟨b, 0, none⟩), .int .u8 x] w fun e w' => TokPost w base b post T F (L.text x) e w' := by
  have hL : L.text x = ({ L with r := (L.r.step x).1, s := L.s ++ (L.r.step x).2, e := if (L.r.step x).1.e = 0 ∧ 200 < (L.s ++ (L.r.step x).2).length then 5 else (L.r.step x).1.e }, []) := by unfold Lex.text; rw [if_neg hn]
  rw [hL]
  obtain ⟨hbF, p, v, hh, hbuf⟩ := h
  obtain ⟨hp, hbf, hvF⟩ := hbuf hs he
  have hbv := hbf.ne hh ht.ne
  have hrw := rdr_whole b _ _ T L.r w (hh.conv (L.cells_r p v post)) 1 rfl
  have hstep := rdr_step b _ _ T L.r x w (hh.conv (L.cells_r p v post)) 1 rfl hx hx2 hf.r
  have hout := Rdr.out_len L.r x
  obtain ⟨r1, out, hro⟩ : ∃ r1 out, L.r.step x = (r1, out) := ⟨_, _, rfl⟩
  rw [hro] at hstep hout ⊢
  simp only at hstep hout ⊢
  have hs4 := hf.s
  have hq : (x == 34) = false ∨ x = 34 ∧ L.r.whole = false := by
    by_cases h34 : x = 34
    · right
      refine ⟨h34, ?_⟩
      cases hh : L.r.whole
      · rfl
      · exact absurd ⟨h34, hh⟩ hn
    · left; simp [h34]
  have HBF := Lib.hid hbf
  have HV := Lib.hid hvF
  have HB := Lib.hid hbv
  have HP := Lib.hid hp
  have HT := Lib.hid ht
  have HE := Lib.hid he
  obtain ⟨sv, hsv⟩ : ∃ sv : ByteArray, ⟨out.toArray⟩ = sv := ⟨_, rfl⟩
  have hsl : sv.data.toList = out := by rw [← hsv]
  have hsz : sv.size = out.length := by rw [← hsv]; rfl
  have HSL := Lib.hid hsl
  obtain ⟨ev, hev⟩ : ∃ ev : Int, (if r1.e = 0 ∧ 200 < (L.s ++ out).length then 5 else r1.e) = ev := ⟨_, rfl⟩
  rw [hev]
  have HEV := Lib.hid hev
  clear hev
  clear hL hh hbuf hp hbf he hvF hbv ht hro hn hf
  rcases hq with hq | ⟨rfl, hq⟩
  all_goals
    go_enter Try.func38, Try.ntmps38
    go_wp2_with fail
    (try rw [hq] at hrw)
    (try (refine hrw.mono ?_; rintro e wz ⟨rfl, rfl⟩; go_wp2_with fail))
    refine hstep.mono ?_
    rintro e w1 ⟨rfl, h1, k1⟩
    simp only [txtVal, hsv]
    have h1' : Has w1 b (Lex.cells { L with r := r1 } p v ++ post) T := h1.conv (by rw [Lex.cells_r])
    have hbf1 := HBF.out.keeps k1 (fun i hi hm => HB.out (by rw [List.mem_singleton] at hm; exact hm ▸ hi))
    have hwr := bld_write b _ _ T p v base L.s sv w1 (h1'.conv (Lex.cells_b _ p v post)) 10 (pre_b _) HP.out (HT.out.at_ _) hbf1 (by omega) (by have := k1.size; omega)
    have K1 := Lib.hid k1
    clear hstep h1 k1 h1' hbf1 hrw
    go_wp2_with fail
    refine hwr.mono ?_
    rintro e w2 ⟨rfl, v2, h2, hbf2, k2, hnew⟩
    have h2' : Has w2 b (Lex.cells { L with r := r1 } (.pointer (some ⟨b, 10, none⟩)) v2 ++ post) T := h2.conv (by rw [Lex.cells_b])
    rw [HSL.out] at hbf2
    have hbv2 := hbf2.ne h2' HT.out.ne
    obtain ⟨o2, c2, hv2⟩ := hbf2.shape
    obtain ⟨g0, g20, g21, g22, hlt⟩ := lex_cell h2'
    obtain ⟨f0, f20, f21, f22⟩ := lex_free h2'
    have h3 := (h2'.set 22 (.int .i64 r1.e)).conv (cs' := Lex.cells { L with r := r1, s := L.s ++ out, e := r1.e } (.pointer (some ⟨b, 10, none⟩)) v2 ++ post) (by simp [Lex.cells, Rdr.cells, Chk.cells, Num.cells])
    obtain ⟨w3, hw3, k3⟩ : ∃ w3, w3 = w2.setCell ⟨b, 22, none⟩ (.int .i64 r1.e) ∧ Keeps [b] w2 w3 := ⟨_, rfl, (Keeps.refl _ _).set1 _⟩
    have hw3' := hw3
    rw [← hw3] at h3
    have hbf3 := hbf2.keeps k3 (fun i hi hm => hbv2 (by rw [List.mem_singleton] at hm; exact hm ▸ hi))
    have kall : Keeps (F ++ blks v2) w w3 ∧ Keeps F w w3 := by
      have ka : Keeps F w w2 := (K1.out.mono (by simpa using hbF.1)).trans (k2.mono (fun i hi => by
        rcases List.mem_cons.1 hi with rfl | hi
        · exact hbF.1
        · exact HV.out i hi))
      have kb : Keeps F w w3 := ka.trans (k3.mono (by simpa using hbF.1))
      exact ⟨kb.mono (fun i hi => List.mem_append_left _ hi), kb⟩
    have hlt' : ∀ i ∈ F ++ blks v2, i < w3.heap.size := fun i hi => by
      rcases List.mem_append.1 hi with hi | hi
      · exact Nat.lt_of_lt_of_le (hbF.2 i hi) kall.2.size
      · exact (World.ownsRow.lt hbf3 i (mem_blks.1 hi)).2
    have hnew' : ∀ i ∈ F ++ blks v2, i ∈ F ∨ w.heap.size ≤ i := fun i hi => by
      rcases List.mem_append.1 hi with hi | hi
      · exact Or.inl hi
      · rcases hnew i hi with h | h
        · exact Or.inl (HV.out i h)
        · exact Or.inr (by have := K1.out.size; omega)
    obtain ⟨n2, hn2⟩ : ∃ n2, (L.s ++ out).length = n2 := ⟨_, rfl⟩
    rw [hn2] at hv2
    subst hv2
    have hlen := bld_len b _ _ T (.pointer (some ⟨b, 10, none⟩)) o2 n2 c2 w3 (h3.conv (Lex.cells_b _ _ _ post)) 10 (pre_b _)
    have H3 := Lib.hid h3
    have HBF3 := Lib.hid hbf3
    have KA := Lib.hid kall
    have HN := Lib.hid hnew'
    have HLT := Lib.hid hlt'
    have HBV := Lib.hid hbv2
    have HN2 := Lib.hid hn2
    clear hwr h2 hbf2 k2 hnew h2' hbv2 h3 hbf3 kall hnew' hlt' k3 hw3
    by_cases hre : r1.e = 0
    · by_cases hov : 200 < n2
      · have hev : ev = 5 := by rw [← HEV.out, if_pos ⟨hre, by rw [hn2]; exact hov⟩]
        subst hev
        rw [hre] at hw3'
        have HRE := Lib.hid hre
        have hov' : (200 : Int) < (n2 : Int) := by omega
        have HW := Lib.hid hw3'
        have H3 := H3.out
        rw [hre] at H3
        have H3 := Lib.hid H3
        obtain ⟨g0', g20', g21', g22', hlt'⟩ := lex_cell H3.out
        obtain ⟨f0', f20', f21', f22'⟩ := lex_free H3.out
        clear hre hov hw3' hn2
        go_wp2_with fail
        rw [← HW.out]
        refine hlen.mono ?_
        rintro e wz ⟨rfl, rfl⟩
        go_wp2_with fail
        go_ret
        refine tokPost_nil rfl ⟨F ++ blks (.slice o2 n2 c2), ⟨⟨List.mem_append_left _ hbF.1, fun i hi => by have := HLT.out i hi; simpa using this⟩, .pointer (some ⟨b, 10, none⟩), .slice o2 n2 c2, (H3.out.set 22 (.int .i64 5)).conv (by simp [Lex.cells, Rdr.cells, Chk.cells, Num.cells]), fun _ h5 => by simp at h5⟩, KA.out.2.setCell (Or.inl hbF.1) _, HN.out⟩
      · have hev : ev = 0 := by rw [← HEV.out, if_neg (fun h => hov (by rw [← hn2]; exact h.2)), hre]
        subst hev
        rw [hre] at hw3'
        have hov' : ¬ (200 : Int) < (n2 : Int) := by omega
        have HW := Lib.hid hw3'
        have HRE := Lib.hid hre
        clear hre hov hw3' hn2
        go_wp2_with fail
        rw [← HW.out]
        refine hlen.mono ?_
        rintro e wz ⟨rfl, rfl⟩
        go_wp2_with fail
        go_ret
        refine tokPost_nil rfl ⟨F ++ blks (.slice o2 n2 c2), ⟨⟨List.mem_append_left _ hbF.1, fun i hi => by have := HLT.out i hi; simpa using this⟩, _, _, H3.out.conv (by simp [HRE.out]; try rfl), fun _ _ => ⟨Or.inr rfl, HBF3.out, fun i hi => List.mem_append_right _ hi⟩⟩, KA.out.2, HN.out⟩
    · have hev : ev = r1.e := by rw [← HEV.out, if_neg (fun h => hre h.1)]
      subst hev
      have hre' : (r1.e == 0) = false := by simp [hre]
      have HW := Lib.hid hw3'
      have HRE := Lib.hid hre
      clear hre hw3' hn2
      go_wp2_with fail
      rw [← HW.out]
      go_ret
      refine tokPost_nil rfl ⟨F ++ blks (.slice o2 n2 c2), ⟨⟨List.mem_append_left _ hbF.1, fun i hi => by have := HLT.out i hi; simpa using this⟩, _, _, H3.out, fun _ h5 => absurd h5 HRE.out⟩, KA.out.2, HN.out⟩

theorem lex_text (base b : Nat) (post : List Value) (T : TypeId) (L : Lex) (x : Int) (F : List Nat) (w : World) (h : LexIn w base b post T L F) (ht : LexT T post.length) (hx : 0 ≤ x) (hx2 : x ≤ 255) (hbase : base ≤ w.heap.size) (hf : L.Fit) (hs : L.state = 1) (he : L.e = 0) :
    Calls Try.prog 38 #[.pointer (some ⟨b, 0, none⟩), .int .u8 x] w fun e w' => TokPost w base b post T F (L.text x) e w' := by
  by_cases hn : x = 34 ∧ L.r.whole = true
  · obtain ⟨rfl, hw⟩ := hn
    exact lex_text_end base b post T L F w h ht hs he hw
  · exact lex_text_in base b post T L x F w h ht hx hx2 hbase hf hs he hn

/-! ### words -/

theorem has_iter {w : World} {b k : Nat} {cs : List Value} {t : TypeId} {s : ByteArray} {pos : Nat} (h : Has w b cs t) (hb : b ≠ k) : Has (w.iterAt k s pos) b cs t :=
  (Lib.iterAt_other w k b s pos hb).trans h

theorem keeps_iter {F : List Nat} {a w : World} {k : Nat} {s : ByteArray} {pos : Nat} (h : Keeps F a w) (hk : a.heap.size ≤ k) : Keeps F a (w.iterAt k s pos) :=
  h.trans' (G := [k]) ⟨rfl, rfl, rfl, by rw [Lib.iterAt_size]; exact Nat.le_refl _, fun i hi hn => Lib.iterAt_other w k i s pos (by simpa using hn)⟩ (fun i hi => Or.inr (by rw [List.mem_singleton.1 hi]; exact hk))

theorem str_tail (x : UInt8) (t : List UInt8) : (⟨(x :: t).toArray⟩ : ByteArray).extract 1 (t.length + 1) = ⟨t.toArray⟩ := by
  apply ByteArray.ext
  simp [ByteArray.extract, ByteArray.copySlice]

/-- what the range over the word's rest begins with -/
def WordRel (b : Nat) (post : List Value) (T : TypeId) (L : Lex) (p v : Value) (w : World) (s : ByteArray) (wr : World) : Prop :=
  Has wr b (L.cells p v ++ post) T ∧ wr.heap[w.heap.size]? = some (.stringIter s 0) ∧ Keeps [] w wr

theorem wordRel_start {b : Nat} {post : List Value} {T : TypeId} {L : Lex} {p v : Value} {w : World} (h : Has w b (L.cells p v ++ post) T) (s : ByteArray) : WordRel b post T L p v w s (w.alloc (.stringIter s 0)) :=
  ⟨h.alloc _, World.iter_heap w s 0, (Keeps.refl _ _).alloc _⟩

set_option maxHeartbeats 2000000 in
set_option maxRecDepth 100000 in
theorem lex_word_none (base b : Nat) (post : List Value) (T : TypeId) (L : Lex) (x : Int) (F : List Nat) (w : World) (h : LexIn w base b post T L F) (hs : L.state = 3) (hr : L.rest = []) :
    Calls Try.prog 39 #[.pointer (some ⟨b, 0, none⟩), .int .u8 x] w fun e w' => TokPost w base b post T F (L.word x) e w' := by
  have hL : L.word x = ({ L with e := 2 }, []) := by unfold Lex.word; rw [hr]
  rw [hL]
  obtain ⟨hbF, p, v, hh, _⟩ := h
  obtain ⟨g0, g20, g21, g22, hlt⟩ := lex_cell hh
  rw [hr] at g20
  have HH := Lib.hid hh
  have HS := Lib.hid hs
  clear hL hh hs hr
  go_enter Try.func39, Try.ntmps39
  go_wp2_with fail
  go_loopw [6] (fun _ wr => WordRel b post T L p v w ⟨#[]⟩ wr) (fun _ _ => 0)
  case atStart => exact wordRel_start HH.out _
  case round =>
    obtain ⟨h1, hit, k1⟩ := hrel
    have hnx : ∀ ty, (Instr.next (.pointer (some ⟨w.heap.size, 0, none⟩)) true ty).run Try.prog wr = _ := fun ty => Lib.run_next_end_at wr w.heap.size ⟨#[]⟩ 0 ty hit (by decide)
    obtain ⟨g0, g20, g21, g22, hlt⟩ := lex_cell h1
    obtain ⟨f0, f20, f21, f22⟩ := lex_free h1
    have H1 := Lib.hid h1
    have K1 := Lib.hid k1
    clear h1 hit k1
    go_wp2_with fail
    go_ret
    refine tokNil rfl (lexPost_of (p := p) (v := v) hbF ((H1.out.set 22 _).conv ?_) (Or.inl ?_) ((K1.out.mono (by simp)).setCell (Or.inl hbF.1) _))
    · simp [Lex.cells, Rdr.cells, Chk.cells, Num.cells]
    · simp [HS.out]

set_option maxHeartbeats 2000000 in
set_option maxRecDepth 100000 in
theorem lex_word_off (base b : Nat) (post : List Value) (T : TypeId) (L : Lex) (x : Int) (F : List Nat) (w : World) (h : LexIn w base b post T L F) (hx : 0 ≤ x) (hx2 : x ≤ 255) (hs : L.state = 3) {y : UInt8} {t : List UInt8} (hr : L.rest = y :: t) (hy : y.toNat < 128) (hne : ¬ (y.toNat : Int) = x) :
    Calls Try.prog 39 #[.pointer (some ⟨b, 0, none⟩), .int .u8 x] w fun e w' => TokPost w base b post T F (L.word x) e w' := by
  have hL : L.word x = ({ L with e := 2 }, []) := by unfold Lex.word; rw [hr]; simp only []; rw [if_neg hne]
  rw [hL]
  obtain ⟨hbF, p, v, hh, _⟩ := h
  obtain ⟨g0, g20, g21, g22, hlt⟩ := lex_cell hh
  obtain ⟨sv, hsv⟩ : ∃ sv : ByteArray, ⟨L.rest.toArray⟩ = sv := ⟨_, rfl⟩
  have hsz : 0 < sv.size := by rw [← hsv, hr]; show 0 < (y :: t).toArray.size; simp
  have hs0 : sv[0]'hsz = y := by simp only [← hsv, hr]; rfl
  rw [hsv] at g20
  have HH := Lib.hid hh
  have HS := Lib.hid hs
  have hne' : ((y.toNat : Int) != x) = true := by simp [hne]
  clear hL hh hs hr hsv hne
  go_enter Try.func39, Try.ntmps39
  go_wp2_with fail
  go_loopw [6] (fun _ wr => WordRel b post T L p v w sv wr) (fun _ _ => 0)
  case atStart => exact wordRel_start HH.out _
  case round =>
    obtain ⟨h1, hit, k1⟩ := hrel
    have hnx : ∀ ty, (Instr.next (.pointer (some ⟨w.heap.size, 0, none⟩)) true ty).run Try.prog wr = _ := fun ty => Lib.run_next_any_at wr w.heap.size sv 0 ty hit hsz
    have hdec := decode_ascii sv 0 hsz (by rw [hs0]; exact hy)
    rw [hdec, hs0] at hnx
    have hw0 : w.heap.size ≠ b := by omega
    have hlt2 : w.heap.size < wr.heap.size := (Array.getElem?_eq_some_iff.1 hit).1
    have h2 := has_iter (s := sv) (pos := 0 + 1) h1 (k := w.heap.size) (by omega)
    have k2 := keeps_iter (s := sv) (pos := 0 + 1) k1 (k := w.heap.size) (by omega)
    obtain ⟨wi, hwi⟩ : ∃ wi, wi = wr.iterAt w.heap.size sv (0 + 1) := ⟨_, rfl⟩
    rw [← hwi] at h2 k2 hnx
    obtain ⟨g0, g20, g21, g22, hlt⟩ := lex_cell h2
    obtain ⟨f0, f20, f21, f22⟩ := lex_free h2
    have H2 := Lib.hid h2
    have K2 := Lib.hid k2
    clear h1 hit k1 h2 k2 hwi hdec
    go_wp2_with fail
    go_ret
    refine tokNil rfl (lexPost_of (p := p) (v := v) hbF ((H2.out.set 22 _).conv ?_) (Or.inl ?_) ((K2.out.mono (by simp)).setCell (Or.inl hbF.1) _))
    · simp [Lex.cells, Rdr.cells, Chk.cells, Num.cells]
    · simp [HS.out]

set_option maxHeartbeats 2000000 in
set_option maxRecDepth 100000 in
theorem lex_word_on (base b : Nat) (post : List Value) (T : TypeId) (L : Lex) (x : Int) (F : List Nat) (w : World) (h : LexIn w base b post T L F) (hs : L.state = 3) {y : UInt8} {t : List UInt8} (hr : L.rest = y :: t) (hy : y.toNat < 128) (hne : (y.toNat : Int) = x) (hlen : t.length ≤ 10) :
    Calls Try.prog 39 #[.pointer (some ⟨b, 0, none⟩), .int .u8 x] w fun e w' => TokPost w base b post T F (L.word x) e w' := by
  have hL : L.word x = if t = [] then ({ L with rest := [], state := 0 }, [Tok.of L.kind]) else ({ L with rest := t }, []) := by unfold Lex.word; rw [hr]; simp only []; rw [if_pos hne]
  rw [hL]
  obtain ⟨hbF, p, v, hh, _⟩ := h
  obtain ⟨g0, g20, g21, g22, hlt⟩ := lex_cell hh
  obtain ⟨sv, hsv⟩ : ∃ sv : ByteArray, ⟨L.rest.toArray⟩ = sv := ⟨_, rfl⟩
  obtain ⟨tv, htv⟩ : ∃ tv : ByteArray, ⟨t.toArray⟩ = tv := ⟨_, rfl⟩
  have hsize : sv.size = t.length + 1 := by rw [← hsv, hr]; show (y :: t).toArray.size = _; simp
  have hsz : 0 < sv.size := by omega
  have hs0 : sv[0]'hsz = y := by simp only [← hsv, hr]; rfl
  have hcut : sv.extract 1 sv.size = tv := by rw [hsize, ← hsv, ← htv, hr]; exact str_tail y t
  rw [hsv] at g20
  have htl : tv.data.toList = t := by rw [← htv]
  have HH := Lib.hid hh
  have HS := Lib.hid hs
  have HT := Lib.hid htv
  have HSV := Lib.hid hsv
  obtain ⟨kd, hkd⟩ : ∃ kd, L.kind = kd := ⟨_, rfl⟩
  rw [hkd] at g21 ⊢
  have HK := Lib.hid hkd
  subst hne
  have hwr : IntKind.i32.wrap (y.toNat : Int) = y.toNat := IntWalk.i32_in _ (by omega)
  by_cases ht : t = []
  · rw [if_pos ht]
    have hem : tv.toList.isEmpty = true := by rw [Lib.toList_data, htl, ht]; rfl
    have HT0 := Lib.hid ht
    clear hL hh hs hr hsv ht htl htv hkd hsize
    go_enter Try.func39, Try.ntmps39
    go_wp2_with fail
    go_loopw [6] (fun _ wr => WordRel b post T L p v w sv wr) (fun _ _ => 0)
    case atStart => exact wordRel_start HH.out _
    case round =>
      obtain ⟨h1, hit, k1⟩ := hrel
      have hnx : ∀ ty, (Instr.next (.pointer (some ⟨w.heap.size, 0, none⟩)) true ty).run Try.prog wr = _ := fun ty => Lib.run_next_any_at wr w.heap.size sv 0 ty hit hsz
      have hdec := decode_ascii sv 0 hsz (by rw [hs0]; exact hy)
      rw [hdec, hs0] at hnx
      have hw0 : w.heap.size ≠ b := by omega
      have h2 := has_iter (s := sv) (pos := 0 + 1) h1 (k := w.heap.size) (by omega)
      have k2 := keeps_iter (s := sv) (pos := 0 + 1) k1 (k := w.heap.size) (by omega)
      obtain ⟨wi, hwi⟩ : ∃ wi, wi = wr.iterAt w.heap.size sv (0 + 1) := ⟨_, rfl⟩
      rw [← hwi] at h2 k2 hnx
      obtain ⟨g0, g20, g21, g22, hlt⟩ := lex_cell h2
      rw [HSV.out] at g20
      rw [HK.out] at g21
      obtain ⟨f0, f20, f21, f22⟩ := lex_free h2
      have H2 := Lib.hid h2
      have K2 := Lib.hid k2
      clear h1 hit k1 h2 k2 hwi hdec
      go_wp2_with fail
      go_ret
      refine tokSame rfl (ToksOut.one _ _ (by have := K2.out.size; simpa using this) (Tok.of kd) (by simp)) (lexPost_of (p := p) (v := v) hbF (((((H2.out.set 20 (.string tv)).set 0 (.int .i64 0)).alloc _).conv ?_)) (Or.inl (by simp)) ((((K2.out.mono (by simp)).setCell (Or.inl hbF.1) _).setCell (Or.inl hbF.1) _).alloc _))
      rw [← HT.out, HT0.out]
      simp [Lex.cells, Rdr.cells, Chk.cells, Num.cells, HK.out]
  · rw [if_neg ht]
    have hem : tv.toList.isEmpty = false := by rw [Lib.toList_data, htl]; simp [ht]
    clear hL hh hs hr hsv ht htl htv hkd hsize
    go_enter Try.func39, Try.ntmps39
    go_wp2_with fail
    go_loopw [6] (fun _ wr => WordRel b post T L p v w sv wr) (fun _ _ => 0)
    case atStart => exact wordRel_start HH.out _
    case round =>
      obtain ⟨h1, hit, k1⟩ := hrel
      have hnx : ∀ ty, (Instr.next (.pointer (some ⟨w.heap.size, 0, none⟩)) true ty).run Try.prog wr = _ := fun ty => Lib.run_next_any_at wr w.heap.size sv 0 ty hit hsz
      have hdec := decode_ascii sv 0 hsz (by rw [hs0]; exact hy)
      rw [hdec, hs0] at hnx
      have hw0 : w.heap.size ≠ b := by omega
      have h2 := has_iter (s := sv) (pos := 0 + 1) h1 (k := w.heap.size) (by omega)
      have k2 := keeps_iter (s := sv) (pos := 0 + 1) k1 (k := w.heap.size) (by omega)
      obtain ⟨wi, hwi⟩ : ∃ wi, wi = wr.iterAt w.heap.size sv (0 + 1) := ⟨_, rfl⟩
      rw [← hwi] at h2 k2 hnx
      obtain ⟨g0, g20, g21, g22, hlt⟩ := lex_cell h2
      rw [HSV.out] at g20
      rw [HK.out] at g21
      obtain ⟨f0, f20, f21, f22⟩ := lex_free h2
      have H2 := Lib.hid h2
      have K2 := Lib.hid k2
      clear h1 hit k1 h2 k2 hwi hdec
      go_wp2_with fail
      go_ret
      refine tokNil rfl (lexPost_of (p := p) (v := v) hbF ((H2.out.set 20 (.string tv)).conv ?_) (Or.inl (by simp [HS.out])) ((K2.out.mono (by simp)).setCell (Or.inl hbF.1) _))
      rw [← HT.out]
      simp [Lex.cells, Rdr.cells, Chk.cells, Num.cells, HK.out]

theorem lex_word (base b : Nat) (post : List Value) (T : TypeId) (L : Lex) (x : Int) (F : List Nat) (w : World) (h : LexIn w base b post T L F) (hx : 0 ≤ x) (hx2 : x ≤ 255) (hf : L.Fit) (hs : L.state = 3) :
    Calls Try.prog 39 #[.pointer (some ⟨b, 0, none⟩), .int .u8 x] w fun e w' => TokPost w base b post T F (L.word x) e w' := by
  obtain ⟨hl, hr⟩ := hf.rest
  match hrest : L.rest with
  | [] => exact lex_word_none base b post T L x F w h hs hrest
  | y :: t =>
    rw [hrest] at hl hr
    have hy := hr y (by simp)
    by_cases hne : (y.toNat : Int) = x
    · exact lex_word_on base b post T L x F w h hs hrest hy hne (by simp only [List.length_cons] at hl; omega)
    · exact lex_word_off base b post T L x F w h hx hx2 hs hrest hy hne

/-! ### numbers -/

set_option maxHeartbeats 2000000 in
set_option maxRecDepth 100000 in
theorem lex_ended (base b : Nat) (post : List Value) (T : TypeId) (L : Lex) (F : List Nat) (w : World) (h : LexIn w base b post T L F) (hv : L.n.v < 18446744073709551616) (hs : L.state = 2) :
    Calls Try.prog 43 #[.pointer (some ⟨b, 0, none⟩)] w fun e w' => ∃ v, e = .returned v ∧ ToksOut w' w.heap.size v L.ended.2 ∧ LexIn w' base b post T L.ended.1 F ∧ Keeps F w w' := by
  obtain ⟨hbF, p, v, hh, _⟩ := h
  have hend := num_end b _ _ T L.n w (hh.conv (L.cells_n p v post)) 12 (pre_n L p v) hv
  obtain ⟨⟨g, m, e⟩, hr⟩ : ∃ r, L.n.result = r := ⟨_, rfl⟩
  have hL : L.ended = if e ≠ 0 then ({ L with e := e }, []) else ({ L with state := 0, e := 0 }, [⟨110, ⟨#[]⟩, g, m⟩]) := by unfold Lex.ended; rw [hr]
  rw [hL]
  rw [hr] at hend
  simp only [resVal] at hend
  have HH := Lib.hid hh
  have HS := Lib.hid hs
  clear hh hL hr hs
  by_cases he : e = 0
  · rw [if_neg (by simp [he])]
    subst he
    go_enter Try.func43, Try.ntmps43
    go_wp2_with fail
    refine hend.mono ?_
    rintro e w1 ⟨rfl, k1⟩
    have h1 := HH.out.keeps k1 (by simp)
    obtain ⟨g0, g20, g21, g22, hlt⟩ := lex_cell h1
    obtain ⟨f0, f20, f21, f22⟩ := lex_free h1
    have H1 := Lib.hid h1
    have K1 := Lib.hid k1
    clear h1 k1 hend
    go_wp2_with fail
    go_ret
    have kk := ((((K1.out.mono (G := F) (by simp)).setCell (p := ⟨b, 22, none⟩) (Or.inl hbF.1) (.int .i64 0)).setCell (p := ⟨b, 0, none⟩) (Or.inl hbF.1) (.int .i64 0)).alloc (.cells #[.bool g, .int .u64 m] 53)).alloc (.cells #[.int .u8 110, .string ⟨#[]⟩, .bool g, .int .u64 m] 113)
    refine ⟨_, rfl, ToksOut.one _ _ (by have := K1.out.size; simp; omega) ⟨110, ⟨#[]⟩, g, m⟩ (by simp), ⟨⟨hbF.1, fun i hi => Nat.lt_of_lt_of_le (hbF.2 i hi) kk.size⟩, p, v, ((((H1.out.set 22 _).set 0 _).alloc _).alloc _).conv ?_, fun h5 => by simp at h5⟩, kk⟩
    simp [Lex.cells, Rdr.cells, Chk.cells, Num.cells]
  · rw [if_pos he]
    have he' : (e != 0) = true := by simp [he]
    have HE := Lib.hid he
    clear he
    go_enter Try.func43, Try.ntmps43
    go_wp2_with fail
    refine hend.mono ?_
    rintro e w1 ⟨rfl, k1⟩
    have h1 := HH.out.keeps k1 (by simp)
    obtain ⟨g0, g20, g21, g22, hlt⟩ := lex_cell h1
    obtain ⟨f0, f20, f21, f22⟩ := lex_free h1
    have H1 := Lib.hid h1
    have K1 := Lib.hid k1
    clear h1 k1 hend
    go_wp2_with fail
    go_ret
    have kk := (((K1.out.mono (G := F) (by simp)).setCell (p := ⟨b, 22, none⟩) (Or.inl hbF.1) (.int .i64 e)).alloc (.cells #[.bool g, .int .u64 m] 53))
    refine ⟨_, rfl, ToksOut.nil _ _, ⟨⟨hbF.1, fun i hi => Nat.lt_of_lt_of_le (hbF.2 i hi) kk.size⟩, p, v, ((H1.out.set 22 _).alloc _).conv ?_, fun _ h5 => absurd h5 HE.out⟩, kk⟩
    simp [Lex.cells, Rdr.cells, Chk.cells, Num.cells]

end Go.Proofs.Ytbeocehadnhmnaa
