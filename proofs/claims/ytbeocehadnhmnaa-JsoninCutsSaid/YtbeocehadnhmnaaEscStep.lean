/-
  escape.Reader in the middle of a block: plain, behind, digit, Step, Whole: their contracts.
-/
import Derived.Test.YtbeocehadnhmnaaEsc
import Derived.Deep.QuietTactic
import Derived.Deep.RegionWith
namespace Go.Proofs.Ytbeocehadnhmnaa
open Go.RowKit Go.Tru

def putOk (x : Int) : Bool := decide (0 ≤ x ∧ x < 55296 ∨ 57343 < x ∧ x ≤ 1114111)

theorem put_any (x : Int) (w : World) :
    Calls Try.prog 65 #[.int .i64 x] w fun e w' => e = .returned (.tuple #[.string ⟨(putOf x).toArray⟩, .bool (putOk x)]) ∧ w = w' := by
  by_cases h : 0 ≤ x ∧ x < 55296 ∨ 57343 < x ∧ x ≤ 1114111
  · have he : Utf8.encode x = ⟨(putOf x).toArray⟩ := by
      have h2 := encode_enc (r := x) h
      have : putOf x = enc x := by unfold putOf; rw [if_pos h]
      rw [this, ← h2]
    have HE := Lib.hid he
    have hk : putOk x = true := decide_eq_true h
    rw [hk]
    clear he hk
    rcases h with ⟨h1, h2⟩ | ⟨h1, h2⟩
    all_goals
      go_enter Try.func65, Try.ntmps65
      go_wp2
      go_ret2
      refine ⟨?_, rfl⟩
      rw [← HE.out]
      rfl
  · have he : putOf x = [] := by unfold putOf; rw [if_neg h]
    have hk : putOk x = false := decide_eq_false h
    rw [he, hk]
    rcases (show x < 0 ∨ 1114111 < x ∨ 55296 ≤ x ∧ x ≤ 57343 by omega) with h1 | h1 | ⟨h1, h2⟩
    all_goals
      clear h he hk
      go_enter Try.func65, Try.ntmps65
      go_wp2
      go_ret2
      exact ⟨rfl, rfl⟩

set_option maxHeartbeats 1000000 in
theorem escPlain_any (b : Nat) (pre post : List Value) (t : TypeId) (r : Rdr) (x : Int) (w : World) (h : Has w b (pre ++ r.cells ++ post) t) (off : Nat) (hoff : off = pre.length) (hx : 0 ≤ x) (hx2 : x ≤ 255) (hf : r.Fit) (he : r.e = 0) :
    Calls Try.prog 57 #[.pointer (some ⟨b, off, none⟩), .int .u8 x] w fun e w' => e = .returned (txtVal (r.plain x).2 (r.plain x).1.e) ∧ RdrPost w b pre post t { (r.plain x).1 with e := 0 } w' := by
  have H := Lib.hid h
  have HO := Lib.hid hoff
  clear h hoff
  by_cases h0 : x < 32 ∨ x = 34
  · have hp : r.plain x = ({ r with e := 2 }, []) := by unfold Rdr.plain; rw [if_pos h0]
    rw [hp]
    have h1 : Has w b (pre ++ Rdr.cells { r with e := 0 } ++ post) t := H.out.conv (by rw [← he])
    have H1 := Lib.hid h1
    clear hp he h1
    rcases h0 with h0 | rfl
    all_goals
      go_enter Try.func57, Try.ntmps57
      go_wp2
      go_ret2
      exact ⟨rfl, rdrPost_of H1.out (Keeps.refl _ _)⟩
  · have hc : Has w b (pre ++ r.c.cells ++ ([.int .i64 r.state, .int .i64 r.r, .int .i64 r.n, .int .i64 r.pair, .int .i64 0] ++ post)) t := H.out.conv (by rw [rdr_split, he])
    have hstep := check_step b pre _ t r.c x w hc off HO.out hx hx2 hf.c
    have h32 : 32 ≤ x := by omega
    have h34 : (x == 34) = false := by rw [beq_eq_false_iff_ne]; omega
    cases hbad : (r.c.step x).bad
    · by_cases h92 : x = 92
      · have hp : r.plain x = ({ r with c := r.c.step x, state := 1 }, []) := by unfold Rdr.plain; rw [if_neg h0, if_neg (by simp [hbad]), if_pos h92]
        rw [hp]
        have HE := Lib.hid he
        subst h92
        rw [hbad] at hstep
        clear hp he hc h0 hbad h34 hf
        go_enter Try.func57, Try.ntmps57
        go_wp2_with fail
        refine hstep.mono ?_
        rintro e w1 ⟨rfl, h1, k1⟩
        have h1' : Has w1 b (pre ++ Rdr.cells { r with c := r.c.step 92, e := 0 } ++ post) t := h1.conv (by rw [rdr_split])
        have H1 := Lib.hid h1'
        have K1 := Lib.hid k1
        have f4 := h1'.free (off + 4)
        have g4 := (rdr_cell h1' HO.out).1
        clear h1 k1 h1'
        go_wp2_with fail
        go_ret2
        refine ⟨by rw [HE.out]; rfl, rdrPost_of ((mid_set H1.out HO.out 4 _ (by simp [Rdr.cells, Chk.cells])).conv ?_) (K1.out.set1 _)⟩
        simp [Rdr.cells, Chk.cells]
      · have hp : r.plain x = ({ r with c := r.c.step x }, [UInt8.ofNat x.toNat]) := by unfold Rdr.plain; rw [if_neg h0, if_neg (by simp [hbad]), if_neg h92]
        rw [hp]
        have HE := Lib.hid he
        have h92' : (x == 92) = false := by simp [h92]
        rw [hbad] at hstep
        clear hp he hc h0 hbad h92 hf
        go_enter Try.func57, Try.ntmps57
        go_wp2_with fail
        refine hstep.mono ?_
        rintro e w1 ⟨rfl, h1, k1⟩
        have h1' : Has w1 b (pre ++ Rdr.cells { r with c := r.c.step x, e := 0 } ++ post) t := h1.conv (by rw [rdr_split])
        have hcv := run_bytes_lit (P := Try.prog) 42 9 5 Try.underlying42 Try.underlying5 Try.underlying9 [x] w1 w1.heap.size rfl
        rw [one_str] at hcv
        simp only [List.length_singleton, List.map_cons, List.map_nil] at hcv
        have H1 := Lib.hid h1'
        have K1 := Lib.hid k1
        clear h1 k1 h1'
        go_wp2_with fail
        go_ret2
        exact ⟨by rw [HE.out]; rfl, rdrPost_of (H1.out.alloc _) (K1.out.alloc _)⟩
    · have hp : r.plain x = ({ r with c := r.c.step x, e := 9 }, []) := by unfold Rdr.plain; rw [if_neg h0, if_pos hbad]
      rw [hp]
      have HE := Lib.hid he
      rw [hbad] at hstep
      clear hp he hc h0 hbad hf
      go_enter Try.func57, Try.ntmps57
      go_wp2_with fail
      refine hstep.mono ?_
      rintro e w1 ⟨rfl, h1, k1⟩
      have h1' : Has w1 b (pre ++ Rdr.cells { r with c := r.c.step x, e := 0 } ++ post) t := h1.conv (by rw [rdr_split])
      have H1 := Lib.hid h1'
      have K1 := Lib.hid k1
      clear h1 k1 h1'
      go_wp2_with fail
      go_ret2
      exact ⟨rfl, rdrPost_of H1.out K1.out⟩

/-- where a byte stands among those that may stand behind a backslash -/
theorem esc_idx (x : Int) (h0 : 0 ≤ x) (h1 : x ≤ 255) :
    (Lib.indexByte [34, 92, 47, 98, 102, 110, 114, 116] x.toNat.toUInt8 = -1 ∧ escOf x = []) ∨ ∃ k : Nat, k < 8 ∧ Lib.indexByte [34, 92, 47, 98, 102, 110, 114, 116] x.toNat.toUInt8 = k ∧ escOf x = [([34, 92, 47, 8, 12, 10, 13, 9] : List UInt8).getD k 0] := by
  obtain ⟨n, rfl⟩ : ∃ n : Nat, x = n := ⟨x.toNat, by omega⟩
  have hall : ∀ y : Fin 256, (Lib.indexByte [34, 92, 47, 98, 102, 110, 114, 116] y.1.toUInt8 = -1 ∧ escOf (y.1 : Int) = []) ∨ ∃ k : Fin 8, Lib.indexByte [34, 92, 47, 98, 102, 110, 114, 116] y.1.toUInt8 = k.1 ∧ escOf (y.1 : Int) = [([34, 92, 47, 8, 12, 10, 13, 9] : List UInt8).getD k.1 0] := by decide +kernel
  rcases hall ⟨n, by omega⟩ with h | ⟨k, h2, h3⟩
  · exact Or.inl h
  · exact Or.inr ⟨k.1, k.2, h2, h3⟩

theorem one_cut (k : Nat) (hk : k < 8) : (⟨#[34, 92, 47, 8, 12, 10, 13, 9]⟩ : ByteArray).extract k (k + 1) = ⟨#[([34, 92, 47, 8, 12, 10, 13, 9] : List UInt8).getD k 0]⟩ := by
  match k, hk with
  | 0, _ => rfl
  | 1, _ => rfl
  | 2, _ => rfl
  | 3, _ => rfl
  | 4, _ => rfl
  | 5, _ => rfl
  | 6, _ => rfl
  | 7, _ => rfl

set_option maxHeartbeats 1000000 in
theorem behind_any (b : Nat) (pre post : List Value) (t : TypeId) (r : Rdr) (x : Int) (w : World) (h : Has w b (pre ++ r.cells ++ post) t) (off : Nat) (hoff : off = pre.length) (hx : 0 ≤ x) (hx2 : x ≤ 255) (he : r.e = 0) :
    Calls Try.prog 58 #[.pointer (some ⟨b, off, none⟩), .int .u8 x] w fun e w' => e = .returned (txtVal (r.behind x).2 (r.behind x).1.e) ∧ RdrPost w b pre post t { (r.behind x).1 with e := 0 } w' := by
  have H := Lib.hid h
  have HO := Lib.hid hoff
  have HE := Lib.hid he
  have f4 := h.free (off + 4)
  have f5 := h.free (off + 5)
  have f6 := h.free (off + 6)
  obtain ⟨g4, g5, g6, g7, g8⟩ := rdr_cell h hoff
  clear h hoff he
  by_cases h117 : x = 117
  · have hp : r.behind x = ({ r with state := 2, r := 0, n := 0 }, []) := by unfold Rdr.behind; rw [if_pos h117]
    rw [hp]
    subst h117
    clear hp
    go_enter Try.func58, Try.ntmps58
    go_wp2
    go_ret2
    refine ⟨by rw [HE.out]; rfl, rdrPost_of ((mid_set (mid_set (mid_set H.out HO.out 4 _ (by simp [Rdr.cells, Chk.cells])) HO.out 5 _ (by simp [Rdr.cells, Chk.cells])) HO.out 6 _ (by simp [Rdr.cells, Chk.cells])).conv ?_) ((((Keeps.refl _ _).set1 _).set1 _).set1 _)⟩
    simp [Rdr.cells, Chk.cells, HE.out]
  · have h117' : (x == 117) = false := by simp [h117]
    have hidx := index_any ⟨#[34, 92, 47, 98, 102, 110, 114, 116]⟩ x w
    rcases esc_idx x hx hx2 with ⟨hi, ho⟩ | ⟨k, hk, hi, ho⟩
    · have hp : r.behind x = ({ r with e := 2 }, []) := by unfold Rdr.behind; rw [if_neg h117, if_pos ho]
      rw [hp]
      have hidx' : Lib.indexByte (⟨#[34, 92, 47, 98, 102, 110, 114, 116]⟩ : ByteArray).data.toList x.toNat.toUInt8 = -1 := hi
      rw [hidx'] at hidx
      clear hp hi ho h117 hidx'
      go_enter Try.func58, Try.ntmps58
      go_wp2_with fail
      refine hidx.mono ?_
      rintro e w1 ⟨rfl, rfl⟩
      go_wp2_with fail
      go_ret2
      exact ⟨rfl, rdrPost_of (H.out.conv (by rw [← HE.out])) (Keeps.refl _ _)⟩
    · have hp : r.behind x = ({ r with state := 0 }, escOf x) := by unfold Rdr.behind; rw [if_neg h117, if_neg (by rw [ho]; simp)]
      rw [hp]
      have hidx' : Lib.indexByte (⟨#[34, 92, 47, 98, 102, 110, 114, 116]⟩ : ByteArray).data.toList x.toNat.toUInt8 = (k : Int) := hi
      rw [hidx'] at hidx
      have hcut := one_cut k hk
      obtain ⟨c, hc⟩ : ∃ c : UInt8, ([34, 92, 47, 8, 12, 10, 13, 9] : List UInt8).getD k 0 = c := ⟨_, rfl⟩
      rw [hc] at hcut ho
      have HP := Lib.hid ho
      clear hp hi ho h117 hidx' hc
      go_enter Try.func58, Try.ntmps58
      go_wp2_with fail
      refine hidx.mono ?_
      rintro e w1 ⟨rfl, rfl⟩
      go_wp2_with fail
      go_ret2
      refine ⟨by rw [HE.out, HP.out]; rfl, rdrPost_of ((mid_set H.out HO.out 4 _ (by simp [Rdr.cells, Chk.cells])).conv ?_) ((Keeps.refl _ _).set1 _)⟩
      simp [Rdr.cells, Chk.cells, HE.out]

/-! ### digit -/

theorem shl_or (r h : Int) (hr : 0 ≤ r) (hr2 : r ≤ 4095) (hh : 0 ≤ h) (hh2 : h ≤ 15) : bits .or .i64 (r * 16) h = r * 16 + h := by
  obtain ⟨a, rfl⟩ : ∃ a : Nat, r = a := ⟨r.toNat, by omega⟩
  obtain ⟨c, rfl⟩ : ∃ c : Nat, h = c := ⟨h.toNat, by omega⟩
  have hx : a * 16 ||| c = a * 16 + c := by
    have := Nat.shiftLeft_add_eq_or_of_lt (i := 4) (b := c) (by omega) a
    rw [Nat.shiftLeft_eq] at this
    exact this.symm
  have e1 : ((a : Int) * 16) = ((a * 16 : Nat) : Int) := by omega
  rw [e1]
  show IntKind.i64.wrap ((BitVec.ofInt 64 ((a * 16 : Nat) : Int) ||| BitVec.ofInt 64 (c : Int)).toNat : Int) = _
  rw [BitVec.toNat_or, ofInt_u64 (a * 16) (by omega), ofInt_u64 c (by omega), hx, IntWalk.i64_in _ (by omega)]
  omega

set_option maxHeartbeats 1000000 in
theorem digit_none (b : Nat) (pre post : List Value) (t : TypeId) (r : Rdr) (x : Int) (w : World) (h : Has w b (pre ++ r.cells ++ post) t) (off : Nat) (hx : 0 ≤ x) (hx2 : x ≤ 255) (he : r.e = 0) (hn : hexOf x < 0) :
    Calls Try.prog 59 #[.pointer (some ⟨b, off, none⟩), .int .u8 x] w fun e w' => e = .returned (txtVal (r.digit x).2 (r.digit x).1.e) ∧ RdrPost w b pre post t { (r.digit x).1 with e := 0 } w' := by
  have hp : r.digit x = ({ r with e := 2 }, []) := by unfold Rdr.digit; rw [if_pos hn]
  rw [hp]
  have H := Lib.hid (h.conv (by rw [← he]) : Has w b (pre ++ Rdr.cells { r with e := 0 } ++ post) t)
  have hex := hex_any x w hx hx2
  clear hp he h
  go_enter Try.func59, Try.ntmps59
  go_wp2_with fail
  refine hex.mono ?_
  rintro e w1 ⟨rfl, rfl⟩
  go_wp2_with fail
  go_ret2
  exact ⟨rfl, rdrPost_of H.out (Keeps.refl _ _)⟩

set_option maxHeartbeats 1000000 in
theorem digit_more (b : Nat) (pre post : List Value) (t : TypeId) (r : Rdr) (x : Int) (w : World) (h : Has w b (pre ++ r.cells ++ post) t) (off : Nat) (hoff : off = pre.length) (hx : 0 ≤ x) (hx2 : x ≤ 255) (he : r.e = 0) (hn : 0 ≤ hexOf x) (hm : 0 ≤ r.n ∧ r.n < 3) (hr : 0 ≤ r.r ∧ r.r ≤ 4095) :
    Calls Try.prog 59 #[.pointer (some ⟨b, off, none⟩), .int .u8 x] w fun e w' => e = .returned (txtVal (r.digit x).2 (r.digit x).1.e) ∧ RdrPost w b pre post t { (r.digit x).1 with e := 0 } w' := by
  have hp : r.digit x = ({ r with r := r.r * 16 + hexOf x, n := r.n + 1 }, []) := by unfold Rdr.digit; rw [if_neg (by omega), if_pos hm.2]
  rw [hp]
  have hx16 := (hexOf_lt x).2
  have hor := shl_or r.r (hexOf x) hr.1 hr.2 hn hx16
  have H := Lib.hid h
  have HO := Lib.hid hoff
  have HE := Lib.hid he
  have f5 := h.free (off + 5)
  have f6 := h.free (off + 6)
  obtain ⟨g4, g5, g6, g7, g8⟩ := rdr_cell h hoff
  have hex := hex_any x w hx hx2
  obtain ⟨hm0, hm1⟩ := hm
  obtain ⟨hr0, hr1⟩ := hr
  clear hp he h hoff
  go_enter Try.func59, Try.ntmps59
  go_wp2_with fail
  refine hex.mono ?_
  rintro e w1 ⟨rfl, rfl⟩
  go_wp2_with fail
  go_region
  all_goals
    go_wp2_with fail
    go_ret2
    refine ⟨by rw [HE.out]; rfl, rdrPost_of ?_ ?_⟩
    · apply Has.conv
      · repeat with_reducible (first | exact H.out | apply Has.drew | apply mid_set (ho := HO.out))
        all_goals simp [Rdr.cells, Chk.cells]
      · simp [Rdr.cells, Chk.cells, HE.out]
    · repeat with_reducible (first | exact Keeps.refl _ _ | refine Keeps.set1 ?_ _ | apply Keeps.drew)

set_option maxHeartbeats 1000000 in
theorem digit_last (b : Nat) (pre post : List Value) (t : TypeId) (r : Rdr) (x : Int) (w : World) (h : Has w b (pre ++ r.cells ++ post) t) (off : Nat) (hoff : off = pre.length) (hx : 0 ≤ x) (hx2 : x ≤ 255) (he : r.e = 0) (hn : 0 ≤ hexOf x) (hm : r.n = 3) (hr : 0 ≤ r.r ∧ r.r ≤ 4095) (hpair : r.pair = 0 ∨ 55296 ≤ r.pair ∧ r.pair ≤ 56319) :
    Calls Try.prog 59 #[.pointer (some ⟨b, off, none⟩), .int .u8 x] w fun e w' => e = .returned (txtVal (r.digit x).2 (r.digit x).1.e) ∧ RdrPost w b pre post t { (r.digit x).1 with e := 0 } w' := by
  have hx16 := (hexOf_lt x).2
  have hor := shl_or r.r (hexOf x) hr.1 hr.2 hn hx16
  have H := Lib.hid h
  have HO := Lib.hid hoff
  have HE := Lib.hid he
  have f4 := h.free (off + 4)
  have f5 := h.free (off + 5)
  have f6 := h.free (off + 6)
  have f7 := h.free (off + 7)
  obtain ⟨g4, g5, g6, g7, g8⟩ := rdr_cell h hoff
  have hex := hex_any x w hx hx2
  obtain ⟨hr0, hr1⟩ := hr
  rw [hm] at g6
  clear h hoff
  obtain ⟨v, hv⟩ : ∃ v, r.r * 16 + hexOf x = v := ⟨_, rfl⟩
  rw [hv] at hor
  have hv0 : 0 ≤ v := by omega
  have hv1 : v ≤ 65535 := by omega
  have hd : r.digit x = (if 0 < r.pair then ({ r with r := v, n := r.n + 1, state := 0, pair := 0 }, putOf (65536 + (r.pair - 55296) * 1024 + v - 56320))
      else if 56320 ≤ v ∧ v < 57344 then ({ r with r := v, n := r.n + 1, state := 0, e := 9 }, [])
      else if 55296 ≤ v ∧ v < 56320 then ({ r with r := v, n := r.n + 1, state := 0, pair := v }, [])
      else ({ r with r := v, n := r.n + 1, state := 0 }, putOf v)) := by
    unfold Rdr.digit
    rw [if_neg (by omega), if_neg (by omega), hv]
  have HM := Lib.hid hm
  rcases hpair with hp | ⟨hp0, hp1⟩
  · rw [if_neg (by omega)] at hd
    have HP := Lib.hid hp
    rw [hp] at g7
    by_cases h1 : 56320 ≤ v ∧ v < 57344
    · rw [if_pos h1] at hd
      obtain ⟨h10, h11⟩ := h1
      rw [hd]
      clear hd hp hm he hv
      go_enter Try.func59, Try.ntmps59
      go_wp2_with fail
      refine hex.mono ?_
      rintro e w1 ⟨rfl, rfl⟩
      go_wp2_with fail
      go_region
      all_goals
        go_wp2_with fail
        go_ret2
        refine ⟨by rfl, rdrPost_of ?_ ?_⟩
        · apply Has.conv
          · repeat with_reducible (first | exact H.out | apply Has.drew | apply mid_set (ho := HO.out))
            all_goals simp [Rdr.cells, Chk.cells]
          · simp [Rdr.cells, Chk.cells, HE.out, HM.out]
        · repeat with_reducible (first | exact Keeps.refl _ _ | refine Keeps.set1 ?_ _ | apply Keeps.drew)
    · rw [if_neg h1] at hd
      by_cases h2 : 55296 ≤ v ∧ v < 56320
      · rw [if_pos h2] at hd
        obtain ⟨h20, h21⟩ := h2
        rw [hd]
        have h56 : v < 56320 := h21
        clear hd hp hm he hv h1
        go_enter Try.func59, Try.ntmps59
        go_wp2_with fail
        refine hex.mono ?_
        rintro e w1 ⟨rfl, rfl⟩
        go_wp2_with fail
        go_region
        all_goals
          go_wp2_with fail
          go_ret2
          refine ⟨by rw [HE.out]; rfl, rdrPost_of ?_ ?_⟩
          · apply Has.conv
            · repeat with_reducible (first | exact H.out | apply Has.drew | apply mid_set (ho := HO.out))
              all_goals simp [Rdr.cells, Chk.cells]
            · simp [Rdr.cells, Chk.cells, HE.out, HM.out]
          · repeat with_reducible (first | exact Keeps.refl _ _ | refine Keeps.set1 ?_ _ | apply Keeps.drew)
      · rw [if_neg h2] at hd
        rw [hd]
        have hput := fun W => put_any v W
        have hcase : v < 55296 ∨ 57344 ≤ v := by omega
        clear hd hp hm he hv h1 h2
        rcases hcase with h3 | h3
        all_goals
          go_enter Try.func59, Try.ntmps59
          go_wp2_with fail
          refine hex.mono ?_
          rintro e w1 ⟨rfl, rfl⟩
          go_wp2_with fail
          go_region
          all_goals
            go_wp2_with fail
            refine (hput _).mono ?_
            rintro e w1 ⟨rfl, rfl⟩
            go_wp2_with fail
            go_ret2
            refine ⟨by rw [HE.out]; rfl, rdrPost_of ?_ ?_⟩
            · apply Has.conv
              · repeat with_reducible (first | exact H.out | apply Has.drew | apply mid_set (ho := HO.out))
                all_goals simp [Rdr.cells, Chk.cells]
              · simp [Rdr.cells, Chk.cells, HE.out, HM.out, HP.out]
            · repeat with_reducible (first | exact Keeps.refl _ _ | refine Keeps.set1 ?_ _ | apply Keeps.drew)
  · rw [if_pos (by omega)] at hd
    rw [hd]
    have hput := fun W => put_any (65536 + (r.pair - 55296) * 1024 + v - 56320) W
    have hp2 : 0 < r.pair := by omega
    clear hd hm he hv
    go_enter Try.func59, Try.ntmps59
    go_wp2_with fail
    refine hex.mono ?_
    rintro e w1 ⟨rfl, rfl⟩
    go_wp2_with fail
    go_region
    all_goals
      go_wp2_with fail
      refine (hput _).mono ?_
      rintro e w1 ⟨rfl, rfl⟩
      go_wp2_with fail
      go_ret2
      refine ⟨by rw [HE.out]; rfl, rdrPost_of ?_ ?_⟩
      · apply Has.conv
        · repeat with_reducible (first | exact H.out | apply Has.drew | apply mid_set (ho := HO.out))
          all_goals simp [Rdr.cells, Chk.cells]
        · simp [Rdr.cells, Chk.cells, HE.out, HM.out]
      · repeat with_reducible (first | exact Keeps.refl _ _ | refine Keeps.set1 ?_ _ | apply Keeps.drew)

end Go.Proofs.Ytbeocehadnhmnaa
