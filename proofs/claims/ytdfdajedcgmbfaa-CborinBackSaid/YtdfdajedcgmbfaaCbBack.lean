/-
  truchmanref1.Writer.Step at each part of a document, in CBOR: its contract.
  truchmanref1.Writer.Step for CBOR, on the parts of a document one by one, their counts not known.
  truchmanbook.SameEvs: two lists that are alike.
  A document that is written part by part: what the law's loop keeps.
  CborinBack's walk: counts that are known, counts that are not.
-/
import Derived.Test.YtdfdajedcgmbfaaCbText
import Derived.Test.YtdfdajedcgmbfaaWrOpenCA
import Derived.Test.YtdfdajedcgmbfaaWrOpenCM
import Derived.Test.YtdfdajedcgmbfaaWrLeafC
import Derived.Test.YtdfdajedcgmbfaaWrEnd
import Derived.Test.YtdfdajedcgmbfaaWrLeafO
import Derived.Test.YtdfdajedcgmbfaaWrEndO
import Derived.Test.YtdfdajedcgmbfaaWrOpenOA
import Derived.Test.YtdfdajedcgmbfaaWrOpenOM
import Derived.Test.YtdfdajedcgmbfaaEvMore
import Derived.Deep.QuietTactic
import Derived.BigQuiet
import Derived.Test.YtdfdajedcgmbfaaCborAlive
import Derived.Test.YtdfdajedcgmbfaaCbDoc
import Derived.Test.YtdfdajedcgmbfaaCborAll

namespace Go.Tru
theorem partC_leaf {e : Ev} (h : DLeaf e) : isLeaf e ∧ leafC e = partC e := by
  rcases h with rfl | ⟨b, rfl⟩ | ⟨b, m, hm, rfl⟩ | ⟨t, ht, rfl⟩
  · exact ⟨Or.inl rfl, rfl⟩
  · exact ⟨Or.inr (Or.inl ⟨_, rfl⟩), rfl⟩
  · exact ⟨Or.inr (Or.inr (Or.inl ⟨_, _, by omega, rfl⟩)), rfl⟩
  · exact ⟨Or.inr (Or.inr (Or.inr (Or.inl ⟨_, by omega, rfl⟩))), rfl⟩

theorem partC_open (m : Bool) (n : Nat) : partC (beginEv m n) = headB (if m then 5 else 4) n := by
  cases m <;> rfl

theorem partC_len {s : List Cont} {e : Ev} (h : WOk s e) : (partC e).length ≤ 40 := by
  have hh : ∀ M v, (headB M v).length ≤ 9 := fun M v => (headB_len M v).2
  have ht : ∀ t : ByteArray, t.size ≤ 28 → (partC (evText t)).length ≤ 40 := fun t h => by
    have hl : t.data.toList.length = t.size := by rw [Array.length_toList]; rfl
    have e : partC (evText t) = headB 3 t.size ++ t.data.toList := rfl
    rw [e, List.length_append, hl]
    have := hh 3 t.size
    omega
  rcases h.2 with ⟨h1, _⟩ | ⟨⟨t, h1, rfl⟩, _⟩ | ⟨⟨m, n, _, rfl⟩, _⟩ | ⟨rfl, _⟩
  · rcases h1 with rfl | ⟨b, rfl⟩ | ⟨b, m, hm, rfl⟩ | ⟨t, h1, rfl⟩
    · simp [partC, leafC, evNull]
    · simp [partC, leafC, evBool]
    · have e : partC (evInt b m) = headB (if b then 1 else 0) m := rfl
      rw [e]
      have := hh (if b then 1 else 0) m
      omega
    · exact ht t h1
  · exact ht t h1
  · rw [partC_open]
    have := hh (if m then 5 else 4) n
    omega
  · simp [partC, evEnd]

theorem bump1_empty (s : List Cont) : (bump1 s).isEmpty = s.isEmpty := by cases s <;> rfl
end Go.Tru
namespace Go.Proofs.Ytdfdajedcgmbfaa
open Go.RowKit Go.Tru

theorem plainC_leaf {e : Ev} (h : DLeaf e) (w : World) : Calls Try.prog 17 #[.int .i64 2, e.val] w fun r w' => r = .returned (.tuple #[.string (bytesOf (partC e)), .int .i64 0]) ∧ Keeps [] w w' := by
  obtain ⟨h1, h2⟩ := partC_leaf h
  rw [← h2]
  exact plainC_any e h1 w

theorem leaf_kind {e : Ev} (h : DLeaf e) : 0 ≤ e.kind ∧ e.kind ≤ 4 := by
  rcases h with rfl | ⟨b, rfl⟩ | ⟨b, m, hm, rfl⟩ | ⟨t, ht, rfl⟩
  · exact ⟨by decide, by decide⟩
  · show (0 : Int) ≤ 1 ∧ (1 : Int) ≤ 4
    decide
  · show (0 : Int) ≤ 2 ∧ (2 : Int) ≤ 4
    decide
  · show (0 : Int) ≤ 3 ∧ (3 : Int) ≤ 4
    decide

theorem wstepC {w : World} {base b : Nat} {ov : Value} {s : List Cont} {e : Ev} (hok : WOk s e) (h : WrIn w base b 2 ov s false) (h0 : s = [] → ov = .slice none 0 0) (hbase : base ≤ w.heap.size) :
    Calls Try.prog 8 #[.pointer (some ⟨b, 0, none⟩), e.val] w (WrPost w base b 2 ov (bytesOf (partC e)) (wNext s e) (wNext s e).isEmpty) := by
  have hlen := partC_len hok
  have hbs : (bytesOf (partC e)).size ≤ 1000000 := by rw [bytesOf_sz]; omega
  obtain ⟨hs, hcase⟩ := hok
  rcases hcase with ⟨hl, hv⟩ | ⟨⟨t, ht, rfl⟩, c, r, rfl, hf, hroom, hp, hpar⟩ | ⟨⟨m, n, hn, rfl⟩, hv⟩ | ⟨rfl, c, r, rfl, hf, hroom⟩
  · rw [next_leaf hl]
    rcases hv with rfl | ⟨c, r, rfl, hf, hroom, hpar⟩
    · exact wstep_leaf0 (Or.inl rfl) e (leaf_kind hl) hbs (plainC_leaf hl) h
    · obtain ⟨pairs, cc, cpt⟩ := c
      have hc1 := hf.count
      have hc2 := hf.parts
      simp only [] at hc1 hc2 hroom hpar
      have hr1 : r.length ≤ 100 := by simp only [List.length_cons] at hs; omega
      cases pairs with
      | false =>
        simp only [roomOf, Bool.false_eq_true, if_false] at hroom
        exact wleaf_arr_count (cc := cc) (cpt := cpt) (Or.inl rfl) e (leaf_kind hl) hbs (plainC_leaf hl) h hr1 (by omega) (by omega) ⟨by omega, by omega⟩ hroom hbase
      | true =>
        simp only [roomOf, if_true] at hroom
        exact wleaf_map_count_odd (cc := cc) (cpt := cpt) (Or.inl rfl) e (leaf_kind hl) hbs (plainC_leaf hl) h hr1 (by omega) (by omega) ⟨by omega, by omega⟩ hroom (hpar rfl) hbase
  · obtain ⟨pairs, cc, cpt⟩ := c
    have hc1 := hf.count
    have hc2 := hf.parts
    simp only [] at hc1 hc2 hroom hp hpar
    subst hp
    simp only [roomOf, if_true] at hroom
    have hr1 : r.length ≤ 100 := by simp only [List.length_cons] at hs; omega
    have hl : DLeaf (evText t) := Or.inr (Or.inr (Or.inr ⟨t, ht, rfl⟩))
    rw [next_leaf hl]
    exact wleaf_map_count_even (cc := cc) (cpt := cpt) (Or.inl rfl) (evText t) (leaf_kind hl) hbs (plainC_leaf hl) h hr1 (by omega) (by omega) ⟨by omega, by omega⟩ hroom hpar rfl hbase
  · rw [next_open, partC_open]
    rcases hv with rfl | ⟨c, r, rfl, hf, hroom, hpar⟩
    · obtain rfl := h0 rfl
      cases m with
      | false => exact wopen0_arr n hn h hbase
      | true => exact wopen0_map n hn h hbase
    · obtain ⟨pairs, cc, cpt⟩ := c
      have hc1 := hf.count
      have hc2 := hf.parts
      simp only [] at hc1 hc2 hroom hpar
      have hr1 : r.length ≤ 100 := by simp only [List.length_cons] at hs; omega
      cases pairs with
      | false =>
        simp only [roomOf, Bool.false_eq_true, if_false] at hroom
        cases m with
        | false => exact wopen_arr_arr (cc := cc) (cpt := cpt) n hn h hr1 (by omega) (by omega) ⟨by omega, by omega⟩ hroom hbase
        | true => exact wopen_arr_map (cc := cc) (cpt := cpt) n hn h hr1 (by omega) (by omega) ⟨by omega, by omega⟩ hroom hbase
      | true =>
        simp only [roomOf, if_true] at hroom
        cases m with
        | false => exact wopen_map_arr (cc := cc) (cpt := cpt) n hn h hr1 (by omega) (by omega) ⟨by omega, by omega⟩ hroom (hpar rfl) hbase
        | true => exact wopen_map_map (cc := cc) (cpt := cpt) n hn h hr1 (by omega) (by omega) ⟨by omega, by omega⟩ hroom (hpar rfl) hbase
  · rw [next_end]
    obtain ⟨pairs, cc, cpt⟩ := c
    have hc1 := hf.count
    simp only [] at hc1 hroom
    have hr1 : r.length ≤ 100 := by simp only [List.length_cons] at hs; omega
    have e0 : bytesOf (partC evEnd) = ⟨#[]⟩ := by simp [partC, evEnd, bytesOf]
    rw [e0]
    cases pairs with
    | false =>
      simp only [roomOf, Bool.false_eq_true, if_false] at hroom
      subst hroom
      exact wend_arr (cc := cpt) (Or.inl rfl) h hr1 ⟨by omega, by omega⟩ hbase
    | true =>
      simp only [roomOf, if_true] at hroom
      subst hroom
      exact wend_map (cc := cc) (Or.inl rfl) h hr1 ⟨by omega, by omega⟩ hbase
end Go.Proofs.Ytdfdajedcgmbfaa

namespace Go.Proofs.Ytdfdajedcgmbfaa
open Go.RowKit Go.Tru

/-- what is open, the counts not known -/
def opn (s : List Cont) : List Cont := s.map fun c => ⟨c.pairs, -1, c.parts⟩

theorem opn_len (s : List Cont) : (opn s).length = s.length := by simp [opn]
theorem opn_empty (s : List Cont) : (opn s).isEmpty = s.isEmpty := by cases s <;> rfl

theorem leafO {e : Ev} (h : DLeaf e) : partC e = partO e ∧ openEv e = e := by
  rcases h with rfl | ⟨b, rfl⟩ | ⟨b, m, hm, rfl⟩ | ⟨t, ht, rfl⟩ <;> exact ⟨rfl, rfl⟩

theorem partO_len {s : List Cont} {e : Ev} (h : WOk s e) : (partO e).length ≤ 40 := by
  obtain ⟨_, ⟨hl, _⟩ | ⟨⟨t, ht, rfl⟩, _⟩ | ⟨⟨m, n, hn, rfl⟩, _⟩ | ⟨rfl, _⟩⟩ := id h
  · rw [← (leafO hl).1]; exact partC_len h
  · rw [← (leafO (Or.inr (Or.inr (Or.inr ⟨t, ht, rfl⟩)))).1]; exact partC_len h
  · cases m <;> (show 1 ≤ 40; omega)
  · show 1 ≤ 40
    omega

theorem wstepO {w : World} {base b : Nat} {ov : Value} {s : List Cont} {e : Ev} (hok : WOk s e) (h : WrIn w base b 2 ov (opn s) false) (h0 : s = [] → ov = .slice none 0 0) (hbase : base ≤ w.heap.size) :
    Calls Try.prog 8 #[.pointer (some ⟨b, 0, none⟩), (openEv e).val] w (WrPost w base b 2 ov (bytesOf (partO e)) (opn (wNext s e)) (wNext s e).isEmpty) := by
  have hlen := partC_len hok
  have hbs : (bytesOf (partC e)).size ≤ 1000000 := by rw [bytesOf_sz]; omega
  obtain ⟨hs, hcase⟩ := hok
  rcases hcase with ⟨hl, hv⟩ | ⟨⟨t, ht, rfl⟩, c, r, rfl, hf, hroom, hp, hpar⟩ | ⟨⟨m, n, hn, rfl⟩, hv⟩ | ⟨rfl, c, r, rfl, hf, hroom⟩
  · rw [next_leaf hl, (leafO hl).2, ← (leafO hl).1]
    rcases hv with rfl | ⟨c, r, rfl, hf, hroom, hpar⟩
    · exact wstep_leaf0 (Or.inl rfl) e (leaf_kind hl) hbs (plainC_leaf hl) h
    · obtain ⟨pairs, cc, cpt⟩ := c
      have hc2 := hf.parts
      simp only [] at hc2 hroom hpar
      have hr1 : (opn r).length ≤ 100 := by rw [opn_len]; simp only [List.length_cons] at hs; omega
      have e1 : opn (⟨pairs, cc, cpt⟩ :: r) = ⟨pairs, -1, cpt⟩ :: opn r := rfl
      have e2 : opn (bump1 (⟨pairs, cc, cpt⟩ :: r)) = ⟨pairs, -1, cpt + 1⟩ :: opn r := rfl
      rw [e1] at h
      rw [e2]
      cases pairs with
      | false => exact wleaf_arr_open (cc := -1) (cpt := cpt) (Or.inl rfl) e (leaf_kind hl) hbs (plainC_leaf hl) h hr1 (by omega) (by omega) ⟨by omega, by omega⟩ hbase
      | true => exact wleaf_map_open_odd (cc := -1) (cpt := cpt) (Or.inl rfl) e (leaf_kind hl) hbs (plainC_leaf hl) h hr1 (by omega) (by omega) ⟨by omega, by omega⟩ (hpar rfl) hbase
  · have hl : DLeaf (evText t) := Or.inr (Or.inr (Or.inr ⟨t, ht, rfl⟩))
    obtain ⟨pairs, cc, cpt⟩ := c
    have hc2 := hf.parts
    simp only [] at hc2 hroom hp hpar
    subst hp
    have hr1 : (opn r).length ≤ 100 := by rw [opn_len]; simp only [List.length_cons] at hs; omega
    have e1 : opn (⟨true, cc, cpt⟩ :: r) = ⟨true, -1, cpt⟩ :: opn r := rfl
    have e2 : opn (bump1 (⟨true, cc, cpt⟩ :: r)) = ⟨true, -1, cpt + 1⟩ :: opn r := rfl
    rw [e1] at h
    rw [next_leaf hl, (leafO hl).2, ← (leafO hl).1, e2]
    exact wleaf_map_open_even (cc := -1) (cpt := cpt) (Or.inl rfl) (evText t) (leaf_kind hl) hbs (plainC_leaf hl) h hr1 (by omega) (by omega) ⟨by omega, by omega⟩ hpar rfl hbase
  · rw [next_open]
    have hE0 : openEv (beginEv false n) = Ev.mk 5 false 0 noText (-1) := rfl
    have hE1 : openEv (beginEv true n) = Ev.mk 6 false 0 noText (-1) := rfl
    have hB0 : partO (beginEv false n) = [159] := rfl
    have hB1 : partO (beginEv true n) = [191] := rfl
    rcases hv with rfl | ⟨c, r, rfl, hf, hroom, hpar⟩
    · obtain rfl := h0 rfl
      cases m with
      | false => rw [hE0, hB0]; exact wo_open0_arr (-1) rfl h hbase
      | true => rw [hE1, hB1]; exact wo_open0_map (-1) rfl h hbase
    · obtain ⟨pairs, cc, cpt⟩ := c
      have hc2 := hf.parts
      simp only [] at hc2 hroom hpar
      have hr1 : (opn r).length ≤ 100 := by rw [opn_len]; simp only [List.length_cons] at hs; omega
      have e1 : opn (⟨pairs, cc, cpt⟩ :: r) = ⟨pairs, -1, cpt⟩ :: opn r := rfl
      have e2 : opn (⟨m, n, 0⟩ :: bump1 (⟨pairs, cc, cpt⟩ :: r)) = ⟨m, -1, 0⟩ :: ⟨pairs, -1, cpt + 1⟩ :: opn r := rfl
      rw [e1] at h
      rw [e2]
      cases pairs with
      | false =>
        cases m with
        | false => rw [hE0, hB0]; exact wo_open_arr_arr (cc := -1) (cpt := cpt) (-1) rfl h hr1 (by omega) (by omega) ⟨by omega, by omega⟩ hbase
        | true => rw [hE1, hB1]; exact wo_open_arr_map (cc := -1) (cpt := cpt) (-1) rfl h hr1 (by omega) (by omega) ⟨by omega, by omega⟩ hbase
      | true =>
        have hp := hpar rfl
        cases m with
        | false => rw [hE0, hB0]; exact wo_open_map_arr (cc := -1) (cpt := cpt) (-1) rfl h hr1 (by omega) (by omega) ⟨by omega, by omega⟩ hp hbase
        | true => rw [hE1, hB1]; exact wo_open_map_map (cc := -1) (cpt := cpt) (-1) rfl h hr1 (by omega) (by omega) ⟨by omega, by omega⟩ hp hbase
  · rw [next_end, openEv_end]
    obtain ⟨pairs, cc, cpt⟩ := c
    have hc2 := hf.parts
    simp only [] at hc2 hroom
    have hr1 : (opn r).length ≤ 100 := by rw [opn_len]; simp only [List.length_cons] at hs; omega
    have e1 : opn (⟨pairs, cc, cpt⟩ :: r) = ⟨pairs, -1, cpt⟩ :: opn r := rfl
    rw [e1] at h
    have e3 : (⟨pairs, cc, cpt⟩ :: r : List Cont).tail = r := rfl
    rw [e3, ← opn_empty]
    cases pairs with
    | false => exact wo_end_arr (cc := -1) (cpt := cpt) h hr1 (by omega) ⟨by omega, by omega⟩ hbase
    | true =>
      simp only [roomOf, if_true] at hroom
      exact wo_end_map (cc := -1) (cpt := cpt) h hr1 (by omega) ⟨by omega, by omega⟩ (by omega) hbase
end Go.Proofs.Ytdfdajedcgmbfaa

namespace Go.Proofs.Ytdfdajedcgmbfaa
open Go.RowKit Go.Tru

set_option maxHeartbeats 800000 in
theorem sameEvs_yes (o1 o2 : Option Addr) (n c1 c2 : Nat) (xs : List Ev) (w : World) (h1 : EvsIn w o1 n c1 xs) (h2 : EvsIn w o2 n c2 xs) :
    Calls Try.prog 10 #[.slice o1 n c1, .slice o2 n c2] w fun e w' => e = .returned (.bool true) ∧ Keeps [] w w' := by
  have hl1 := h1.len
  have m1 : n ≤ 9223372036854775807 := by have := h1.room; have := h1.most; unfold maxLen at *; omega
  have H1 := Lib.hid h1
  have H2 := Lib.hid h2
  have L1 := Lib.hid hl1
  clear h1 h2 hl1
  go_enter Try.func10, Try.ntmps10
  go_wp2_with fail
  go_loopw [5] (fun i wr => ∃ k : Nat, k ≤ n ∧ i = .int .i64 k ∧ Keeps [] w wr) (fun i _ => n - (intOf i).toNat)
  case atStart => exact ⟨0, Nat.zero_le _, rfl, Keeps.refl _ _⟩
  case round =>
    obtain ⟨k, hk, rfl, hK⟩ := hrel
    by_cases hlt : k < n
    · have hx : k < xs.length := by rw [L1.out]; exact hlt
      obtain ⟨b1, f1, rfl, g0, g1, g2, g3, g4⟩ := (H1.out.keeps hK).get hlt hx
      obtain ⟨b2, f2, rfl, q0, q1, q2, q3, q4⟩ := (H2.out.keeps hK).get hlt hx
      have hi : (k : Int) < (n : Int) := by omega
      have HK := Lib.hid hK
      have heq : ∀ W, (binOp .eql 36 (.agg #[.int .i64 xs[k].kind, .bool xs[k].yes, .int .u64 xs[k].mag, .string xs[k].text, .int .i64 xs[k].count]) (.agg #[.int .i64 xs[k].kind, .bool xs[k].yes, .int .u64 xs[k].mag, .string xs[k].text, .int .i64 xs[k].count])).run Try.prog W = .ok (.bool true) W := fun W => by
        have := eql_ev xs[k] xs[k] W
        rw [show xs[k].same xs[k] = true from same_iff.2 rfl] at this
        exact this
      clear hK
      go_wp2_with fail
      go_quiet (fail)
      go_wp2_with fail
      go_roundw
      case rel => exact ⟨k + 1, by omega, by go_num, HK.out.drewN _⟩
      case measure => simp [intOf]; omega
    · obtain rfl : k = n := by omega
      have HK := Lib.hid hK
      clear hK
      go_wp2_with fail
      go_ret
      exact ⟨rfl, HK.out⟩

end Go.Proofs.Ytdfdajedcgmbfaa

namespace Go.Tru
theorem EvsIn.keepsF {F : List Nat} {w w' : World} {o : Option Addr} {n c : Nat} {es : List Ev} (h : EvsIn w o n c es) (k : Keeps F w w') (hF : ∀ b off, o = some ⟨b, off, none⟩ → b ∉ F) : EvsIn w' o n c es :=
  ⟨h.len, h.room, h.most, h.at_.imp id fun ⟨b, off, h1, h2, h3⟩ => ⟨b, off, h1, Nat.lt_of_lt_of_le h2 k.size, fun i e he j v hv => k.cell (h3 i e he j v hv) (hF b off h1)⟩⟩

theorem bytesOf_list (l : List UInt8) : (bytesOf l).data.toList = l := by simp [bytesOf]

theorem bytes_snoc (l : List Ev) (e : Ev) : bytesOf (bytesC l) ++ bytesOf (partC e) = bytesOf (bytesC (l ++ [e])) := by
  rw [cat_bytes, bytesC_append]
  simp [bytesOf, bytesC]

theorem bytesC_len {s t : List Cont} {n : Nat} {l : List Ev} (h : Tr n s l t) : (bytesC l).length ≤ 40 * l.length := by
  induction h with
  | nil => simp [bytesC]
  | cons h _ _ ih =>
    rw [bytesC_cons, List.length_append, List.length_cons]
    have := partC_len h
    omega

theorem bytesC_take {s t : List Cont} {n : Nat} {l : List Ev} (h : Tr n s l t) (k : Nat) : (bytesC (l.take k)).length ≤ 40 * l.length := by
  have e : bytesC l = bytesC (l.take k) ++ bytesC (l.drop k) := by rw [← bytesC_append, List.take_append_drop]
  have h1 := bytesC_len h
  rw [e, List.length_append] at h1
  omega
end Go.Tru
namespace Go.Proofs.Ytdfdajedcgmbfaa
open Go.RowKit Go.Tru

theorem conv_one (c : UInt8) (W : World) (n : Nat) (hn : n = W.heap.size) :
    (convert 41 9 (.slice (some ⟨n, 0, none⟩) 1 1)).run Try.prog (W.alloc (.cells #[.int .u8 c.toNat] 5)) = .ok (.string (bytesOf [c])) (W.alloc (.cells #[.int .u8 c.toNat] 5)) := by
  have h := run_bytes_lit (P := Try.prog) 41 9 5 Try.underlying41 Try.underlying5 Try.underlying9 [(c.toNat : Int)] W n hn
  have e : strOfNums [(c.toNat : Int)] = bytesOf [c] := by
    unfold bytesOf
    apply ByteArray.ext
    apply Array.toList_inj.1
    rw [str_data]
    simp
  rw [e] at h
  exact h

/-- so many parts have been written -/
def BkRel (ds : List Ev) (B b : Nat) (o3 : Option Addr) (c3 : Nat) (w : World) (x i : Value) (wr : World) : Prop :=
  ∃ (k : Nat) (ov : Value), k ≤ ds.length ∧ i = .int .i64 k ∧ x = .string (bytesOf (bytesC (ds.take k))) ∧ WrIn wr B b 2 ov (wAfter [] (ds.take k)) (decide (k = ds.length)) ∧ (k = 0 → ov = .slice none 0 0) ∧ EvsIn wr o3 ds.length c3 ds ∧ B ≤ wr.heap.size ∧ Keeps [] w wr
end Go.Proofs.Ytdfdajedcgmbfaa

namespace Go.Tru
theorem bytesO_snoc (l : List Ev) (e : Ev) : bytesOf (bytesO l) ++ bytesOf (partO e) = bytesOf (bytesO (l ++ [e])) := by
  rw [cat_bytes, bytesO_append]
  simp [bytesOf, bytesO]
end Go.Tru
namespace Go.Proofs.Ytdfdajedcgmbfaa
open Go.RowKit Go.Tru

theorem bytesO_len {s t : List Cont} {n : Nat} {l : List Ev} (h : Tr n s l t) : (bytesO l).length ≤ 40 * l.length := by
  induction h with
  | nil => simp [bytesO]
  | cons h _ _ ih =>
    rw [bytesO_cons, List.length_append, List.length_cons]
    have := partO_len h
    omega

theorem bytesO_take {s t : List Cont} {n : Nat} {l : List Ev} (h : Tr n s l t) (k : Nat) : (bytesO (l.take k)).length ≤ 40 * l.length := by
  have e : bytesO l = bytesO (l.take k) ++ bytesO (l.drop k) := by rw [← bytesO_append, List.take_append_drop]
  have h1 := bytesO_len h
  rw [e, List.length_append] at h1
  omega

set_option maxHeartbeats 3200000 in
set_option maxRecDepth 100000 in
theorem back_yes (o : Option Addr) (n c : Nat) (xs : List Int) (dep : Nat) (w : World) (h : IntsIn w o n c xs) (hn : n ≤ 60) (hd1 : 1 ≤ dep) (hd2 : dep ≤ 16) :
    Calls Try.prog 3 #[.slice o n c, .int .i64 (dep : Int), .bool false] w fun r w' => r = .returned (.bool true) ∧ Keeps [] w w' := by
  have hback := back_all xs dep ⟨hd1, hd2⟩
  have htr := doc_tr xs dep hd2
  have hdl : (doc xs dep).length ≤ 500 := by
    have h1 := docItem_len dep xs
    have h2 := h.len
    unfold doc
    omega
  have hds1 : 1 ≤ (doc xs dep).length := by
    have h1 := tr_end htr
    rcases hcase : doc xs dep with _ | ⟨e, r⟩
    · rw [hcase] at hback
      unfold cborAll at hback
      rw [if_neg (by omega)] at hback
      have h3 := congrArg Prod.snd hback
      exact absurd h3 (by show ¬ (3 : Int) = 0; decide)
    · simp
  have i1 : ¬ 60 < (n : Int) := by omega
  have i2 : ¬ (dep : Int) < 1 := by omega
  have i3 : ¬ 16 < (dep : Int) := by omega
  have HDOC := Lib.hid (fun W hW => doc_any o n c xs dep (by omega) (by omega) W hW)
  have H := Lib.hid h
  generalize doc xs dep = ds at hback htr hdl hds1 HDOC
  have HBACK := Lib.hid hback
  have HTR := Lib.hid htr
  have HDL := Lib.hid hdl
  have HD1 := Lib.hid hds1
  clear h hback htr hdl hds1 hn hd1 hd2
  go_enter Try.func3, Try.ntmps3
  go_wp2_with fail
  refine (calive_any w).mono ?_
  rintro e w1 ⟨rfl, k1⟩
  have K1 := Lib.hid k1
  clear k1
  go_wp2_with fail
  refine (HDOC.out _ (H.out.keeps K1.out)).mono ?_
  rintro e w2 ⟨v2, rfl, hown2, k2⟩
  obtain ⟨o3, c3, rfl, hin2⟩ := evsIn_of_owns hown2
  have K2 := Lib.hid (K1.out.trans k2)
  have HI2 := Lib.hid hin2
  have z2 := K2.out.size
  have hm2 := hin2.most
  have hr2 := hin2.room
  unfold maxLen at hm2
  clear hown2 hin2 k2
  go_wp2_with fail
  go_loopw [9, 41] (fun x i wr => BkRel ds w2.heap.size w2.heap.size o3 c3 w x i wr) (fun _ i _ => ds.length - (intOf i).toNat)
  case atStart =>
    refine ⟨0, .slice none 0 0, Nat.zero_le _, rfl, rfl, ⟨?_, OwnsStk.nil _ _ _, by simp [blks_nil]⟩, fun _ => rfl, HI2.out.keeps ((Keeps.refl [] w2).alloc _), by simp, K2.out.alloc _⟩
    have hdec : decide (0 = ds.length) = false := by have := HD1.out; simp; omega
    rw [hdec]
    exact Has.new' w2 _ _ rfl
  case round =>
    obtain ⟨k, ov, hk, rfl, rfl, hwr, hov, hin, hB, hK⟩ := hrel
    have hbl := hwr.blk.lt
    by_cases hlt : k < ds.length
    · obtain ⟨b1, f1, rfl, g0, g1, g2, g3, g4⟩ := hin.get hlt hlt
      have hget : ds[k]? = some ds[k] := List.getElem?_eq_getElem hlt
      obtain ⟨t1, t2, t3⟩ := tr_at HTR.out k _ hget
      have hdec : decide (k = ds.length) = false := by simp; omega
      rw [hdec] at hwr
      have hstep := wstepC t1 hwr (fun h0 => by
        rcases Nat.eq_zero_or_pos k with hk0 | hk0
        · exact hov hk0
        · have h1 := (tr_at HTR.out (k - 1) ds[k - 1] (List.getElem?_eq_getElem (by omega))).2.1 (by omega)
          rw [show k - 1 + 1 = k by omega, h0] at h1
          simp at h1) hB
      have hx1 : (bytesOf (bytesC (ds.take k))).size ≤ 30000 := by
        rw [bytesOf_sz]
        have := bytesC_take HTR.out k
        have := HDL.out
        omega
      have hx2 : (bytesOf (partC ds[k])).size ≤ 40 := by rw [bytesOf_sz]; exact partC_len t1
      have hcat := bytes_snoc (ds.take k) ds[k]
      have htk : ds.take k ++ [ds[k]] = ds.take (k + 1) := by rw [List.take_succ_eq_append_getElem hlt]
      rw [htk] at hcat
      rw [← t3] at hstep
      have hfin : (wAfter [] (ds.take (k + 1))).isEmpty = decide (k + 1 = ds.length) := by
        by_cases hl : k + 1 = ds.length
        · rw [hl, List.take_length, tr_end HTR.out]; simp
        · have := t2 (by omega)
          rcases hc : wAfter [] (ds.take (k + 1)) with _ | ⟨a, l⟩
          · rw [hc] at this; simp at this
          · simp [hl]
      rw [hfin] at hstep
      have HIN := Lib.hid hin
      have HK := Lib.hid hK
      have HST := Lib.hid hstep
      have HFB := Lib.hid hB
      have hblks : ∀ i ∈ blks ov, w2.heap.size ≤ i := fun i hi => (World.ownsRow.lt hwr.opn i (mem_blks.1 hi)).1
      have HBL := Lib.hid hblks
      have hb1 : b1 < w2.heap.size := by
        rcases HI2.out.at_ with h0 | ⟨b', off', e', hb', _⟩
        · have := HD1.out; omega
        · simp only [Option.some.injEq, Addr.mk.injEq] at e'
          omega
      have hi : (k : Int) < (ds.length : Int) := by omega
      have hsum : ¬ 281474976710656 < (bytesOf (bytesC (ds.take k))).size + (bytesOf (partC ds[k])).size := by omega
      obtain ⟨X, hX⟩ : ∃ X, bytesOf (bytesC (ds.take k)) = X := ⟨_, rfl⟩
      obtain ⟨Y, hY⟩ : ∃ Y, bytesOf (partC ds[k]) = Y := ⟨_, rfl⟩
      rw [hX, hY] at hcat hsum
      rw [hY] at HST
      have HX := Lib.hid hX
      rw [hX]
      generalize hae : ds[k] = p at g0 g1 g2 g3 g4 HST
      clear hae hin hK hstep hB hblks hwr hov hX hY hx1 hx2 t1 t2 t3 htk hfin hdec hget
      go_wp2_with fail
      refine HST.out.mono ?_
      rintro r w4 ⟨rfl, ov4, hwr4, k4, hb4⟩
      have HW4 := Lib.hid hwr4
      have HIN4 := Lib.hid (HIN.out.keepsF k4 (fun b' off' e1 hm => by
        simp only [Option.some.injEq, Addr.mk.injEq] at e1
        rcases List.mem_cons.1 hm with h | h
        · omega
        · have := HBL.out _ h; omega))
      have K4 := Lib.hid (HK.out.trans' k4 (fun i hi => Or.inr (by
        rcases List.mem_cons.1 hi with h | h
        · omega
        · have := HBL.out _ h; omega)))
      have hB4 := Lib.hid (Nat.le_trans HFB.out k4.size)
      clear hwr4 k4 hb4
      go_wp2_with fail
      go_roundw
      case rel => exact ⟨k + 1, ov4, by omega, by go_num, rfl, HW4.out, fun h => by omega, HIN4.out, hB4.out, K4.out⟩
      case measure => simp [intOf]; omega
    · have hke : k = ds.length := by omega
      subst hke
      have hge : ¬ (ds.length : Int) < (ds.length : Int) := by omega
      rw [List.take_length] at *
      have hsz : (bytesOf (bytesC ds)).size ≤ 1000000 := by
        rw [bytesOf_sz]
        have := bytesC_len HTR.out
        have := HDL.out
        omega
      have hall := fun W => cborAll_any (bytesOf (bytesC ds)) dep W hsz
      rw [show (bytesOf (bytesC ds)).data.toList = bytesC ds from bytesOf_list _, HBACK.out] at hall
      have HALL := Lib.hid hall
      have HIN := Lib.hid hin
      have HK := Lib.hid hK
      obtain ⟨X, hX⟩ : ∃ X, bytesOf (bytesC ds) = X := ⟨_, rfl⟩
      rw [hX] at HALL ⊢
      clear hall hin hK hwr hov hB hX hsz hbl
      obtain ⟨wo, rfl⟩ : ∃ wo : World, wo = wr := ⟨_, rfl⟩
      go_wp2_with fail
      refine (HALL.out _).mono ?_
      rintro r w4 ⟨v4, rfl, hown4, k4⟩
      obtain ⟨o4, c4, rfl, hin4⟩ := evsIn_of_owns hown4
      have K4 := Lib.hid (HK.out.trans k4)
      have HIN4 := Lib.hid hin4
      have HIN5 := Lib.hid (HIN.out.keeps k4)
      clear hown4 hin4 k4
      go_wp2_with fail
      refine (sameEvs_yes _ _ _ _ _ ds _ HIN4.out HIN5.out).mono ?_
      rintro r w5 ⟨rfl, k5⟩
      have K5 := Lib.hid (K4.out.trans k5)
      clear k5
      go_wp2_with fail
      go_ret
      exact ⟨rfl, K5.out⟩

/-- so many parts have been written, their counts not known -/
def BoRel (ds : List Ev) (B b : Nat) (o3 : Option Addr) (c3 : Nat) (w : World) (x i : Value) (wr : World) : Prop :=
  ∃ (k : Nat) (ov : Value), k ≤ ds.length ∧ i = .int .i64 k ∧ x = .string (bytesOf (bytesO (ds.take k))) ∧ WrIn wr B b 2 ov (opn (wAfter [] (ds.take k))) (decide (k = ds.length)) ∧ (k = 0 → ov = .slice none 0 0) ∧ EvsIn wr o3 ds.length c3 (ds.map openEv) ∧ B ≤ wr.heap.size ∧ Keeps [] w wr

set_option maxHeartbeats 3200000 in
set_option maxRecDepth 100000 in
theorem open_yes (o : Option Addr) (n c : Nat) (xs : List Int) (dep : Nat) (w : World) (h : IntsIn w o n c xs) (hn : n ≤ 60) (hd1 : 1 ≤ dep) (hd2 : dep ≤ 16) :
    Calls Try.prog 3 #[.slice o n c, .int .i64 (dep : Int), .bool true] w fun r w' => r = .returned (.bool true) ∧ Keeps [] w w' := by
  have hback := open_all xs dep ⟨hd1, hd2⟩
  have htr := doc_tr xs dep hd2
  have hdl : (doc xs dep).length ≤ 500 := by
    have h1 := docItem_len dep xs
    have h2 := h.len
    unfold doc
    omega
  have hds1 : 1 ≤ (doc xs dep).length := by
    have h1 := tr_end htr
    rcases hcase : doc xs dep with _ | ⟨e, r⟩
    · rw [hcase] at hback
      unfold cborAll at hback
      rw [if_neg (by omega)] at hback
      have h3 := congrArg Prod.snd hback
      exact absurd h3 (by show ¬ (3 : Int) = 0; decide)
    · simp
  have i1 : ¬ 60 < (n : Int) := by omega
  have i2 : ¬ (dep : Int) < 1 := by omega
  have i3 : ¬ 16 < (dep : Int) := by omega
  have HDOC := Lib.hid (fun W hW => doc_any o n c xs dep (by omega) (by omega) W hW)
  have H := Lib.hid h
  generalize doc xs dep = ds at hback htr hdl hds1 HDOC
  have HBACK := Lib.hid hback
  have HTR := Lib.hid htr
  have HDL := Lib.hid hdl
  have HD1 := Lib.hid hds1
  clear h hback htr hdl hds1 hn hd1 hd2
  go_enter Try.func3, Try.ntmps3
  go_wp2_with fail
  refine (calive_any w).mono ?_
  rintro e w1 ⟨rfl, k1⟩
  have K1 := Lib.hid k1
  clear k1
  go_wp2_with fail
  refine (HDOC.out _ (H.out.keeps K1.out)).mono ?_
  rintro e w2 ⟨v2, rfl, hown2, k2⟩
  obtain ⟨o2, c2, rfl, hin2⟩ := evsIn_of_owns hown2
  have K2 := Lib.hid (K1.out.trans k2)
  have HI2 := Lib.hid hin2
  clear hown2 hin2 k2
  go_wp2_with fail
  refine (bookOpen_any o2 ds.length c2 ds _ HI2.out (by have := HDL.out; omega)).mono ?_
  rintro e w3 ⟨v3, rfl, hown3, k3⟩
  obtain ⟨o3, c3, rfl, hin3⟩ := evsIn_of_owns hown3
  rw [List.length_map] at hin3 ⊢
  have K3 := Lib.hid (K2.out.trans k3)
  have HI3 := Lib.hid hin3
  have z3 := K3.out.size
  have hm3 := hin3.most
  have hr3 := hin3.room
  unfold maxLen at hm3
  clear hown3 hin3 k3
  go_wp2_with fail
  go_loopw [9, 41] (fun x i wr => BoRel ds w3.heap.size w3.heap.size o3 c3 w x i wr) (fun _ i _ => ds.length - (intOf i).toNat)
  case atStart =>
    refine ⟨0, .slice none 0 0, Nat.zero_le _, rfl, rfl, ⟨?_, OwnsStk.nil _ _ _, by simp [blks_nil]⟩, fun _ => rfl, HI3.out.keeps ((Keeps.refl [] w3).alloc _), by simp, K3.out.alloc _⟩
    have hdec : decide (0 = ds.length) = false := by have := HD1.out; simp; omega
    rw [hdec]
    exact Has.new' w3 _ _ rfl
  case round =>
    obtain ⟨k, ov, hk, rfl, rfl, hwr, hov, hin, hB, hK⟩ := hrel
    have hbl := hwr.blk.lt
    by_cases hlt : k < ds.length
    · obtain ⟨b1, f1, rfl, g0, g1, g2, g3, g4⟩ := hin.get hlt (by rw [List.length_map]; exact hlt)
      simp only [List.getElem_map] at g0 g1 g2 g3 g4
      have hget : ds[k]? = some ds[k] := List.getElem?_eq_getElem hlt
      obtain ⟨t1, t2, t3⟩ := tr_at HTR.out k _ hget
      have hdec : decide (k = ds.length) = false := by simp; omega
      rw [hdec] at hwr
      have hstep := wstepO t1 hwr (fun h0 => by
        rcases Nat.eq_zero_or_pos k with hk0 | hk0
        · exact hov hk0
        · have h1 := (tr_at HTR.out (k - 1) ds[k - 1] (List.getElem?_eq_getElem (by omega))).2.1 (by omega)
          rw [show k - 1 + 1 = k by omega, h0] at h1
          simp at h1) hB
      have hx1 : (bytesOf (bytesO (ds.take k))).size ≤ 30000 := by
        rw [bytesOf_sz]
        have := bytesO_take HTR.out k
        have := HDL.out
        omega
      have hx2 : (bytesOf (partO ds[k])).size ≤ 40 := by rw [bytesOf_sz]; exact partO_len t1
      have hcat := bytesO_snoc (ds.take k) ds[k]
      have htk : ds.take k ++ [ds[k]] = ds.take (k + 1) := by rw [List.take_succ_eq_append_getElem hlt]
      rw [htk] at hcat
      rw [← t3] at hstep
      have hfin : (wAfter [] (ds.take (k + 1))).isEmpty = decide (k + 1 = ds.length) := by
        by_cases hl : k + 1 = ds.length
        · rw [hl, List.take_length, tr_end HTR.out]; simp
        · have := t2 (by omega)
          rcases hc : wAfter [] (ds.take (k + 1)) with _ | ⟨a, l⟩
          · rw [hc] at this; simp at this
          · simp [hl]
      rw [hfin] at hstep
      have HIN := Lib.hid hin
      have HK := Lib.hid hK
      have HST := Lib.hid hstep
      have HFB := Lib.hid hB
      have hblks : ∀ i ∈ blks ov, w3.heap.size ≤ i := fun i hi => (World.ownsRow.lt hwr.opn i (mem_blks.1 hi)).1
      have HBL := Lib.hid hblks
      have hb1 : b1 < w3.heap.size := by
        rcases HI3.out.at_ with h0 | ⟨b', off', e', hb', _⟩
        · have := HD1.out; omega
        · simp only [Option.some.injEq, Addr.mk.injEq] at e'
          omega
      have hi : (k : Int) < (ds.length : Int) := by omega
      have hsum : ¬ 281474976710656 < (bytesOf (bytesO (ds.take k))).size + (bytesOf (partO ds[k])).size := by omega
      obtain ⟨X, hX⟩ : ∃ X, bytesOf (bytesO (ds.take k)) = X := ⟨_, rfl⟩
      obtain ⟨Y, hY⟩ : ∃ Y, bytesOf (partO ds[k]) = Y := ⟨_, rfl⟩
      rw [hX, hY] at hcat hsum
      rw [hY] at HST
      have HX := Lib.hid hX
      rw [hX]
      generalize hae : openEv ds[k] = p at g0 g1 g2 g3 g4 HST
      clear hae hin hK hstep hB hblks hwr hov hX hY hx1 hx2 t1 t2 t3 htk hfin hdec hget
      go_wp2_with fail
      refine HST.out.mono ?_
      rintro r w4 ⟨rfl, ov4, hwr4, k4, hb4⟩
      have HW4 := Lib.hid hwr4
      have HIN4 := Lib.hid (HIN.out.keepsF k4 (fun b' off' e1 hm => by
        simp only [Option.some.injEq, Addr.mk.injEq] at e1
        rcases List.mem_cons.1 hm with h | h
        · omega
        · have := HBL.out _ h; omega))
      have K4 := Lib.hid (HK.out.trans' k4 (fun i hi => Or.inr (by
        rcases List.mem_cons.1 hi with h | h
        · omega
        · have := HBL.out _ h; omega)))
      have hB4 := Lib.hid (Nat.le_trans HFB.out k4.size)
      clear hwr4 k4 hb4
      go_wp2_with fail
      go_roundw
      case rel => exact ⟨k + 1, ov4, by omega, by go_num, rfl, HW4.out, fun h => by omega, HIN4.out, hB4.out, K4.out⟩
      case measure => simp [intOf]; omega
    · have hke : k = ds.length := by omega
      subst hke
      have hge : ¬ (ds.length : Int) < (ds.length : Int) := by omega
      rw [List.take_length] at *
      have hsz : (bytesOf (bytesO ds)).size ≤ 1000000 := by
        rw [bytesOf_sz]
        have := bytesO_len HTR.out
        have := HDL.out
        omega
      have hall := fun W => cborAll_any (bytesOf (bytesO ds)) dep W hsz
      rw [show (bytesOf (bytesO ds)).data.toList = bytesO ds from bytesOf_list _, HBACK.out] at hall
      have HALL := Lib.hid hall
      have HIN := Lib.hid hin
      have HK := Lib.hid hK
      obtain ⟨X, hX⟩ : ∃ X, bytesOf (bytesO ds) = X := ⟨_, rfl⟩
      rw [hX] at HALL ⊢
      clear hall hin hK hwr hov hB hX hsz hbl
      obtain ⟨wo, rfl⟩ : ∃ wo : World, wo = wr := ⟨_, rfl⟩
      go_wp2_with fail
      refine (HALL.out _).mono ?_
      rintro r w4 ⟨v4, rfl, hown4, k4⟩
      obtain ⟨o4, c4, rfl, hin4⟩ := evsIn_of_owns hown4
      rw [List.length_map] at hin4 ⊢
      have K4 := Lib.hid (HK.out.trans k4)
      have HIN4 := Lib.hid hin4
      have HIN5 := Lib.hid (HIN.out.keeps k4)
      clear hown4 hin4 k4
      go_wp2_with fail
      refine (sameEvs_yes _ _ _ _ _ _ _ HIN4.out HIN5.out).mono ?_
      rintro r w5 ⟨rfl, k5⟩
      have K5 := Lib.hid (K4.out.trans k5)
      clear k5
      go_wp2_with fail
      go_ret
      exact ⟨rfl, K5.out⟩

theorem cborinBack_walk (o : Option Addr) (n c : Nat) (xs : List Int) (d : Int) (op : Bool) (w : World) (h : IntsIn w o n c xs) (_ : -9223372036854775808 ≤ d ∧ d ≤ 9223372036854775807) :
    Calls Try.prog 3 #[.slice o n c, .int .i64 d, .bool op] w fun r w' => r = .returned (.bool true) ∧ Below w.heap.size w w' := by
  refine Calls.mono (R := fun r w' => r = .returned (.bool true) ∧ Keeps [] w w') ?_ (fun r w' h => ⟨h.1, h.2.all⟩)
  have m1 : n ≤ 9223372036854775807 := by have := h.room; have := h.most; unfold maxLen at *; omega
  by_cases hbad : 60 < n ∨ d < 1 ∨ 16 < d
  · clear h
    by_cases h1 : 60 < (n : Int)
    · clear hbad
      go_enter Try.func3, Try.ntmps3
      go_wp2_with fail
      refine (calive_any w).mono ?_
      rintro e w1 ⟨rfl, k1⟩
      have K1 := Lib.hid k1
      clear k1
      go_wp2_with fail
      go_ret
      exact ⟨rfl, K1.out⟩
    rcases (show d < 1 ∨ ¬ d < 1 ∧ 16 < d by omega) with h2 | ⟨h2, h3⟩
    all_goals
      clear hbad
      go_enter Try.func3, Try.ntmps3
      go_wp2_with fail
      refine (calive_any w).mono ?_
      rintro e w1 ⟨rfl, k1⟩
      have K1 := Lib.hid k1
      clear k1
      go_wp2_with fail
      go_ret
      exact ⟨rfl, K1.out⟩
  · obtain ⟨dep, rfl⟩ : ∃ dep : Nat, d = dep := ⟨d.toNat, by omega⟩
    cases op
    · exact back_yes o n c xs dep w h (by omega) (by omega) (by omega)
    · exact open_yes o n c xs dep w h (by omega) (by omega) (by omega)
end Go.Proofs.Ytdfdajedcgmbfaa
