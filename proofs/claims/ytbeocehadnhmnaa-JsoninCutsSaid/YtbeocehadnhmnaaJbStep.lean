/-
  truchmanref1.Writer.Step for JSON, on the parts of a document one by one, their counts not known.
  truchmanbook.SameEvs: two lists that are alike.
  What the walks of JsoninBack and JsoninCuts share.
-/
import Derived.Test.YtbeocehadnhmnaaJbText
import Derived.Test.YtbeocehadnhmnaaJbWr
import Derived.Test.YtbeocehadnhmnaaJbOpenA
import Derived.Test.YtbeocehadnhmnaaJbOpenB
import Derived.Test.YtbeocehadnhmnaaJbOpenM
import Derived.Test.YtbeocehadnhmnaaEvMore
import Derived.Deep.QuietTactic
import Derived.BigQuiet
import Derived.Test.YtbeocehadnhmnaaEvIn

namespace Go.Proofs.Ytbeocehadnhmnaa
open Go.RowKit Go.Tru

/-- what is open, the counts not known -/
def opn (s : List Cont) : List Cont := s.map fun c => ⟨c.pairs, -1, c.parts⟩

theorem opn_len (s : List Cont) : (opn s).length = s.length := by simp [opn]
theorem opn_empty (s : List Cont) : (opn s).isEmpty = s.isEmpty := by cases s <;> rfl
theorem bumpJ_empty (s : List Cont) : (bump1 s).isEmpty = s.isEmpty := by cases s <;> rfl

theorem leafJ_any (s : List Cont) {e : Ev} (h : DLeaf e) : bodyJ s e = bodyJ [] e := by
  rcases h with rfl | ⟨b, rfl⟩ | ⟨b, m, hm, rfl⟩ | ⟨t, ht, rfl⟩ <;> rfl

theorem leafJ_open {e : Ev} (h : DLeaf e) : openEv e = e := by
  rcases h with rfl | ⟨b, rfl⟩ | ⟨b, m, hm, rfl⟩ | ⟨t, ht, rfl⟩ <;> rfl

theorem leafJ_kind {e : Ev} (h : DLeaf e) : 0 ≤ e.kind ∧ e.kind ≤ 4 := by
  rcases h with rfl | ⟨b, rfl⟩ | ⟨b, m, hm, rfl⟩ | ⟨t, ht, rfl⟩
  · show (0 : Int) ≤ 0 ∧ (0 : Int) ≤ 4
    decide
  · show (0 : Int) ≤ 1 ∧ (1 : Int) ≤ 4
    decide
  · show (0 : Int) ≤ 2 ∧ (2 : Int) ≤ 4
    decide
  · show (0 : Int) ≤ 3 ∧ (3 : Int) ≤ 4
    decide

theorem printJ_len (g : Bool) {m : Nat} (hm : m < 2147483648) : (printW g m).length ≤ 21 := by
  have h1 := dec_size m (by omega)
  have h2 := dec_size (m + 1) (by omega)
  cases g
  · show (Lib.decDigits m).length ≤ 21
    omega
  · show (45 :: Lib.decDigits (m + 1)).length ≤ 21
    rw [List.length_cons]
    omega

theorem leafJ_len {e : Ev} (h : DLeaf e) : (bodyJ [] e).length ≤ 200 := by
  rcases h with rfl | ⟨b, rfl⟩ | ⟨b, m, hm, rfl⟩ | ⟨t, ht, rfl⟩
  · show 4 ≤ 200
    omega
  · cases b
    · show 5 ≤ 200
      omega
    · show 4 ≤ 200
      omega
  · have := printJ_len b hm
    show (printW b m).length ≤ 200
    omega
  · have h1 := writeOf_len t.data.toList
    have h2 : t.data.toList.length = t.size := by rw [Array.length_toList]; rfl
    show (34 :: (writeOf t.data.toList ++ [34])).length ≤ 200
    simp only [List.length_cons, List.length_append, List.length_nil]
    omega

theorem bodyJ_len {s : List Cont} {e : Ev} (hok : WOk s e) : (bodyJ s e).length ≤ 200 := by
  rcases body_case hok with h | ⟨c, h, _, _⟩
  · rw [leafJ_any s h]; exact leafJ_len h
  · rw [h]; show 1 ≤ 200; omega

theorem sepJ_len (s : List Cont) (e : Ev) : (sepJ s e).length ≤ 1 := by
  rcases sep_case s e with h | ⟨c, h, _⟩ <;> rw [h] <;> simp

theorem bytesJ_sz (l : List UInt8) : (bytesOf l).size = l.length := by simp [bytesOf, ByteArray.size]

theorem bytesJ_cons (c : UInt8) (l : List UInt8) : (⟨#[c]⟩ : ByteArray) ++ bytesOf l = bytesOf (c :: l) := by
  apply ByteArray.ext
  apply Array.toList_inj.1
  simp [ByteArray.data_append, bytesOf]

theorem plainJ_leaf {e : Ev} (h : DLeaf e) (w : World) : Calls Try.prog 25 #[.int .i64 1, e.val] w fun r w' => r = .returned (.tuple #[.string (bytesOf (bodyJ [] e)), .int .i64 0]) ∧ Keeps [] w w' := by
  rcases h with rfl | ⟨b, rfl⟩ | ⟨b, m, hm, rfl⟩ | ⟨t, ht, rfl⟩
  · exact plainJ_null w
  · have := plainJ_bool b w
    cases b <;> exact this
  · exact plainJ_int b m (by omega) w
  · have h := plainJ_text t (by omega) w
    have e1 : (⟨#[34]⟩ : ByteArray) ++ ⟨(writeOf t.data.toList).toArray⟩ ++ ⟨#[34]⟩ = bytesOf (bodyJ [] (evText t)) := by
      have e2 : bodyJ [] (evText t) = 34 :: (writeOf t.data.toList ++ [34]) := rfl
      rw [e2]
      apply ByteArray.ext
      apply Array.toList_inj.1
      simp [ByteArray.data_append, bytesOf]
    rw [e1] at h
    exact h

theorem wstepJ {w : World} {base b : Nat} {ov : Value} {s : List Cont} {e : Ev} (hok : WOk s e) (h : WrIn w base b 1 ov (opn s) false) (h0 : s = [] → ov = .slice none 0 0) (hbase : base ≤ w.heap.size) :
    Calls Try.prog 12 #[.pointer (some ⟨b, 0, none⟩), (openEv e).val] w (WrPost w base b 1 ov (bytesOf (sepJ s e ++ bodyJ s e)) (opn (wNext s e)) (wNext s e).isEmpty) := by
  obtain ⟨hs, hcase⟩ := hok
  rcases hcase with ⟨hl, hv⟩ | ⟨⟨t, ht, rfl⟩, c, r, rfl, hf, hroom, hp, hpar⟩ | ⟨⟨m, n, hn, rfl⟩, hv⟩ | ⟨rfl, c, r, rfl, hf, hroom⟩
  · have hbs : (bytesOf (bodyJ [] e)).size ≤ 1000000 := by
      have := leafJ_len hl
      rw [bytesJ_sz]; omega
    have h7 : e.kind ≠ 7 := by have := leafJ_kind hl; omega
    rw [next_leaf hl, leafJ_open hl, leafJ_any s hl]
    unfold sepJ
    rw [if_neg h7]
    rcases hv with rfl | ⟨c, r, rfl, hf, hroom, hpar⟩
    · exact wj_leaf0 e (leafJ_kind hl) hbs (plainJ_leaf hl) h
    · obtain ⟨pairs, cc, cpt⟩ := c
      have hc2 := hf.parts
      simp only [] at hc2 hroom hpar
      have hr1 : (opn r).length ≤ 100 := by rw [opn_len]; simp only [List.length_cons] at hs; omega
      have e1 : opn (⟨pairs, cc, cpt⟩ :: r) = ⟨pairs, -1, cpt⟩ :: opn r := rfl
      have e2 : opn (bump1 (⟨pairs, cc, cpt⟩ :: r)) = ⟨pairs, -1, cpt + 1⟩ :: opn r := rfl
      rw [e1] at h
      rw [e2]
      simp only []
      cases pairs with
      | false =>
        by_cases hz : cpt = 0
        · rw [if_pos hz]
          exact wj_leaf_arr0 (cc := -1) (cpt := cpt) e (leafJ_kind hl) hbs (plainJ_leaf hl) h hr1 (by omega) (by omega) ⟨by omega, by omega⟩ (by omega) hbase
        · rw [if_neg hz, if_neg (by simp), List.singleton_append, ← bytesJ_cons]
          exact wj_leaf_arr1 (cc := -1) (cpt := cpt) e (leafJ_kind hl) hbs (plainJ_leaf hl) h hr1 (by omega) (by omega) ⟨by omega, by omega⟩ (by omega) hbase
      | true =>
        have hp := hpar rfl
        rw [if_neg (by omega), if_pos ⟨rfl, hp⟩, List.singleton_append, ← bytesJ_cons]
        exact wj_leaf_odd (cc := -1) (cpt := cpt) e (leafJ_kind hl) hbs (plainJ_leaf hl) h hr1 (by omega) (by omega) ⟨by omega, by omega⟩ (by omega) hp hbase
  · have hl : DLeaf (evText t) := Or.inr (Or.inr (Or.inr ⟨t, ht, rfl⟩))
    have hbs : (bytesOf (bodyJ [] (evText t))).size ≤ 1000000 := by
      have := leafJ_len hl
      rw [bytesJ_sz]; omega
    obtain ⟨pairs, cc, cpt⟩ := c
    have hc2 := hf.parts
    simp only [] at hc2 hroom hp hpar
    subst hp
    have hr1 : (opn r).length ≤ 100 := by rw [opn_len]; simp only [List.length_cons] at hs; omega
    have e1 : opn (⟨true, cc, cpt⟩ :: r) = ⟨true, -1, cpt⟩ :: opn r := rfl
    have e2 : opn (bump1 (⟨true, cc, cpt⟩ :: r)) = ⟨true, -1, cpt + 1⟩ :: opn r := rfl
    rw [e1] at h
    rw [next_leaf hl, leafJ_open hl, leafJ_any _ hl, e2]
    unfold sepJ
    rw [if_neg (by show ¬ (3 : Int) = 7; decide)]
    simp only []
    by_cases hz : cpt = 0
    · rw [if_pos hz]
      exact wj_leaf_even0 (cc := -1) (cpt := cpt) (evText t) (leafJ_kind hl) hbs (plainJ_leaf hl) h hr1 (by omega) (by omega) ⟨by omega, by omega⟩ (by omega) hpar rfl hbase
    · rw [if_neg hz, if_neg (by rintro ⟨_, b⟩; omega), List.singleton_append, ← bytesJ_cons]
      exact wj_leaf_even1 (cc := -1) (cpt := cpt) (evText t) (leafJ_kind hl) hbs (plainJ_leaf hl) h hr1 (by omega) (by omega) ⟨by omega, by omega⟩ (by omega) hpar rfl hbase
  · rw [next_open]
    have hE0 : openEv (beginEv false n) = Ev.mk 5 false 0 noText (-1) := rfl
    have hE1 : openEv (beginEv true n) = Ev.mk 6 false 0 noText (-1) := rfl
    have hB0 : ∀ s, bodyJ s (beginEv false n) = [91] := fun _ => rfl
    have hB1 : ∀ s, bodyJ s (beginEv true n) = [123] := fun _ => rfl
    have h7 : (beginEv m n).kind ≠ 7 := by cases m <;> (intro h; cases h)
    unfold sepJ
    rw [if_neg h7]
    rcases hv with rfl | ⟨c, r, rfl, hf, hroom, hpar⟩
    · obtain rfl := h0 rfl
      cases m with
      | false => rw [hE0, hB0]; exact wj_open0_arr (-1) rfl h hbase
      | true => rw [hE1, hB1]; exact wj_open0_map (-1) rfl h hbase
    · obtain ⟨pairs, cc, cpt⟩ := c
      have hc2 := hf.parts
      simp only [] at hc2 hroom hpar
      have hr1 : (opn r).length ≤ 100 := by rw [opn_len]; simp only [List.length_cons] at hs; omega
      have e1 : opn (⟨pairs, cc, cpt⟩ :: r) = ⟨pairs, -1, cpt⟩ :: opn r := rfl
      have e2 : opn (⟨m, n, 0⟩ :: bump1 (⟨pairs, cc, cpt⟩ :: r)) = ⟨m, -1, 0⟩ :: ⟨pairs, -1, cpt + 1⟩ :: opn r := rfl
      rw [e1] at h
      rw [e2]
      simp only []
      cases pairs with
      | false =>
        by_cases hz : cpt = 0
        · rw [if_pos hz]
          cases m with
          | false => rw [hE0, hB0]; exact wj_open_arr_arr0 (cc := -1) (cpt := cpt) (-1) rfl h hr1 (by omega) (by omega) ⟨by omega, by omega⟩ (by omega) hbase
          | true => rw [hE1, hB1]; exact wj_open_arr_map0 (cc := -1) (cpt := cpt) (-1) rfl h hr1 (by omega) (by omega) ⟨by omega, by omega⟩ (by omega) hbase
        · rw [if_neg hz, if_neg (by simp)]
          cases m with
          | false => rw [hE0, hB0]; exact wj_open_arr_arr1 (cc := -1) (cpt := cpt) (-1) rfl h hr1 (by omega) (by omega) ⟨by omega, by omega⟩ (by omega) hbase
          | true => rw [hE1, hB1]; exact wj_open_arr_map1 (cc := -1) (cpt := cpt) (-1) rfl h hr1 (by omega) (by omega) ⟨by omega, by omega⟩ (by omega) hbase
      | true =>
        have hp := hpar rfl
        rw [if_neg (by omega), if_pos ⟨rfl, hp⟩]
        cases m with
        | false => rw [hE0, hB0]; exact wj_open_map_arr (cc := -1) (cpt := cpt) (-1) rfl h hr1 (by omega) (by omega) ⟨by omega, by omega⟩ (by omega) hp hbase
        | true => rw [hE1, hB1]; exact wj_open_map_map (cc := -1) (cpt := cpt) (-1) rfl h hr1 (by omega) (by omega) ⟨by omega, by omega⟩ (by omega) hp hbase
  · rw [next_end, openEv_end]
    obtain ⟨pairs, cc, cpt⟩ := c
    have hc2 := hf.parts
    simp only [] at hc2 hroom
    have hr1 : (opn r).length ≤ 100 := by rw [opn_len]; simp only [List.length_cons] at hs; omega
    have e1 : opn (⟨pairs, cc, cpt⟩ :: r) = ⟨pairs, -1, cpt⟩ :: opn r := rfl
    rw [e1] at h
    have e3 : (⟨pairs, cc, cpt⟩ :: r : List Cont).tail = r := rfl
    rw [e3, ← opn_empty]
    cases pairs with
    | false => exact wj_end_arr (cc := -1) (cpt := cpt) h hr1 ⟨by omega, by omega⟩ hbase
    | true =>
      simp only [roomOf, if_true] at hroom
      exact wj_end_map (cc := -1) (cpt := cpt) h hr1 ⟨by omega, by omega⟩ (by omega) hbase
end Go.Proofs.Ytbeocehadnhmnaa

namespace Go.Proofs.Ytbeocehadnhmnaa
open Go.RowKit Go.Tru

set_option maxHeartbeats 800000 in
theorem sameEvs_yes (o1 o2 : Option Addr) (n c1 c2 : Nat) (xs : List Ev) (w : World) (h1 : EvsIn w o1 n c1 xs) (h2 : EvsIn w o2 n c2 xs) :
    Calls Try.prog 14 #[.slice o1 n c1, .slice o2 n c2] w fun e w' => e = .returned (.bool true) ∧ Keeps [] w w' := by
  have hl1 := h1.len
  have m1 : n ≤ 9223372036854775807 := by have := h1.room; have := h1.most; unfold maxLen at *; omega
  have H1 := Lib.hid h1
  have H2 := Lib.hid h2
  have L1 := Lib.hid hl1
  clear h1 h2 hl1
  go_enter Try.func14, Try.ntmps14
  go_wp2_with fail
  go_loopw [5] (fun i wr => ∃ k : Nat, k ≤ n ∧ i = .int .i64 k ∧ Keeps [] w wr) (fun i _ => n - (intOf i).toNat)
  case atStart => exact ⟨0, Nat.zero_le _, rfl, Keeps.refl _ _⟩
  case round =>
    obtain ⟨k, hk, rfl, hK⟩ := hrel
    by_cases hlt : k < n
    · have hx : k < xs.length := by rw [L1.out]; exact hlt
      obtain ⟨b1, f1, rfl, g0, g1, g2, g3, g4⟩ := (H1.out.keeps hK).get hlt hx
      obtain ⟨b2, f2, rfl, q0, q1, q2, q3, q4⟩ := (H2.out.keeps hK).get hlt hx
      have hi : (k : Int) < (n : Int) := by omega
      have HK := Lib.hid hK
      have heq : ∀ W, (binOp .eql 36 (.agg #[.int .i64 xs[k].kind, .bool xs[k].yes, .int .u64 xs[k].mag, .string xs[k].text, .int .i64 xs[k].count]) (.agg #[.int .i64 xs[k].kind, .bool xs[k].yes, .int .u64 xs[k].mag, .string xs[k].text, .int .i64 xs[k].count])).run Try.prog W = .ok (.bool true) W := fun W => by
        have := eql_ev xs[k] xs[k] W
        rw [show xs[k].same xs[k] = true from same_iff.2 rfl] at this
        exact this
      clear hK
      go_wp2_with fail
      go_quiet (fail)
      go_wp2_with fail
      go_roundw
      case rel => exact ⟨k + 1, by omega, by go_num, HK.out.drewN _⟩
      case measure => simp [intOf]; omega
    · obtain rfl : k = n := by omega
      have HK := Lib.hid hK
      clear hK
      go_wp2_with fail
      go_ret
      exact ⟨rfl, HK.out⟩

end Go.Proofs.Ytbeocehadnhmnaa

namespace Go.Tru
theorem EvsIn.keepsF {F : List Nat} {w w' : World} {o : Option Addr} {n c : Nat} {es : List Ev} (h : EvsIn w o n c es) (k : Keeps F w w') (hF : ∀ b off, o = some ⟨b, off, none⟩ → b ∉ F) : EvsIn w' o n c es :=
  ⟨h.len, h.room, h.most, h.at_.imp id fun ⟨b, off, h1, h2, h3⟩ => ⟨b, off, h1, Nat.lt_of_lt_of_le h2 k.size, fun i e he j v hv => k.cell (h3 i e he j v hv) (hF b off h1)⟩⟩

theorem jb_cat (a b : List UInt8) : (⟨a.toArray⟩ : ByteArray) ++ ⟨b.toArray⟩ = ⟨(a ++ b).toArray⟩ := by
  apply ByteArray.ext
  apply Array.toList_inj.1
  simp [ByteArray.data_append]

theorem jb_list (l : List UInt8) : (bytesOf l).data.toList = l := by simp [bytesOf]

theorem partJ_len (pre post : List UInt8) {s : List Cont} {e : Ev} (hb : (bodyJ s e).length ≤ 200) : (partJ pre post s e).length ≤ 201 + pre.length + post.length := by
  have h1 : (sepJ s e).length ≤ 1 := by rcases sep_case s e with h | ⟨c, h, _⟩ <;> rw [h] <;> simp
  unfold partJ
  simp only [List.length_append]
  omega

theorem textJ_len (pre post : List UInt8) : ∀ {s t : List Cont} {n : Nat} {l : List Ev}, Tr n s l t → (∀ s e, WOk s e → (bodyJ s e).length ≤ 200) → ∀ k, (textJ pre post s (l.take k)).length ≤ (201 + pre.length + post.length) * l.length := by
  intro s t n l h hb
  induction h with
  | nil => intro k; simp [textJ]
  | @cons s t e r h _ _ ih =>
    intro k
    cases k with
    | zero => simp [textJ]
    | succ k =>
      have h1 := partJ_len pre post (hb s e h)
      have h2 := ih k
      simp only [List.take_succ_cons, textJ, List.length_append, List.length_cons, Nat.mul_add, Nat.mul_one]
      omega
end Go.Tru
