/-
  The book's lists of parts: a copy, a list lent with room behind it, is it as it was?
-/
import Derived.Test.YtdjdbcppabiknaaEvApp
import Derived.Test.YtdjdbcppabiknaaEvMore
import Derived.Deep.QuietTactic
import Derived.BigQuiet
namespace Go.Proofs.Ytdjdbcppabiknaa
open Go.RowKit Go.Tru

theorem copyEvs_any (o : Option Addr) (n c : Nat) (es : List Ev) (w : World) (h : EvsIn w o n c es) (hn : n ≤ 1000000) :
    Calls Try.prog 23 #[.slice o n c] w fun e w' => ∃ v, e = .returned v ∧ OwnsEvs w' w.heap.size 32 v es ∧ Keeps [] w w' := by
  have hl := h.len
  rcases o with _ | ⟨b, off, q⟩
  · have h0 : n = 0 := by
      rcases h.at_ with h0 | ⟨b, off, he, _⟩
      · exact h0
      · cases he
    subst h0
    obtain rfl : es = [] := List.length_eq_zero_iff.1 hl
    clear h hl
    go_enter Try.func23, Try.ntmps23
    go_wp2_with fail
    go_ret
    exact ⟨_, rfl, OwnsEvs.nil _ _ _, Keeps.refl _ _⟩
  · have hsrc : ∀ (j : Nat) (u : Value), (es.flatMap Ev.cells)[j]? = some u → w.cell? ((⟨b, off, q⟩ : Addr).add j) = some u := by
      rcases h.at_ with h0 | ⟨b', off', he, _⟩
      · subst h0
        obtain rfl : es = [] := List.length_eq_zero_iff.1 hl
        intro j u hu
        simp at hu
      · cases he
        by_cases h0 : n = 0
        · subst h0
          obtain rfl : es = [] := List.length_eq_zero_iff.1 hl
          intro j u hu
          simp at hu
        · exact h.src h0
    have HS := Lib.hid hsrc
    clear hsrc h
    go_enter Try.func23, Try.ntmps23
    go_wp2_with (at_builtin; go_must (refine app_evs rfl _ _ rfl w.heap.size (.slice none 0 0) [] rfl (OwnsEvs.nil _ _ _) ⟨b, off, q⟩ n c es rfl hl HS.out (by simp; omega) (Nat.le_refl _) ?_))
    intro v1 w1 hown hg _hnil
    have hK : Keeps [] w w1 := (Keeps.refl _ _).grown hg (fun j hj => by simp [Value.ownBlock] at hj)
    have HO := Lib.hid hown
    have HK := Lib.hid hK
    clear hown hg _hnil hK
    go_wp2_with fail
    go_ret
    exact ⟨_, rfl, HO.out, HK.out⟩

def evMark : Ev := ⟨0, false, 0, noText, -77⟩

theorem lentEvs_any (o : Option Addr) (n c : Nat) (es : List Ev) (w : World) (h : EvsIn w o n c es) (hn : n ≤ 1000000) :
    Calls Try.prog 10 #[.slice o n c] w fun e w' => ∃ g cap, e = .returned (.slice (some ⟨g, 0, none⟩) n cap) ∧ n + 1 ≤ cap ∧ EvsIn w' (some ⟨g, 0, none⟩) (n + 1) cap (es ++ [evMark]) ∧ Keeps [] w w' := by
  have hl := h.len
  have hr := h.room
  have hm := h.most
  unfold maxLen at hm
  have H := Lib.hid h
  have L := Lib.hid hl
  clear h hl
  go_enter Try.func10, Try.ntmps10
  go_wp2_with fail
  refine (copyEvs_any o n c es w H.out hn).mono ?_
  rintro e w1 ⟨v, rfl, hown, hK⟩
  have HO := Lib.hid hown
  have HK := Lib.hid hK
  have hz := hK.size
  have hbl := hown.lt
  clear hown hK
  go_wp2_with (at_builtin; go_must (refine app_evs rfl _ _ rfl w.heap.size _ es rfl (HO.out.alloc _) ⟨_, 0, none⟩ 1 1 [evMark] rfl rfl (new_ev evMark rfl) (by have := L.out; simp; omega) (by simp only [World.size_alloc]; omega) ?_))
  intro v2 w2 hown2 hg2 hnil2
  have hK2 : Keeps [] w w2 := (HK.out.alloc _).grown hg2 (fun j hj => Or.inr (hbl j hj).1)
  obtain ⟨g, cap, rfl⟩ : ∃ g cap, v2 = .slice (some ⟨g, 0, none⟩) (n + 1) cap := by
    have h2 := hown2.2
    rcases h2 with ⟨rfl, h0⟩ | ⟨g, cap, cur, rfl, _⟩
    · simp at h0
    · exact ⟨g, cap, by rw [← L.out]; simp⟩
  have hin : EvsIn w2 (some ⟨g, 0, none⟩) (n + 1) cap (es ++ [evMark]) := by
    obtain ⟨o', c', he, hin⟩ := evsIn_of_owns hown2
    have hll : (es ++ [evMark]).length = n + 1 := by have := L.out; simp; omega
    simp only [Value.slice.injEq] at he
    obtain ⟨rfl, _, rfl⟩ := he
    rw [hll] at hin
    exact hin
  have hr2 := hin.room
  have hm2 := hin.most
  unfold maxLen at hm2
  have HI := Lib.hid hin
  have HK2 := Lib.hid hK2
  clear hown2 hg2 hnil2 hK2 hin hbl HO
  go_wp2_with fail
  go_ret
  exact ⟨g, cap, rfl, hr2, HI.out, HK2.out⟩

set_option maxHeartbeats 800000 in
theorem sameEvs_yes (o1 o2 : Option Addr) (n c1 c2 : Nat) (xs : List Ev) (w : World) (h1 : EvsIn w o1 n c1 xs) (h2 : EvsIn w o2 n c2 xs) :
    Calls Try.prog 25 #[.slice o1 n c1, .slice o2 n c2] w fun e w' => e = .returned (.bool true) ∧ Keeps [] w w' := by
  have hl1 := h1.len
  have m1 : n ≤ 9223372036854775807 := by have := h1.room; have := h1.most; unfold maxLen at *; omega
  have H1 := Lib.hid h1
  have H2 := Lib.hid h2
  have L1 := Lib.hid hl1
  clear h1 h2 hl1
  go_enter Try.func25, Try.ntmps25
  go_wp2_with fail
  go_loopw [5] (fun i wr => ∃ k : Nat, k ≤ n ∧ i = .int .i64 k ∧ Keeps [] w wr) (fun i _ => n - (intOf i).toNat)
  case atStart => exact ⟨0, Nat.zero_le _, rfl, Keeps.refl _ _⟩
  case round =>
    obtain ⟨k, hk, rfl, hK⟩ := hrel
    by_cases hlt : k < n
    · have hx : k < xs.length := by rw [L1.out]; exact hlt
      obtain ⟨b1, f1, rfl, g0, g1, g2, g3, g4⟩ := (H1.out.keeps hK).get hlt hx
      obtain ⟨b2, f2, rfl, q0, q1, q2, q3, q4⟩ := (H2.out.keeps hK).get hlt hx
      have hi : (k : Int) < (n : Int) := by omega
      have HK := Lib.hid hK
      have heq : ∀ W, (binOp .eql 32 (.agg #[.int .i64 xs[k].kind, .bool xs[k].yes, .int .u64 xs[k].mag, .string xs[k].text, .int .i64 xs[k].count]) (.agg #[.int .i64 xs[k].kind, .bool xs[k].yes, .int .u64 xs[k].mag, .string xs[k].text, .int .i64 xs[k].count])).run Try.prog W = .ok (.bool true) W := fun W => by
        have := eql_ev xs[k] xs[k] W
        rw [show xs[k].same xs[k] = true from same_iff.2 rfl] at this
        exact this
      clear hK
      go_wp2_with fail
      go_quiet (fail)
      go_wp2_with fail
      go_roundw
      case rel => exact ⟨k + 1, by omega, by go_num, HK.out.drewN _⟩
      case measure => simp [intOf]; omega
    · obtain rfl : k = n := by omega
      have HK := Lib.hid hK
      clear hK
      go_wp2_with fail
      go_ret
      exact ⟨rfl, HK.out⟩

theorem lent_take {w : World} {g n cap : Nat} {es : List Ev} (hin : EvsIn w (some ⟨g, 0, none⟩) (n + 1) cap (es ++ [evMark])) : EvsIn w (some ⟨g, 0, none⟩) n cap es := by
  have hl := hin.len
  rw [List.length_append, List.length_singleton] at hl
  have h := hin.take (k := n) (by omega)
  rw [List.take_append_of_le_length (by omega), List.take_of_length_le (by omega)] at h
  exact h

theorem staysEvs_yes (o : Option Addr) (n c g cap : Nat) (es : List Ev) (w : World) (h : EvsIn w o n c es) (hin : EvsIn w (some ⟨g, 0, none⟩) (n + 1) cap (es ++ [evMark])) (hn : n ≤ 1000000) :
    Calls Try.prog 13 #[.slice (some ⟨g, 0, none⟩) n cap, .slice o n c] w fun e w' => e = .returned (.bool true) ∧ Keeps [] w w' := by
  have hl := h.len
  have hr2 := hin.room
  have hm2 := hin.most
  unfold maxLen at hm2
  have H := Lib.hid h
  have L := Lib.hid hl
  have HI := Lib.hid hin
  clear h hl hin
  go_enter Try.func13, Try.ntmps13
  go_wp2_with fail
  refine (sameEvs_yes _ o n cap c es w (lent_take HI.out) H.out).mono ?_
  rintro e w1 ⟨rfl, k1⟩
  have K1 := Lib.hid k1
  clear k1
  have hx : n < (es ++ [evMark]).length := by have := HI.out.len; omega
  obtain ⟨b1, f1, he, g0, g1, g2, g3, g4⟩ := (HI.out.keeps K1.out).get (k := n) (by omega) hx
  simp only [Option.some.injEq, Addr.mk.injEq, and_true] at he
  obtain ⟨rfl, rfl⟩ := he
  have hmk : (es ++ [evMark])[n] = evMark := by
    have hnl : n = es.length := L.out.symm
    subst hnl
    simp
  rw [hmk] at g4
  have hmc : evMark.count = -77 := rfl
  rw [hmc, Nat.zero_add] at g4
  clear g0 g1 g2 g3 hmk hmc hx
  go_wp2_with fail
  go_ret
  exact ⟨rfl, K1.out⟩
end Go.Proofs.Ytdjdbcppabiknaa
