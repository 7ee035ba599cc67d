/-
  cborin.Core's other methods: their contracts.
-/
import Derived.Test.YtmcbdkhlbmhfeaaCoreVal
import Derived.Laws.IdiomStrings
import Derived.Lib.BufferRead
namespace Go.Proofs.Ytmcbdkhlbmhfeaa
open Go.RowKit Go.Tru

theorem bytes_string {w : World} {base : Nat} {v : Value} {l : List UInt8} (h : OwnsBytes w base v l) {src dst : TypeId} (hs : Try.prog.underlying src = some (.slice 5)) (hd : Try.prog.underlying dst = some .string) :
    (convert src dst v).run Try.prog w = .ok (.string (bytesOf l)) w := by
  rcases h.2 with ⟨rfl, h0⟩ | ⟨g, cap, cur, rfl, hb, hg, hr⟩
  · obtain rfl : l = [] := List.length_eq_zero_iff.1 h0
    exact Lib.run_convert_nil_bytes w src dst 5 0 hs Try.underlying5 hd
  · refine run_convert_bytes_back w src dst 5 ⟨g, 0, none⟩ cap l hs Try.underlying5 hd (fun j hj => ?_)
    refine World.ownsRow.cells h (g := g) rfl j _ ?_
    simp [byteVals, hj]

theorem info_byte : (Try.prog.info? 5).map (fun i => (i.zero, i.size, i.bytes)) = some (some (.int .u8 0), 1, 1) := by kernel_rfl

theorem bytes_one (l : List UInt8) : ∀ u ∈ byteVals l, u.oneCell' = true := by
  intro u hu
  obtain ⟨b, _, rfl⟩ := List.mem_map.1 hu
  rfl

/-- append one byte to an own row of bytes -/
theorem app_byte {ops : Array Oper} {rest : List Oper} {o : Oper} {a : Act} {w : World} {Q : Exit → Act → World → Prop} (hgd : o.guard = none) (s x : Operand)
    (ho : o.op = .call { callee := .builtin .append, args := #[s, x], argTypes := #[40, 40] })
    (base : Nat) (v : Value) (es : List UInt8) (hs : a.eval s = v) (hown : OwnsBytes w base v es)
    (ad : Addr) (m c : Nat) (ds : List UInt8) (hx : a.eval x = .slice (some ad) m c) (hl : ds.length = m) (hnews : ∀ (j : Nat) (u : Value), (byteVals ds)[j]? = some u → w.cell? (ad.add j) = some u)
    (hlen : es.length + m ≤ 1000000000) (hbase : base ≤ w.heap.size)
    (h : ∀ v' w', OwnsBytes w' base v' (es ++ ds) → Keeps (blks v) w w' → (v' = .slice none 0 0 ↔ v = .slice none 0 0 ∧ m = 0) → (v'.ownBlock = v.ownBlock ∨ v'.ownBlock = some w.heap.size) → wpList Try.prog ops Q rest (a.put o.dst v') w') :
    wpList Try.prog ops Q (o :: rest) a w := by
  obtain ⟨i0, hi, hz0, hz1, hz2⟩ := info_parts info_byte
  subst hl
  refine wpList_append_own_at w hgd s x 40 ho base 5 i0 (.int .u8 0) 1 1 Try.underlying40 hi hz0 hz1 hz2 rfl (by decide) v es.length (byteVals es) hs hown ad ds.length c (byteVals ds) hx (by simp [byteVals]) hnews (bytes_one ds) (by unfold maxLen; omega) (by omega) hbase ?_
  intro v' w' h2 h3 h4 h5
  refine h v' w' ?_ (keeps_grown h3) h4 h5
  unfold OwnsBytes byteVals
  rw [List.length_append, List.map_append]
  exact h2

theorem atKey_any (k : Core) (w : World) (base b : Nat) (T : TypeId) (rest : List Value) (ov sv : Value) (h : CoreIn w base b T rest ov sv k) (hl : k.open_.length ≤ 100) (hp : ∀ c ∈ k.open_, 0 ≤ c.parts ∧ c.parts ≤ 1000000000) :
    Calls Try.prog 47 #[.pointer (some ⟨b, 0, none⟩)] w fun r w' => r = .returned (.bool k.atKey) ∧ w = w' := by
  obtain ⟨g0, g1, g2, g3, g4, g5, g6, g7⟩ := core_facts h
  obtain ⟨oo, oc, rfl⟩ := h.opn.shape
  have hopn := h.opn
  clear h
  unfold Core.atKey
  generalize k.open_ = l at g1 hopn hl hp
  cases l with
  | nil =>
    simp only [List.length_nil] at g1
    clear hopn hl hp
    go_enter Try.func47, Try.ntmps47
    go_wp2
    go_ret
    exact ⟨rfl, rfl⟩
  | cons c r =>
    obtain ⟨g, cap, he, gb, gl, gr, gm, q0, q1, q2, gf⟩ := OwnsStk.some_ hopn
    simp only [List.length_cons, Value.slice.injEq, true_and] at he
    obtain ⟨rfl, rfl⟩ := he
    simp only [List.length_cons] at *
    unfold maxLen at gm
    clear gf hopn
    have hpc := hp c (List.mem_cons_self ..)
    clear hp
    obtain ⟨pr, ct, ps⟩ := c
    simp only [] at q0 q1 q2 hpc ⊢
    cases pr with
    | false =>
      go_enter Try.func47, Try.ntmps47
      go_wp2
      go_ret
      exact ⟨rfl, rfl⟩
    | true =>
      go_enter Try.func47, Try.ntmps47
      go_wp2
      go_ret
      exact ⟨ret_bool (by rw [Bool.eq_iff_iff]; simp), rfl⟩

theorem coreFull_any (k : Core) (w : World) (base b : Nat) (T : TypeId) (rest : List Value) (ov sv : Value) (h : CoreIn w base b T rest ov sv k) :
    Calls Try.prog 50 #[.pointer (some ⟨b, 0, none⟩)] w fun r w' => r = .returned (.bool k.full) ∧ Keeps [] w w' := by
  obtain ⟨g0, g1, g2, g3, g4, g5, g6, g7⟩ := core_facts h
  obtain ⟨oo, oc, rfl⟩ := h.opn.shape
  clear h
  go_enter Try.func50, Try.ntmps50
  go_wp2_with fail
  go_quiet (fail)
  go_wp2_with fail
  go_ret
  exact ⟨rfl, (Keeps.refl _ _).drewN _⟩

theorem coreDone_any (k : Core) (w : World) (base b : Nat) (T : TypeId) (rest : List Value) (ov sv : Value) (h : CoreIn w base b T rest ov sv k) :
    Calls Try.prog 33 #[.pointer (some ⟨b, 0, none⟩)] w fun r w' => r = .returned (.bool k.done) ∧ w = w' := by
  obtain ⟨g0, g1, g2, g3, g4, g5, g6, g7⟩ := core_facts h
  clear h
  go_enter Try.func33, Try.ntmps33
  go_wp2
  go_ret
  exact ⟨rfl, rfl⟩

theorem lacks_any (k : Core) (w : World) (base b : Nat) (T : TypeId) (rest : List Value) (ov sv : Value) (h : CoreIn w base b T rest ov sv k) :
    Calls Try.prog 28 #[.pointer (some ⟨b, 0, none⟩)] w fun r w' => r = .returned (.bool (decide (0 < k.lack))) ∧ w = w' := by
  obtain ⟨g0, g1, g2, g3, g4, g5, g6, g7⟩ := core_facts h
  clear h
  go_enter Try.func28, Try.ntmps28
  go_wp2
  go_ret
  exact ⟨rfl, rfl⟩

theorem over_any (k : Core) (w : World) (base b : Nat) (T : TypeId) (rest : List Value) (ov sv : Value) (h : CoreIn w base b T rest ov sv k) :
    Calls Try.prog 38 #[.pointer (some ⟨b, 0, none⟩)] w fun r w' => r = .returned (.int .i64 k.over) ∧ w = w' := by
  obtain ⟨g0, g1, g2, g3, g4, g5, g6, g7⟩ := core_facts h
  clear h
  unfold Core.over
  by_cases he : k.e = 0
  · have he' : (k.e == 0) = true := by simp [he]
    cases hd : k.done with
    | false =>
      rw [hd] at g2
      rw [if_pos ⟨he, rfl⟩]
      clear he
      go_enter Try.func38, Try.ntmps38
      go_wp2
      go_ret
      exact ⟨rfl, rfl⟩
    | true =>
      rw [hd] at g2
      rw [if_neg (by simp)]
      clear he
      go_enter Try.func38, Try.ntmps38
      go_wp2
      go_ret
      exact ⟨rfl, rfl⟩
  · have he' : (k.e == 0) = false := by simp [he]
    rw [if_neg (fun h => he h.1)]
    clear he
    go_enter Try.func38, Try.ntmps38
    go_wp2
    go_ret
    exact ⟨rfl, rfl⟩

theorem heldCore_any (k : Core) (w : World) (base b : Nat) (T : TypeId) (rest : List Value) (ov sv : Value) (h : CoreIn w base b T rest ov sv k) (hl : k.open_.length ≤ 100) (hs : k.s.length ≤ 1000) :
    Calls Try.prog 32 #[.pointer (some ⟨b, 0, none⟩)] w fun r w' => r = .returned (.int .i64 k.held) ∧ Keeps [] w w' := by
  obtain ⟨g0, g1, g2, g3, g4, g5, g6, g7⟩ := core_facts h
  obtain ⟨oo, oc, rfl⟩ := h.opn.shape
  obtain ⟨so, sc, rfl⟩ := OwnsBytes.shape h.s
  clear h
  unfold Core.held
  by_cases he : k.e = 0
  · have he' : (k.e != 0) = false := by simp [he]
    rw [if_neg (by simp [he])]
    clear he
    go_enter Try.func32, Try.ntmps32
    go_wp2_with fail
    go_quiet (fail)
    go_wp2_with fail
    go_ret
    exact ⟨rfl, (Keeps.refl _ _).drewN _⟩
  · have he' : (k.e != 0) = true := by simp [he]
    rw [if_pos he]
    clear he
    go_enter Try.func32, Try.ntmps32
    go_wp2
    go_ret
    exact ⟨rfl, Keeps.refl _ _⟩
end Go.Proofs.Ytmcbdkhlbmhfeaa
