/-
  cborin.Core's Fail, Value: their contracts.
-/
import Derived.Test.YtmcbdkhlbmhfeaaCoreMem
import Derived.Deep.QuietTactic
import Derived.BigQuiet
import Derived.Deep.RegionWith
import Derived.WalkLawsBesides
namespace Go.Tru
def slen : Value → Nat
  | .slice _ n _ => n
  | _ => 0

theorem ownsRow_lit {w : World} {base g n : Nat} {e : TypeId} {size : Nat} {xs : List Value} (h : Has w g xs e) (hb : base ≤ g) (hl : xs.length = n * size) (hn : n ≤ maxLen) : w.ownsRow base e size (.slice (some ⟨g, 0, none⟩) n n) n xs :=
  ⟨hl, Or.inr ⟨g, n, xs.toArray, rfl, hb, h, Nat.le_refl _, hn, by simp [hl], by simp [← hl]⟩⟩

theorem lit_part {p : Ev} {pv : Value} (hpv : p.part = pv) {w : World} {base g : Nat} (hg : g = w.heap.size) (hb : base ≤ g) : OwnsAny (w.alloc (.cells #[pv] 20)) base (.slice (some ⟨g, 0, none⟩) 1 1) [p] := by
  subst hpv hg
  exact ownsRow_lit (Has.new w ([p].map Ev.part) 20) hb rfl (by simp [maxLen])

theorem new_part {p : Ev} {pv : Value} (hpv : p.part = pv) {w : World} {t : TypeId} {g : Nat} (hg : g = w.heap.size) : ∀ (j : Nat) (u : Value), ([p].map Ev.part)[j]? = some u → (w.alloc (.cells #[pv] t)).cell? ((⟨g, 0, none⟩ : Addr).add j) = some u := by
  subst hpv
  exact cells_new ([p].map Ev.part) hg
end Go.Tru
namespace Go.Proofs.Ytmcbdkhlbmhfeaa
open Go.RowKit Go.Tru

theorem part_form (p : Ev) : p.part = .nilIface ∨ ∃ T v, p.part = .iface T v := by
  unfold Ev.part
  repeat' split
  all_goals first | exact Or.inl rfl | exact Or.inr ⟨_, _, rfl⟩

theorem met_any (c : Cont) (w : World) (h : 0 ≤ c.parts) (h2 : c.parts ≤ 4611686018427387904) :
    Calls Try.prog 54 #[c.val] w fun r w' => r = .returned (.bool c.met) ∧ Keeps [] w w' := by
  obtain ⟨p, n, k⟩ := c
  simp only [Cont.val, Cont.cells] at *
  cases p
  · go_enter Try.func54, Try.ntmps54
    go_wp2
    go_ret
    exact ⟨ret_bool (by rw [Bool.eq_iff_iff]; simp [Cont.met]), (Keeps.refl _ _).alloc _⟩
  · have hk : (k % 2 == 0) = true ∨ (k % 2 == 0) = false := by cases (k % 2 == 0) <;> simp
    rcases hk with hk | hk
    all_goals
      go_enter Try.func54, Try.ntmps54
      go_wp2
      go_ret
      refine ⟨ret_bool ?_, (Keeps.refl _ _).alloc _⟩
      simp only [beq_iff_eq, beq_eq_false_iff_ne, ne_eq] at hk
      rw [Bool.eq_iff_iff]; simp [Cont.met, hk]

theorem fail_any (e : Int) (k : Core) (w : World) (base b : Nat) (T : TypeId) (rest : List Value) (ov sv : Value) (h : CoreIn w base b T rest ov sv k) :
    Calls Try.prog 42 #[.pointer (some ⟨b, 0, none⟩), .int .i64 e] w fun r w' => r = .returned (.slice none 0 0) ∧ w' = w.setCell ⟨b, 3, none⟩ (.int .i64 e) := by
  obtain ⟨f1, f2, f3, f4, f5, f6, f7, hbl⟩ := core_free h
  obtain ⟨g0, g1, g2, g3, g4, g5, g6, g7⟩ := core_facts h
  clear h
  go_enter Try.func42, Try.ntmps42
  go_wp2
  go_ret
  exact ⟨rfl, rfl⟩

/-- what a method of the Core gives: its parts, and what it leaves -/
def CoreGives (w : World) (base b : Nat) (T : TypeId) (rest : List Value) (ov sv : Value) (t : List Ev × Core) (r : Ending) (w' : World) : Prop :=
  ∃ v, r = .returned v ∧ OwnsAny w' w.heap.size v t.1 ∧ CorePost w base b T rest ov sv t.2 w'

theorem fail_gives (e : Int) (k : Core) (w : World) (base b : Nat) (T : TypeId) (rest : List Value) (ov sv : Value) (h : CoreIn w base b T rest ov sv k) :
    Calls Try.prog 42 #[.pointer (some ⟨b, 0, none⟩), .int .i64 e] w (CoreGives w base b T rest ov sv (k.fail e)) := by
  refine (fail_any e k w base b T rest ov sv h).mono ?_
  rintro r w' ⟨rfl, rfl⟩
  exact ⟨_, rfl, OwnsAny.nil _ _, CorePost.same (h.put (by omega) rfl rfl rfl) ((Keeps.refl _ _).setIn (coBlks_self _ _ _) _)⟩

def ValRel (N : Int) (w : World) (base b : Nat) (T : TypeId) (rest : List Value) (ov sv : Value) (k : Core) (p : Ev) (v : Value) (wr : World) : Prop :=
  ∃ (es : List Ev) (l : List Cont) (o' : Option Addr) (c' : Nat), OwnsAny wr w.heap.size v (p :: es) ∧ CoreIn wr base b T rest (.slice o' l.length c') sv { k with open_ := l } ∧ (Value.slice o' l.length c').ownBlock = ov.ownBlock ∧
    closeUp k.open_ = (es ++ (closeUp l).1, (closeUp l).2) ∧ Keeps (coBlks b ov sv) w wr ∧ es.length + l.length = k.open_.length ∧ ∀ c ∈ l, 0 ≤ c.parts ∧ c.parts ≤ N

set_option maxHeartbeats 1600000 in
set_option maxRecDepth 100000 in
theorem value_any (N : Int) (hN : N ≤ 1000000000) (k : Core) (p : Ev) (w : World) (base b : Nat) (T : TypeId) (rest : List Value) (ov sv : Value) (h : CoreIn w base b T rest ov sv k) (hl : k.open_.length ≤ 100) (hp : ∀ c ∈ k.open_, 0 ≤ c.parts ∧ c.parts ≤ N) :
    Calls Try.prog 44 #[.pointer (some ⟨b, 0, none⟩), p.part] w (CoreGives w base b T rest ov sv (k.value p)) := by
  obtain ⟨oo, oc, rfl⟩ := h.opn.shape
  have H := Lib.hid h
  have HP := Lib.hid hp
  have hform := part_form p
  obtain ⟨pv, hpv⟩ : ∃ pv, p.part = pv := ⟨_, rfl⟩
  rw [hpv] at hform ⊢
  have HPV := Lib.hid hpv
  clear h hp hpv
  rcases hform with rfl | ⟨T', v', rfl⟩
  all_goals
    go_enter Try.func44, Try.ntmps44
    go_wp2_with fail
    go_loopw [5] (fun v wr => ValRel N w base b T rest (.slice oo k.open_.length oc) sv k p v wr) (fun v _ => k.open_.length + 1 - slen v)
    case atStart =>
      exact ⟨[], k.open_, oo, oc, lit_part HPV.out rfl (Nat.le_refl _), H.out.keep0 ((Keeps.refl _ _).alloc _), rfl, by simp, (Keeps.refl _ _).alloc _, by simp, HP.out⟩
    case round =>
      obtain ⟨es, l, o', c', hown, hcore, hblk, hclose, hK, hlen, hparts⟩ := hrel
      have hovlt : ∀ i, (Value.slice oo k.open_.length oc).ownBlock = some i → i < w.heap.size := fun i hi => (World.ownsRow.lt H.out.opn i hi).2
      have hblt := H.out.blk.lt
      obtain ⟨a5, c5, rfl⟩ := hown.shape
      obtain ⟨g0, g1, g2, g3, g4, g5, g6, g7⟩ := core_facts hcore
      obtain ⟨f1, f2, f3, f4, f5, f6, f7, hbl⟩ := core_free hcore
      simp only [] at g0 g1 g2 g3 g4 g5 g6 g7
      have hzw := hK.size
      have HOWN := Lib.hid hown
      have HC := Lib.hid hcore
      have HK := Lib.hid hK
      have HCL := Lib.hid hclose
      have HB := Lib.hid hblk
      have hfresh : ∀ i ∈ blks (.slice a5 (p :: es).length c5), w.heap.size ≤ i := fun i hi => (World.ownsRow.lt HOWN.out i (mem_blks.1 hi)).1
      have HFR := Lib.hid hfresh
      have HOV := Lib.hid hovlt
      clear hown hcore hK hclose hblk hfresh hovlt
      cases l with
      | nil =>
        simp only [List.length_nil] at g1
        go_wp2_with fail
        go_ret
        have hval : k.value p = (p :: es, { k with open_ := [], done := true }) := by
          unfold Core.value
          rw [HCL.out]
          simp [closeUp]
        rw [hval]
        refine ⟨_, rfl, ownsRow_keeps HOWN.out ((Keeps.refl [b] _).set1 _) (fun i hi hm => by have := HFR.out i (mem_blks.2 hi); rw [List.mem_singleton] at hm; omega), ⟨_, _, HC.out.put (i := 2) (by omega) rfl rfl rfl, HK.out.setIn (coBlks_self _ _ _) _, fun i hi => Or.inl ?_⟩⟩
        rcases List.mem_cons.1 hi with rfl | hi
        · exact coBlks_self _ _ _
        · rcases List.mem_append.1 hi with hi | hi
          · exact coBlks_ov (by rw [mem_blks, ← HB.out]; exact mem_blks.1 hi)
          · exact coBlks_sv hi
      | cons c r =>
        obtain ⟨g, cap, he, gb, gl, gr, gm, q0, q1, q2, gf⟩ := OwnsStk.some_ HC.out.opn
        simp only [List.length_cons, Value.slice.injEq, true_and] at he
        obtain ⟨rfl, rfl⟩ := he
        simp only [List.length_cons] at *
        have hcp := hparts c (List.mem_cons_self ..)
        have hpr : ∀ x ∈ r, 0 ≤ x.parts ∧ x.parts ≤ N := fun x hx => hparts x (List.mem_cons_of_mem _ hx)
        have HPR := Lib.hid hpr
        have hgw : g < w.heap.size := HOV.out g (by rw [← HB.out]; rfl)
        have gf2 := gf (r.length * 3 + 2)
        unfold maxLen at gm
        have hbg : b ≠ g := fun e => HC.out.bo (by rw [mem_blks, e]; rfl)
        clear hparts hpr gf
        go_wp2_with fail
        obtain ⟨w2, hw2⟩ : ∃ w2, wr.setCell ⟨g, r.length * 3 + 2, none⟩ (.int .i64 (c.parts + 1)) = w2 := ⟨_, rfl⟩
        have hbump := CoreIn.bump HC.out rfl (c.parts + 1)
        have k12 : Keeps [g] wr w2 := by rw [← hw2]; exact (Keeps.refl _ _).set1 _
        rw [hw2] at hbump ⊢
        have hown2 := ownsRow_keeps HOWN.out k12 (fun i hi hm => by have := HFR.out i (mem_blks.2 hi); rw [List.mem_singleton] at hm; omega)
        have hK2 : Keeps (coBlks b (.slice oo k.open_.length oc) sv) w w2 := HK.out.trans (k12.mono (fun i hi => coBlks_ov (by rw [List.mem_singleton] at hi; rw [hi, mem_blks, ← HB.out]; rfl)))
        clear hw2 k12 g0 g1 g2 g3 g4 g5 g6 g7 f1 f2 f3 f4 f5 f6 f7 q0 q1 q2 gf2
        have hmet := met_any { c with parts := c.parts + 1 } w2 (by simp only []; omega) (by simp only []; omega)
        simp only [Cont.val, Cont.cells] at hmet
        refine hmet.mono ?_
        clear hmet
        rintro e w3 ⟨rfl, k3⟩
        have HC3 := Lib.hid (hbump.keep0 k3)
        have HOWN3 := Lib.hid (ownsRow_keeps hown2 k3 (by simp))
        have HK3 := Lib.hid (hK2.trans (k3.mono (by simp)))
        have hz3 := HK3.out.size
        obtain ⟨g0, g1, g2, g3, g4, g5, g6, g7⟩ := core_facts HC3.out
        obtain ⟨f1, f2, f3, f4, f5, f6, f7, hbl3⟩ := core_free HC3.out
        simp only [] at g0 g1 g2 g3 g4 g5 g6 g7
        obtain ⟨g', cap', he, gb', gl', gr', gm', q0, q1, q2, gf'⟩ := OwnsStk.some_ HC3.out.opn
        simp only [Value.slice.injEq, Option.some.injEq, Addr.mk.injEq, and_true, true_and] at he
        obtain ⟨rfl, rfl⟩ := he
        clear hbump hown2 hK2 k3 gb' gr' gm' gf'
        cases hm : ({ c with parts := c.parts + 1 } : Cont).met with
        | false =>
          have HM := Lib.hid hm
          clear hm
          go_wp2_with fail
          go_ret
          have hval : k.value p = (p :: es, { k with open_ := { c with parts := c.parts + 1 } :: r }) := by
            unfold Core.value
            rw [HCL.out]
            unfold closeUp
            simp [HM.out]
          rw [hval]
          refine ⟨_, rfl, HOWN3.out, ⟨_, _, HC3.out, HK3.out, fun i hi => Or.inl ?_⟩⟩
          rcases List.mem_cons.1 hi with rfl | hi
          · exact coBlks_self _ _ _
          · rcases List.mem_append.1 hi with hi | hi
            · exact coBlks_ov (by rw [mem_blks, ← HB.out]; exact mem_blks.1 hi)
            · exact coBlks_sv hi
        | true =>
          have HM := Lib.hid hm
          have HPOP := Lib.hid (OwnsStk.pop HC3.out.opn)
          clear hm
          have hset := CoreIn.setOpn HC3.out HPOP.out (Keeps.refl _ _) (Or.inl rfl)
          have HSET := Lib.hid hset
          have hown4 := ownsRow_keeps HOWN3.out (((Keeps.refl [b] w3).set1 (i := 1) (.slice (some ⟨g, 0, none⟩) r.length c')).alloc (.cells #[.iface 86 (.agg #[])] 20)) (fun i hi hm => by have := HFR.out i (mem_blks.2 hi); rw [List.mem_singleton] at hm; omega)
          have HOWN4 := Lib.hid hown4
          clear hset hown4
          go_wp2_with (at_builtin; go_must (refine app_any rfl _ _ rfl w.heap.size _ (p :: es) rfl HOWN4.out ⟨_, 0, none⟩ 1 1 [evEnd] rfl rfl (new_part part_end (by simp)) (by simp only [List.length_cons]; omega) (by simp; omega) ?_))
          intro v5 w5 hown5 hk5 _ hb5
          obtain ⟨a6, c6, rfl⟩ := hown5.shape
          have k45 : Keeps (blks (.slice a5 (p :: es).length c5)) (w3.setCell ⟨b, 1, none⟩ (.slice (some ⟨g, 0, none⟩) r.length c')) w5 := ((Keeps.refl _ _).alloc _).trans hk5
          have HC5 := Lib.hid (HSET.out.1.keeps k45 (fun i hi hm => by
            have h1 := HFR.out i hm
            rcases List.mem_cons.1 hi with rfl | hi
            · omega
            · rcases List.mem_append.1 hi with hi | hi
              · rw [mem_blks] at hi; simp only [Value.ownBlock, Option.some.injEq] at hi; omega
              · have := (World.ownsRow.lt H.out.s i (mem_blks.1 hi)).2; omega))
          have HK5 := Lib.hid ((HK3.out.setIn (coBlks_self _ _ _) _).trans' k45 (fun i hi => Or.inr (HFR.out i hi)))
          have HOWN5 := Lib.hid hown5
          clear hown5 hk5 hb5 k45
          go_wp2_with fail
          go_roundw
          case rel =>
            refine ⟨es ++ [evEnd], r, _, _, HOWN5.out, HC5.out, HB.out, ?_, HK5.out, by simp; omega, HPR.out⟩
            rw [HCL.out]
            conv => lhs; unfold closeUp
            simp [HM.out]
          case measure => simp [slen]; omega
end Go.Proofs.Ytmcbdkhlbmhfeaa
