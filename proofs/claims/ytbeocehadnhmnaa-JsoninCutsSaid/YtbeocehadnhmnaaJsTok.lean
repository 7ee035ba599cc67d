/-
  jsonin.Parser: behind, value, token: their contracts.
-/
import Derived.Test.YtbeocehadnhmnaaJsMem
import Derived.Test.YtbeocehadnhmnaaStack
import Derived.Deep.QuietTactic
import Derived.Deep.RegionWith
import Derived.Deep.RegionLaw
namespace Go.Proofs.Ytbeocehadnhmnaa
open Go.RowKit Go.Tru

theorem behind_js (base b : Nat) (mv : Value) (p : Js) (F : List Nat) (w : World) (h : JsIn w base b mv p F) :
    Calls Try.prog 52 #[.pointer (some ⟨b, 0, none⟩)] w fun e w' => e = .returned (.tuple #[]) ∧ JsIn w' base b mv p.behind F ∧ Keeps [b] w w' := by
  obtain ⟨g23, g24, g25, g26, hlt, hbm⟩ := js_facts h
  obtain ⟨f24, f25, f26⟩ := js_free h
  obtain ⟨o, c, hmv⟩ := h.maps.shape
  have H := Lib.hid h
  by_cases hm : p.maps = []
  · have hp : p.behind = { p with next := 6 } := by unfold Js.behind; rw [if_pos hm]
    rw [hp]
    have hz : p.maps.length = 0 := by rw [hm]; rfl
    rw [hz] at hmv
    subst hmv
    clear h hp hm hz
    go_enter Try.func52, Try.ntmps52
    go_wp2_with fail
    go_end0
    exact ⟨rfl, (H.out.setNext 5).setNext 6, ((Keeps.refl _ _).set1 _).set1 _⟩
  · have hp : p.behind = { p with next := 5 } := by unfold Js.behind; rw [if_neg hm]
    rw [hp]
    obtain ⟨n, hn⟩ : ∃ n : Nat, p.maps.length = n := ⟨_, rfl⟩
    have hz : ((n : Int) == 0) = false := by
      rw [beq_eq_false_iff_ne]
      intro h0
      exact hm (List.length_eq_zero_iff.1 (by omega))
    rw [hn] at hmv
    subst hmv
    clear h hp hm hn
    go_enter Try.func52, Try.ntmps52
    go_wp2_with fail
    go_end0
    exact ⟨rfl, H.out.setNext 5, (Keeps.refl _ _).set1 _⟩

/-- what token and value leave -/
def TokLeft (w : World) (base b : Nat) (mv : Value) (F : List Nat) (r : Option Ev × Js) (e : Ending) (w' : World) : Prop :=
  e = .returned (optVal r.1) ∧ JsLeft w base b mv F r.2 w'

theorem keepsB {F : List Nat} {mv : Value} {b : Nat} {w w' : World} (hb : b ∈ F ++ blks mv) (k : Keeps [b] w w') : Keeps (F ++ blks mv) w w' := k.mono (by simpa using hb)

set_option maxHeartbeats 2000000 in
set_option maxRecDepth 100000 in
theorem value_plain (base b : Nat) (mv : Value) (p : Js) (F : List Nat) (t : Tok) (w : World) (h : JsIn w base b mv p F) (hk : t.kind = 115 ∨ t.kind = 110 ∨ t.kind = 116 ∨ t.kind = 102 ∨ t.kind = 48) :
    Calls Try.prog 53 #[.pointer (some ⟨b, 0, none⟩), tokVal t] w fun e w' => TokLeft w base b mv F (p.value t) e w' := by
  obtain ⟨kind, text, neg, mag⟩ := t
  have H := Lib.hid h
  have hself := js_self h
  have hbeh := fun W hW => behind_js base b mv p F W hW
  clear h
  simp only at hk
  simp only [tokVal, Tok.cells]
  rcases hk with rfl | rfl | rfl | rfl | rfl
  all_goals
    go_enter Try.func53, Try.ntmps53
    go_wp2_with fail
    refine (hbeh _ (H.out.keep0 ((Keeps.refl _ _).alloc _))).mono ?_
    rintro e w1 ⟨rfl, h1, k1⟩
    have H1 := Lib.hid h1
    have K1 := Lib.hid (((Keeps.refl (F ++ blks mv) w).alloc (.cells #[.int .u8 _, .string text, .bool neg, .int .u64 mag] 113)).trans (keepsB hself k1))
    clear h1 k1
    go_wp2_with fail
    go_ret2
    exact ⟨rfl, jsLeft_same H1.out K1.out⟩

theorem info_bool : (Try.prog.info? 4).map (fun i => (i.zero, i.size, i.bytes)) = some (some (.bool false), 1, 1) := by kernel_rfl

theorem mem_left {F : List Nat} {v v' : Value} {n : Nat} (h : ∀ i, i ∈ blks v' → i ∈ blks v ∨ n ≤ i) : ∀ i ∈ F ++ blks v', i ∈ F ++ blks v ∨ n ≤ i := by
  intro i hi
  rcases List.mem_append.1 hi with h1 | h1
  · exact Or.inl (List.mem_append_left _ h1)
  · rcases h i h1 with h2 | h2
    · exact Or.inl (List.mem_append_right _ h2)
    · exact Or.inr h2

/-- append of one container, within a region that draws its order -/
theorem wp_append_maps {o : Oper} {a : Act} {w : World} {K : Act → World → Prop} {Q : Exit → Act → World → Prop} (s x : Operand)
    (ho : o.op = .call { callee := .builtin .append, args := #[s, x], argTypes := #[82, 82] })
    (base : Nat) (v : Value) (l : List Bool) (hs : a.eval s = v) (hown : OwnsMaps w base v l) (ad : Addr) (m : Bool) (hx : a.eval x = .slice (some ad) 1 1)
    (hnews : ∀ (j : Nat) (u : Value), [Value.bool m][j]? = some u → w.cell? (ad.add j) = some u) (hlen : l.length ≤ 1000000) (hbase : base ≤ w.heap.size)
    (h : ∀ v' w', OwnsMaps w' base v' (m :: l) → Keeps (blks v) w w' → (v'.ownBlock = v.ownBlock ∨ v'.ownBlock = some w.heap.size) → K (a.put o.dst v') w') : Oper.wp Try.prog o a w K Q := by
  obtain ⟨i0, hi, hz0, hz1, hz2⟩ := info_parts info_bool
  obtain ⟨v', w', hr, h2, h3, _, h5⟩ := run_append_own_at (P := Try.prog) w base 82 o.type 4 i0 (.bool false) 1 1 Try.underlying82 hi hz0 hz1 hz2 rfl (by decide) v l.length (l.reverse.map Value.bool) hown ad 1 1 [.bool m] rfl hnews (by intro u hu; simp at hu; subst hu; rfl) (by unfold maxLen; omega) (by omega) hbase
  unfold Oper.wp execOp
  simp only [ho, resolve, invoke, builtin, Sem.run_bind, Sem.run_pure, Result.andThen_ok, List.map_toArray, List.map_cons, List.map_nil, hs, hx, hr]
  refine h v' w' ?_ (keeps_grown h3) h5
  unfold OwnsMaps
  rw [mapsCells_cons]
  exact h2

theorem new_bool (m : Bool) {w : World} {t : TypeId} {g : Nat} (hg : g = w.heap.size) : ∀ (j : Nat) (u : Value), [Value.bool m][j]? = some u → (w.alloc (.cells #[.bool m] t)).cell? ((⟨g, 0, none⟩ : Addr).add j) = some u :=
  cells_new [Value.bool m] hg

set_option maxHeartbeats 2000000 in
set_option maxRecDepth 100000 in
theorem value_deep (base b : Nat) (mv : Value) (p : Js) (F : List Nat) (t : Tok) (w : World) (h : JsIn w base b mv p F) (hk : t.kind = 91 ∨ t.kind = 123) (hd : (p.maps.length : Int) = p.depth) :
    Calls Try.prog 53 #[.pointer (some ⟨b, 0, none⟩), tokVal t] w fun e w' => TokLeft w base b mv F (p.value t) e w' := by
  have hv : p.value t = p.fail 4 := by unfold Js.value; rw [if_pos hk, if_pos hd]
  rw [hv]
  obtain ⟨kind, text, neg, mag⟩ := t
  have hself := js_self h
  obtain ⟨o, c, hmv⟩ := h.maps.shape
  obtain ⟨n, hn⟩ : ∃ n : Nat, p.maps.length = n := ⟨_, rfl⟩
  rw [hn] at hmv hd
  subst hmv
  have hA := h.keep0 (((Keeps.refl [] w).alloc (.cells #[.int .u8 kind, .string text, .bool neg, .int .u64 mag] 113)))
  obtain ⟨g23, g24, g25, g26, hlt, hbm⟩ := js_facts hA
  obtain ⟨f24, f25, f26⟩ := js_free hA
  rw [← hd] at g23
  have H := Lib.hid hA
  clear h hv hn hd hA
  simp only at hk
  simp only [tokVal, Tok.cells]
  rcases hk with rfl | rfl
  all_goals
    go_enter Try.func53, Try.ntmps53
    go_wp2_with fail
    go_region
    all_goals
      go_wp2_with fail
      go_ret2
      exact ⟨rfl, jsLeft_same ((H.out.keep0 (Keeps.refl [] _).drew).setE 4) ((((Keeps.refl _ _).alloc _).drew).setCell (Or.inl hself) _)⟩

set_option maxHeartbeats 2000000 in
set_option maxRecDepth 100000 in
theorem value_open (base b : Nat) (mv : Value) (p : Js) (F : List Nat) (t : Tok) (w : World) (h : JsIn w base b mv p F) (hf : p.Fit) (hbase : base ≤ w.heap.size) (hk : t.kind = 91 ∨ t.kind = 123) (hd : ¬ (p.maps.length : Int) = p.depth) :
    Calls Try.prog 53 #[.pointer (some ⟨b, 0, none⟩), tokVal t] w fun e w' => TokLeft w base b mv F (p.value t) e w' := by
  have hv : p.value t = (some (if t.kind = 123 then evMap (-1) else evArr (-1)), { p with maps := decide (t.kind = 123) :: p.maps, next := if t.kind = 123 then 2 else 1 }) := by unfold Js.value; rw [if_pos hk, if_neg hd]
  rw [hv]
  obtain ⟨kind, text, neg, mag⟩ := t
  have hself := js_self h
  obtain ⟨o, c, hmv⟩ := h.maps.shape
  obtain ⟨n, hn⟩ : ∃ n : Nat, p.maps.length = n := ⟨_, rfl⟩
  have hn16 : n ≤ 16 := by have := hf.maps; have := hf.depth; omega
  have hA := h.keep0 (((Keeps.refl [] w).alloc (.cells #[.int .u8 kind, .string text, .bool neg, .int .u64 mag] 113)))
  obtain ⟨d, hdd⟩ : ∃ d, p.depth = d := ⟨_, rfl⟩
  have hne : ((n : Int) == d) = false := by rw [beq_eq_false_iff_ne, ← hdd, ← hn]; exact hd
  rw [hn] at hmv
  subst hmv
  obtain ⟨g23, g24, g25, g26, hlt, hbm⟩ := js_facts hA
  obtain ⟨f24, f25, f26⟩ := js_free hA
  rw [hdd] at g23
  have H := Lib.hid hA
  have HT := Lib.hid (show (w.alloc (.cells #[.int .u8 kind, .string text, .bool neg, .int .u64 mag] 113)).cell? ⟨w.heap.size, 0, none⟩ = some (.int .u8 kind) from (Has.new' w #[.int .u8 kind, .string text, .bool neg, .int .u64 mag] 113 rfl).cell 0)
  have HBK := Lib.hid (fun i hi => (World.ownsRow.lt h.maps i hi).2 : ∀ i, (Value.slice o n c).ownBlock = some i → i < w.heap.size)
  have HN := Lib.hid hn
  clear h hv hn hd hA hdd hf
  simp only at hk
  simp only [tokVal, Tok.cells]
  rcases hk with rfl | rfl
  all_goals
    go_enter Try.func53, Try.ntmps53
    go_wp2_with fail
    go_region
    all_goals
      go_wp2_with fail
      have HX := Lib.hid (H.out.keep0 (Keeps.refl [] _).drew)
      have hb1 : b < w.heap.size + 1 := by simpa using hlt
      have hb2 : b < w.heap.size + 1 + 1 := by omega
      go_region_law (rw [if_pos (by rfl)]; refine wp_append_maps _ _ rfl base (.slice o n c) p.maps rfl (ownsRow_keeps HX.out.maps (((Keeps.refl [] _).drew).alloc _) (by simp)) ⟨_, 0, none⟩ _ rfl (new_bool _ (by simp)) (by have := HN.out; omega) (by simp; omega) ?_; intro v9 w9 hown9 hk9 hb9; obtain ⟨o9, c9, hv9⟩ := hown9.shape; have hl9 := HX.out.lex.keeps ((((Keeps.refl _ _).drew).alloc _).trans hk9) HX.out.apart; have h9 := JsIn.setMaps HX.out ((((Keeps.refl _ _).drew).alloc _).trans hk9) hown9 (fun i hi => (mem_blks.1 hi |> fun hi => hb9.elim (fun h1 => Or.inl (mem_blks.2 (h1 ▸ hi))) (fun h1 => Or.inr (by rw [h1] at hi; injection hi with hi; rw [← hi]; simp)))); obtain ⟨g23, g24, g25, g26, hlt9, f24, f25, f26⟩ := js_cells hl9;  have HB9 := Lib.hid (show ∀ i, i ∈ blks v9 → i ∈ blks (.slice o n c) ∨ w.heap.size ≤ i from fun i hi => hb9.elim (fun h1 => Or.inl (mem_blks.2 (h1 ▸ mem_blks.1 hi))) (fun h1 => Or.inr (by have hi := mem_blks.1 hi; rw [h1] at hi; injection hi with hi; rw [← hi]; first | (simp; done) | (simp; omega)))); have H9 := Lib.hid h9; have HK9 := Lib.hid hk9; subst hv9; clear h9 hl9 hown9 hk9 hb9)
      all_goals
        have hk0 : Keeps (blks (.slice o n c)) (w.alloc (.cells #[.int .u8 _, .string text, .bool neg, .int .u64 mag] 113)) w9 := (((Keeps.refl _ _).alloc _).drew.drew).trans HK9.out
        have gt9 := hk0.cell HT.out (fun hm => Nat.lt_irrefl _ (HBK.out _ (mem_blks.1 hm)))
        go_wp2_with fail
        go_ret2
        have HKall := (((Keeps.refl (F ++ blks (.slice o n c)) w).alloc (.cells #[.int .u8 _, .string text, .bool neg, .int .u64 mag] 113)).trans (hk0.mono (fun i hi => List.mem_append_right _ hi)))
        first
          | exact ⟨rfl, _, F, H9.out.setNext 1, (HKall.setCell (Or.inl hself) _).setCell (Or.inl hself) _, mem_left HB9.out⟩
          | exact ⟨rfl, _, F, (H9.out.setNext 1).setNext 2, ((HKall.setCell (Or.inl hself) _).setCell (Or.inl hself) _).setCell (Or.inl hself) _, mem_left HB9.out⟩

end Go.Proofs.Ytbeocehadnhmnaa
