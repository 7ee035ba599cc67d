/-
  jsonin.Parser: New, Step, End: their contracts.
-/
import Derived.Test.YtbeocehadnhmnaaJsParts
namespace Go.Proofs.Ytbeocehadnhmnaa
open Go.RowKit Go.Tru

theorem js_after {w w1 : World} {base b : Nat} {mv : Value} {p : Js} {F F' : List Nat} {L' : Lex} (h : JsIn w base b mv p F) (h1 : LexIn w1 base b (jsPost p mv) 84 L' F') (k : Keeps F w w1) (hs : ∀ i ∈ F', i ∈ F ∨ w.heap.size ≤ i) : JsIn w1 base b mv { p with l := L' } F' := by
  refine ⟨h1, ownsRow_keeps h.maps k (fun i hi hm => h.apart i hm (mem_blks.2 hi)), fun i hi hm => ?_⟩
  rcases hs i hi with h2 | h2
  · exact h.apart i h2 hm
  · have := (World.ownsRow.lt h.maps i (mem_blks.1 hm)).2
    omega

/-- .. and the tokens lie apart -/
theorem js_toks_apart {w w1 : World} {base b : Nat} {mv v : Value} {p : Js} {F F' : List Nat} {l : List Tok} (h : JsIn w base b mv p F) (ho : ToksOut w1 w.heap.size v l) (hd : ∀ i ∈ F', i ∉ blks v) : ∀ i ∈ blks v, i ∉ F' ++ blks mv := by
  intro i hi hm
  rcases List.mem_append.1 hm with h1 | h1
  · exact hd i h1 hi
  · have h2 := (World.ownsRow.lt h.maps i (mem_blks.1 h1)).2
    have h3 := (World.ownsRow.lt ho.1 i (mem_blks.1 hi)).1
    omega

theorem PartsPost.before {w w1 w' : World} {base b : Nat} {mv : Value} {F F' : List Nat} {r : List Ev × Js} {e : Ending} (k : Keeps F w w1) (hs : ∀ i ∈ F', i ∈ F ∨ w.heap.size ≤ i) (h : PartsPost w1 base b mv F' r e w') : PartsPost w base b mv F r e w' := by
  obtain ⟨v, mv', F2, h1, h2, h3, h4, h5, h6⟩ := h
  have hs' : ∀ i ∈ F' ++ blks mv, i ∈ F ++ blks mv ∨ w.heap.size ≤ i := fun i hi => by
    rcases List.mem_append.1 hi with h | h
    · rcases hs i h with h | h
      · exact Or.inl (List.mem_append_left _ h)
      · exact Or.inr h
    · exact Or.inl (List.mem_append_right _ h)
  refine ⟨v, mv', F2, h1, ownsRow_base h2 k.size, h3, (k.mono (fun i hi => List.mem_append_left _ hi)).trans' h4 hs', fun i hi => ?_, h6⟩
  rcases h5 i hi with h | h
  · exact hs' i h
  · exact Or.inr (Nat.le_trans k.size h)

theorem partsNone {w w' : World} {base b : Nat} {mv : Value} {F : List Nat} {p : Js} {e : Ending} (he : e = .returned (.tuple #[.slice none 0 0, .int .i64 p.e])) (h : JsIn w' base b mv p F) (k : Keeps (F ++ blks mv) w w') : PartsPost w base b mv F ([], p) e w' :=
  ⟨_, mv, F, he, OwnsAny.nil _ _, h, k, fun _ hi => Or.inl hi, by simp [blks_nil]⟩

set_option maxHeartbeats 1000000 in
theorem js_step (base b : Nat) (mv : Value) (p : Js) (F : List Nat) (x : Int) (w : World) (h : JsIn w base b mv p F) (hf : p.Fit) (hbase : base ≤ w.heap.size) (hx : 0 ≤ x) (hx2 : x ≤ 255) :
    Calls Try.prog 16 #[.pointer (some ⟨b, 0, none⟩), .int .u8 x] w fun r w' => PartsPost w base b mv F (p.step x) r w' := by
  obtain ⟨g23, g24, g25, g26, hlt, hbm⟩ := js_facts h
  have H := Lib.hid h
  by_cases he : p.e = 0
  · have hs : p.step x = Js.parts { p with l := (p.l.step x).1 } (p.l.step x).2 (p.l.step x).1.e := by unfold Js.step; rw [if_neg (by simp [he])]
    rw [hs]
    rw [he] at g26
    have HL := Lib.hid (lex_step base b (jsPost p mv) 84 p.l x F w h.lex jsT hx hx2 hbase hf.l.1)
    have hlen := Lex.len_step p.l x
    have hfit : ({ p with l := (p.l.step x).1 } : Js).Fit := ⟨⟨Lex.fit_step hf.l.1 hf.l.2 x, Lex.mid_step hf.l.2 x⟩, hf.depth, hf.maps, hf.next, hf.more⟩
    obtain ⟨L', ts, hr⟩ : ∃ L' ts, p.l.step x = (L', ts) := ⟨_, _, rfl⟩
    rw [hr] at HL hlen hfit ⊢
    obtain ⟨le, hle⟩ : ∃ le, L'.e = le := ⟨_, rfl⟩
    simp only at hlen hfit ⊢
    rw [hle]
    have hpa := fun W mv1 F1 tv B => parts_any base b mv1 { p with l := L' } F1 tv ts B le W
    have HPA := Lib.hid hpa
    have HFIT := Lib.hid hfit
    have HLEN := Lib.hid hlen
    have HLE := Lib.hid hle
    have HPE := Lib.hid he
    clear h hf hs hr he hpa hfit hlen hle
    go_enter Try.func16, Try.ntmps16
    go_wp2_with fail
    refine HL.out.mono ?_
    rintro e w1 ⟨v, F1, rfl, hto, hli, hk, hsub, hap⟩
    simp only [HLE.out, ToksVal]
    have hj := js_after H.out hli hk hsub
    have hta := js_toks_apart H.out hto hap
    have hz := hk.size
    have hpc := HPA.out w1 mv F1 v w.heap.size hj HFIT.out HPE.out (by omega) hto (by have := HLEN.out; omega) hta
    have HK := Lib.hid hk
    have HSUB := Lib.hid hsub
    have HPC := Lib.hid hpc
    clear hto hli hk hsub hap hj hta hpc
    go_wp2_with fail
    refine HPC.out.mono ?_
    rintro e w2 ⟨v2, mv2, F2, rfl, h2, h3, h4, h5, h6⟩
    have HP := Lib.hid (PartsPost.before (F := F) (r := Js.parts { p with l := L' } ts le) (e := .returned (.tuple #[v2, .int .i64 (Js.parts { p with l := L' } ts le).2.e])) HK.out HSUB.out ⟨v2, mv2, F2, rfl, h2, h3, h4, h5, h6⟩)
    clear h2 h3 h4 h5 h6
    go_wp2_with fail
    go_ret2
    exact HP.out
  · have hs : p.step x = ([], p) := by unfold Js.step; rw [if_pos he]
    rw [hs]
    have he' : (p.e != 0) = true := by simp [he]
    clear h hf hs he
    go_enter Try.func16, Try.ntmps16
    go_wp2_with fail
    go_region
    all_goals
      go_wp2_with fail
      go_ret2
      exact partsNone rfl (H.out.keep0 (Keeps.refl _ _).drew) (Keeps.refl _ _).drew

end Go.Proofs.Ytbeocehadnhmnaa
