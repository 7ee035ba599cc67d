/-
  jsonin.Parser: New, End: their contracts.
-/
import Derived.Test.YtbeocehadnhmnaaJsStep
namespace Go.Proofs.Ytbeocehadnhmnaa
open Go.RowKit Go.Tru

theorem jsIn_new {w : World} {base n : Nat} (hn : n = w.heap.size) (hb : base ≤ n) (d : Int) (cs : Array Value) (hc : cs = (Lex.new.cells (.pointer none) (.slice none 0 0) ++ jsPost (Js.new d) (.slice none 0 0)).toArray) :
    JsIn (w.alloc (.cells cs 84)) base n (.slice none 0 0) (Js.new d) [n] := by
  subst hn hc
  refine ⟨⟨⟨by simp, fun i hi => by rw [List.mem_singleton] at hi; subst hi; simp⟩, .pointer none, .slice none 0 0, Has.new _ _ _, fun h => by simp [Js.new, Lex.new] at h⟩, OwnsMaps.nil _ _, by simp [blks_nil]⟩

theorem js_new_no (d : Int) (hd : d < 1 ∨ 16 < d) (w : World) : Calls Try.prog 15 #[.int .i64 d] w fun e w' => e = .returned (.pointer none) ∧ w' = w := by
  rcases hd with h | h
  · go_enter Try.func15, Try.ntmps15
    go_wp2_with fail
    go_ret
    exact ⟨rfl, rfl⟩
  · have h1 : ¬ d < 1 := by omega
    go_enter Try.func15, Try.ntmps15
    go_wp2_with fail
    go_ret
    exact ⟨rfl, rfl⟩

theorem js_new_yes (d : Int) (hd : 1 ≤ d ∧ d ≤ 16) (w : World) : Calls Try.prog 15 #[.int .i64 d] w fun e w' => e = .returned (.pointer (some ⟨w.heap.size, 0, none⟩)) ∧ JsIn w' w.heap.size w.heap.size (.slice none 0 0) (Js.new d) [w.heap.size] ∧ Keeps [] w w' := by
  have h1 : ¬ d < 1 := by omega
  have h2 : ¬ 16 < d := by omega
  go_enter Try.func15, Try.ntmps15
  go_wp2_with fail
  go_ret
  exact ⟨rfl, jsIn_new rfl (Nat.le_refl _) d _ rfl, (Keeps.refl _ _).alloc _⟩

theorem js_fin_ok {L : Lex} (h : L.Fit ∧ L.Mid) : L.fin.1.Fit ∧ L.fin.1.Mid := by
  unfold Lex.fin
  repeat' split
  · exact h
  · refine ⟨Lex.fit_ended h.1, fun he => ?_⟩
    rw [Lex.ended_s]
    rename_i h1 _
    exact h.2 (Decidable.not_not.1 (fun hh => h1 (Or.inl hh)))
  · exact ⟨⟨h.1.r, h.1.v, h.1.s, h.1.rest⟩, fun he => by simp at he⟩

set_option maxHeartbeats 1000000 in
theorem js_fin (base b : Nat) (mv : Value) (p : Js) (F : List Nat) (w : World) (h : JsIn w base b mv p F) (hf : p.Fit) (hbase : base ≤ w.heap.size) :
    Calls Try.prog 26 #[.pointer (some ⟨b, 0, none⟩)] w fun r w' => PartsPost w base b mv F p.fin r w' := by
  obtain ⟨g23, g24, g25, g26, hlt, hbm⟩ := js_facts h
  have H := Lib.hid h
  by_cases he : p.e = 0
  · obtain ⟨R, hR⟩ : ∃ R, Js.parts { p with l := p.l.fin.1 } p.l.fin.2 p.l.fin.1.e = R := ⟨_, rfl⟩
    have hs : p.fin = if R.2.e = 0 ∧ R.2.next ≠ 6 then (R.1, { R.2 with e := 3 }) else R := by unfold Js.fin; rw [if_neg (by simp [he]), hR]
    rw [hs]
    obtain ⟨res, hres⟩ : ∃ res, (if R.2.e = 0 ∧ R.2.next ≠ 6 then (R.1, { R.2 with e := 3 }) else R) = res := ⟨_, rfl⟩
    rw [hres]
    have HRES := Lib.hid hres
    rw [he] at g26
    have HL := Lib.hid (lex_fin base b (jsPost p mv) 84 p.l F w h.lex hf.l.1)
    have hlen := Lex.len_fin p.l
    obtain ⟨L', ts, hr⟩ : ∃ L' ts, p.l.fin = (L', ts) := ⟨_, _, rfl⟩
    have hlf : L'.Fit ∧ L'.Mid := by
      have h1 := js_fin_ok hf.l
      rw [hr] at h1
      exact h1
    have hfit : ({ p with l := L' } : Js).Fit := ⟨hlf, hf.depth, hf.maps, hf.next, hf.more⟩
    rw [hr] at HL hlen hR
    obtain ⟨le, hle⟩ : ∃ le, L'.e = le := ⟨_, rfl⟩
    simp only at hlen hR
    rw [hle] at hR
    have hpa := fun W mv1 F1 tv B => parts_any base b mv1 { p with l := L' } F1 tv ts B le W
    rw [hR] at hpa
    have HPA := Lib.hid hpa
    have HFIT := Lib.hid hfit
    have HLEN := Lib.hid hlen
    have HLE := Lib.hid hle
    have HPE := Lib.hid he
    clear h hf hs hr he hpa hfit hlen hle hR hres hlf
    go_enter Try.func26, Try.ntmps26
    go_wp2_with fail
    refine HL.out.mono ?_
    rintro e w1 ⟨v, F1, rfl, hto, hli, hk, hsub, hap⟩
    simp only [HLE.out, ToksVal]
    have hj := js_after H.out hli hk hsub
    have hta := js_toks_apart H.out hto hap
    have hz := hk.size
    have hpc := HPA.out w1 mv F1 v w.heap.size hj HFIT.out HPE.out (by omega) hto (by have := HLEN.out; omega) hta
    have HK := Lib.hid hk
    have HSUB := Lib.hid hsub
    have HPC := Lib.hid hpc
    clear hto hli hk hsub hap hj hta hpc
    go_wp2_with fail
    refine HPC.out.mono ?_
    rintro e w2 ⟨v2, mv2, F2, rfl, h2, h3, h4, h5, h6⟩
    obtain ⟨rl, rj⟩ := R
    simp only at h2 h3 h4 h5 h6 HRES
    obtain ⟨q23, q24, q25, q26, qlt, qbm⟩ := js_facts h3
    obtain ⟨f24, f25, f26⟩ := js_free h3
    have hself := js_self h3
    have H3 := Lib.hid h3
    have HB := Lib.hid (fun (r : List Ev × Js) W (hw : PartsPost w1 base b mv F1 r (.returned (.tuple #[v2, .int .i64 r.2.e])) W) => PartsPost.before (F := F) HK.out HSUB.out hw)
    have H2 := Lib.hid h2
    have H4 := Lib.hid h4
    have H5 := Lib.hid h5
    have H6 := Lib.hid h6
    clear h2 h3 h4 h5 h6
    by_cases c1 : rj.e = 0
    · rw [c1] at q26
      simp only [c1]
      by_cases c2 : rj.next = 6
      · have hx : (rl, rj) = res := by rw [← HRES.out, if_neg (by simp [c2])]
        have HX := Lib.hid hx
        rw [c2] at q25
        have C1 := Lib.hid c1
        clear hx c1 c2
        go_wp2_with fail
        go_region
        all_goals
          go_wp2_with fail
          go_ret2
          rw [← HX.out]
          refine C1.out ▸ HB.out (rl, rj) _ ⟨v2, mv2, F2, rfl, ownsRow_keeps H2.out (Keeps.refl [] _).drew (by simp), H3.out.keep0 (Keeps.refl _ _).drew, H4.out.drew, H5.out, H6.out⟩
      · have hx : (rl, { rj with e := 3 }) = res := by rw [← HRES.out, if_pos ⟨c1, c2⟩]
        have HX := Lib.hid hx
        have c3 : (rj.next != 6) = true := by simpa using c2
        clear hx c1 c2
        go_wp2_with fail
        go_region
        all_goals
          go_wp2_with fail
          go_ret2
          rw [← HX.out]
          refine HB.out (rl, { rj with e := 3 }) _ ⟨v2, mv2, F2, rfl, ownsRow_keeps H2.out ((Keeps.refl [b] _).set1 _).drew (fun i hi hm => H6.out b hself (by rw [List.mem_singleton] at hm; exact hm ▸ mem_blks.2 hi)), (H3.out.setE 3).keep0 (Keeps.refl _ _).drew, (H4.out.setCell (H5.out b hself) _).drew, H5.out, H6.out⟩
    · have hx : (rl, rj) = res := by rw [← HRES.out, if_neg (by simp [c1])]
      have HX := Lib.hid hx
      have c3 : (rj.e == 0) = false := by simpa using c1
      clear hx c1
      go_wp2_with fail
      go_region
      all_goals
        go_wp2_with fail
        go_ret2
        rw [← HX.out]
        refine HB.out (rl, rj) _ ⟨v2, mv2, F2, rfl, ownsRow_keeps H2.out (Keeps.refl [] _).drew (by simp), H3.out.keep0 (Keeps.refl _ _).drew, H4.out.drew, H5.out, H6.out⟩
  · have hs : p.fin = ([], p) := by unfold Js.fin; rw [if_pos he]
    rw [hs]
    have he' : (p.e != 0) = true := by simp [he]
    clear h hf hs he
    go_enter Try.func26, Try.ntmps26
    go_wp2_with fail
    go_region
    all_goals
      go_wp2_with fail
      go_ret2
      exact partsNone rfl (H.out.keep0 (Keeps.refl _ _).drew) (Keeps.refl _ _).drew

end Go.Proofs.Ytbeocehadnhmnaa
