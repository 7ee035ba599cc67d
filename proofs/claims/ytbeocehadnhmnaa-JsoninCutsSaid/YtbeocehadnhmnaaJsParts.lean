/-
  jsonin.Parser.parts: its contract.
-/
import Derived.Test.YtbeocehadnhmnaaJsTok6
namespace Go.Tru
open Go.RowKit

/-- The slice value (address o, length n, capacity c) holds these tokens. -/
structure ToksIn (w : World) (o : Option Addr) (n c : Nat) (ts : List Tok) : Prop where
  len : ts.length = n
  room : n ≤ c
  most : c ≤ maxLen
  at_ : n = 0 ∨ ∃ b off, o = some ⟨b, off, none⟩ ∧ b < w.heap.size ∧ ∀ (i : Nat) (t : Tok), ts[i]? = some t → ∀ (j : Nat) (v : Value), t.cells[j]? = some v → w.cell? ⟨b, off + i * 4 + j, none⟩ = some v

theorem tokCells_get (ts : List Tok) : ∀ (i : Nat) (t : Tok), ts[i]? = some t → ∀ (j : Nat) (v : Value), t.cells[j]? = some v → (ts.flatMap Tok.cells)[i * 4 + j]? = some v := by
  induction ts with
  | nil => intro i e h; cases i <;> cases h
  | cons x ts ih =>
    intro i e h j v hv
    rw [List.flatMap_cons]
    have hj : j < 4 := (List.getElem?_eq_some_iff.1 hv).1
    have hx : x.cells.length = 4 := rfl
    cases i with
    | zero =>
      simp only [List.getElem?_cons_zero, Option.some.injEq] at h
      subst h
      rw [List.getElem?_append_left (by omega)]
      simpa using hv
    | succ i =>
      rw [List.getElem?_append_right (by omega), hx]
      have : (i + 1) * 4 + j - 4 = i * 4 + j := by omega
      rw [this]
      exact ih i e (by simpa using h) j v hv

theorem toksIn_of_out {w : World} {B : Nat} {v : Value} {ts : List Tok} (h : ToksOut w B v ts) : ∃ o c, v = .slice o ts.length c ∧ ToksIn w o ts.length c ts := by
  have h := h.1
  have hlt := World.ownsRow.lt h
  rcases h.2 with ⟨rfl, h0⟩ | ⟨g, cap, cur, rfl, hb, hg, hn, hm, _⟩
  · exact ⟨none, 0, by rw [h0], rfl, by omega, Nat.zero_le _, Or.inl h0⟩
  · refine ⟨_, cap, rfl, rfl, hn, hm, Or.inr ⟨g, 0, rfl, (hlt g rfl).2, fun i e he j v hv => ?_⟩⟩
    have hl : i < ts.length := (List.getElem?_eq_some_iff.1 he).1
    have hj : j < 4 := (List.getElem?_eq_some_iff.1 hv).1
    rw [Nat.zero_add, World.ownsRow.cellAt h _ (by omega)]
    exact tokCells_get ts i e he j v hv

theorem ToksIn.keeps {F : List Nat} {w w' : World} {o : Option Addr} {n c : Nat} {ts : List Tok} (h : ToksIn w o n c ts) (k : Keeps F w w') (hF : ∀ i ∈ blks (.slice o n c), i ∉ F) : ToksIn w' o n c ts :=
  ⟨h.len, h.room, h.most, h.at_.imp id fun ⟨b, off, h1, h2, h3⟩ => ⟨b, off, h1, Nat.lt_of_lt_of_le h2 k.size, fun i p hp j v hv => k.cell (h3 i p hp j v hv) (hF b (by rw [h1]; exact mem_blks.2 rfl))⟩⟩

theorem ToksIn.get {w : World} {o : Option Addr} {n c : Nat} {ts : List Tok} (h : ToksIn w o n c ts) {k : Nat} (hk : k < n) {t : Tok} (ht : ts[k]? = some t) :
    ∃ b off, o = some ⟨b, off, none⟩ ∧ b < w.heap.size ∧ w.cell? ⟨b, off + k * 4, none⟩ = some (.int .u8 t.kind) ∧ w.cell? ⟨b, off + k * 4 + 1, none⟩ = some (.string t.text) ∧
      w.cell? ⟨b, off + k * 4 + 2, none⟩ = some (.bool t.neg) ∧ w.cell? ⟨b, off + k * 4 + 3, none⟩ = some (.int .u64 t.mag) := by
  rcases h.at_ with h0 | ⟨b, off, h1, h2, h3⟩
  · omega
  · have h4 := h3 k _ ht
    exact ⟨b, off, h1, h2, h4 0 _ rfl, h4 1 _ rfl, h4 2 _ rfl, h4 3 _ rfl⟩

theorem jsToks_err {p : Js} {l : List Tok} {k : Nat} {t : Tok} (hk : l[k]? = some t) (h : (p.token t).2.e ≠ 0) : p.toks (l.drop k) = ([], (p.token t).2) := by
  obtain ⟨hk', rfl⟩ := List.getElem?_eq_some_iff.1 hk
  rw [List.drop_eq_getElem_cons hk', Js.toks, if_pos h]

theorem jsToks_go {p : Js} {l : List Tok} {k : Nat} {t : Tok} (hk : l[k]? = some t) (h : (p.token t).2.e = 0) : p.toks (l.drop k) = ((p.token t).1.toList ++ ((p.token t).2.toks (l.drop (k + 1))).1, ((p.token t).2.toks (l.drop (k + 1))).2) := by
  obtain ⟨hk', rfl⟩ := List.getElem?_eq_some_iff.1 hk
  rw [List.drop_eq_getElem_cons hk', Js.toks, if_neg (by simp [h])]

end Go.Tru
namespace Go.Proofs.Ytbeocehadnhmnaa
open Go.RowKit Go.Tru

/-- what parts, Step and End leave -/
def PartsPost (w : World) (base b : Nat) (mv : Value) (F : List Nat) (r : List Ev × Js) (e : Ending) (w' : World) : Prop :=
  ∃ v mv' F', e = .returned (.tuple #[v, .int .i64 r.2.e]) ∧ OwnsAny w' w.heap.size v r.1 ∧ JsIn w' base b mv' r.2 F' ∧ Keeps (F ++ blks mv) w w' ∧ (∀ i ∈ F' ++ blks mv', i ∈ F ++ blks mv ∨ w.heap.size ≤ i) ∧ ∀ i ∈ F' ++ blks mv', i ∉ blks v

def PartRel (w0 : World) (base b : Nat) (mv0 : Value) (F0 : List Nat) (l : List Tok) (tot : List Ev × Js) (v i : Value) (wr : World) : Prop :=
  ∃ (k : Nat) (acc : List Ev) (p : Js) (mv : Value) (F : List Nat), k ≤ l.length ∧ i = .int .i64 k ∧ OwnsAny wr w0.heap.size v acc ∧ JsIn wr base b mv p F ∧ (p.Fit ∧ p.e = 0) ∧ acc.length ≤ k ∧
    tot = (acc ++ (p.toks (l.drop k)).1, (p.toks (l.drop k)).2) ∧ Keeps (F0 ++ blks mv0) w0 wr ∧ (∀ i ∈ F ++ blks mv, i ∈ F0 ++ blks mv0 ∨ w0.heap.size ≤ i) ∧ ∀ i ∈ F ++ blks mv, i ∉ blks v

theorem jsPartForm (p : Ev) : p.part = .nilIface ∨ ∃ T v, p.part = .iface T v := by
  unfold Ev.part
  repeat' split
  all_goals first | exact Or.inl rfl | exact Or.inr ⟨_, _, rfl⟩

theorem jsNewPart {q : Ev} {pv : Value} (h : q.part = pv) {w : World} {t : TypeId} {g : Nat} (hg : g = w.heap.size) : ∀ (j : Nat) (u : Value), ([q].map Ev.part)[j]? = some u → (w.alloc (.cells #[pv] t)).cell? ((⟨g, 0, none⟩ : Addr).add j) = some u := by
  subst h
  exact cells_new ([q].map Ev.part) hg

theorem js_lt {w : World} {base b : Nat} {mv : Value} {p : Js} {F : List Nat} (h : JsIn w base b mv p F) : ∀ i ∈ F ++ blks mv, i < w.heap.size := by
  intro i hi
  rcases List.mem_append.1 hi with h1 | h1
  · exact h.lex.1.2 i h1
  · exact (World.ownsRow.lt h.maps i (mem_blks.1 h1)).2

set_option maxHeartbeats 4000000 in
set_option maxRecDepth 100000 in
theorem parts_any (base b : Nat) (mv : Value) (p : Js) (F : List Nat) (tv : Value) (l : List Tok) (B : Nat) (e : Int) (w : World) (h : JsIn w base b mv p F) (hf : p.Fit) (he0 : p.e = 0) (hbase : base ≤ w.heap.size)
    (ht : ToksOut w B tv l) (hl : l.length ≤ 1000) (hd : ∀ i ∈ blks tv, i ∉ F ++ blks mv) :
    Calls Try.prog 29 #[.pointer (some ⟨b, 0, none⟩), tv, .int .i64 e] w fun r w' => PartsPost w base b mv F (p.parts l e) r w' := by
  obtain ⟨tot, htot⟩ : ∃ tot, p.toks l = tot := ⟨_, rfl⟩
  have hp : p.parts l e = if tot.2.e ≠ 0 then tot else (tot.1, { tot.2 with e := e }) := by unfold Js.parts; rw [htot]
  rw [hp]
  obtain ⟨res, hres⟩ : ∃ res, (if tot.2.e ≠ 0 then tot else (tot.1, { tot.2 with e := e })) = res := ⟨_, rfl⟩
  rw [hres]
  have HRES := Lib.hid hres
  have hrun : tot = ([] ++ (p.toks (l.drop 0)).1, (p.toks (l.drop 0)).2) := by rw [← htot]; simp
  obtain ⟨to, tc, rfl, hti⟩ := toksIn_of_out ht
  have HTI := Lib.hid hti
  have HD := Lib.hid hd
  have HLT := Lib.hid (fun i hi => (World.ownsRow.lt ht.1 i (mem_blks.1 hi)).2 : ∀ i ∈ blks (.slice to l.length tc), i < w.heap.size)
  have HRUN := Lib.hid hrun
  have H := Lib.hid h
  have HF := Lib.hid hf
  have HE0 := Lib.hid he0
  have hroom := hti.room
  have hmost := hti.most
  clear hres hrun htot hp h hf ht hti hd he0
  go_enter Try.func29, Try.ntmps29
  go_wp2_with fail
  go_loopw [8, 15] (fun v i wr => PartRel w base b mv F l tot v i wr) (fun _ i _ => l.length - (intOf i).toNat)
  case atStart => exact ⟨0, [], p, mv, F, Nat.zero_le _, rfl, OwnsAny.nil _ _, H.out, ⟨HF.out, HE0.out⟩, by simp, HRUN.out, Keeps.refl _ _, fun i hi => Or.inl hi, by simp [blks_nil]⟩
  case round =>
    obtain ⟨k, acc, q, mvk, Fk, hk, rfl, hown, hin, ⟨hfit, he1⟩, hacc, htot, hK, hsub, hdis⟩ := hrel
    have HE1 := Lib.hid he1
    obtain ⟨ao, co, rfl⟩ := hown.shape
    have hzw := hK.size
    have hblt := (js_facts hin).2.2.2.2.1
    have HOWN := Lib.hid hown
    have HINP := Lib.hid hin
    have HFIT := Lib.hid hfit
    have HTOT := Lib.hid htot
    have HK := Lib.hid hK
    have HSUB := Lib.hid hsub
    have HDIS := Lib.hid hdis
    have htik := HTI.out.keeps hK HD.out
    clear hown hin hfit htot hK hsub hdis he1
    by_cases hlt : k < l.length
    · obtain ⟨t, htk⟩ : ∃ t, l[k]? = some t := ⟨_, List.getElem?_eq_getElem hlt⟩
      obtain ⟨tb, toff, rfl, htb, g0, g1, g2, g3⟩ := htik.get hlt htk
      have htok := fun W hW hb => token_any base b mvk q Fk t W hW HFIT.out hb
      have hfit2 := Js.fit_token HFIT.out t
      obtain ⟨o2, q2, hr⟩ : ∃ o2 q2, q.token t = (o2, q2) := ⟨_, _, rfl⟩
      have herr := jsToks_err (p := q) htk
      have hgo := jsToks_go (p := q) htk
      have hclr := Js.clear_token (p := q) (t := t)
      rw [hr] at htok hfit2 herr hgo hclr
      simp only at hfit2 herr hgo hclr
      have HERR := Lib.hid herr
      have HGO := Lib.hid hgo
      have HFIT2 := Lib.hid hfit2
      have HTOK := Lib.hid htok
      clear htik herr hgo hfit2 htok hr htk
      go_wp2_with fail
      refine (HTOK.out _ (HINP.out.keep0 ((Keeps.refl _ _).alloc _)) (by simp; omega)).mono ?_
      rintro e9 w2 ⟨rfl, mv2, F2, hin2, hk2, hs2⟩
      obtain ⟨g23, g24, g25, g26, hlt2, hbm2⟩ := js_facts hin2
      have hz2 := hk2.size
      have hkk2 := ((Keeps.refl (Fk ++ blks mvk) wr).alloc (.cells t.cells.toArray 113)).trans hk2
      have hlowk := HSUB.out
      have HO2 := Lib.hid (ownsRow_keeps HOWN.out hkk2 (fun i hi hm => HDIS.out i hm (mem_blks.2 hi)))
      have HK2 := Lib.hid (HK.out.trans' hkk2 HSUB.out)
      have hvlt : ∀ i ∈ blks (.slice ao acc.length co), i < wr.heap.size := fun i hi => (World.ownsRow.lt HOWN.out i (mem_blks.1 hi)).2
      simp only [World.size_alloc] at hz2 hs2
      have hsub2 : ∀ i ∈ F2 ++ blks mv2, i ∈ F ++ blks mv ∨ w.heap.size ≤ i := fun i hi => (hs2 i hi).elim (fun h => HSUB.out i h) (fun h => Or.inr (by omega))
      have hdis2 : ∀ i ∈ F2 ++ blks mv2, i ∉ blks (.slice ao acc.length co) := fun i hi hm => (hs2 i hi).elim (fun h => HDIS.out i h hm) (fun h => by have := hvlt i hm; omega)
      have hlt3 := js_lt hin2
      have HVLO := Lib.hid (fun i hi => (World.ownsRow.lt HOWN.out i (mem_blks.1 hi)).1 : ∀ i ∈ blks (.slice ao acc.length co), w.heap.size ≤ i)
      have HIN2 := Lib.hid hin2
      have HSUB2 := Lib.hid hsub2
      have HDIS2 := Lib.hid hdis2
      have HLT3 := Lib.hid hlt3
      clear hin2 hk2 hkk2 hs2 hlowk hvlt hsub2 hdis2 hlt3
      simp only at g23 g24 g25 g26
      by_cases he2 : q2.e = 0
      · have HE2 := Lib.hid he2
        rw [he2] at g26
        have HT2 := Lib.hid (HTOT.out.trans (by rw [HGO.out he2]) : tot = (acc ++ (o2.toList ++ (q2.toks (l.drop (k + 1))).1), (q2.toks (l.drop (k + 1))).2))
        clear he2
        cases o2 with
        | none =>
          simp only [optVal]
          go_wp2_with fail
          go_roundw
          case rel => exact ⟨k + 1, acc, q2, mv2, F2, by omega, by go_num, HO2.out, HIN2.out, ⟨HFIT2.out, HE2.out⟩, by omega, by rw [HT2.out]; simp, HK2.out, HSUB2.out, HDIS2.out⟩
          case measure => simp [intOf]; omega
        | some qe =>
          simp only [optVal]
          rcases jsPartForm qe with hpf | ⟨T, pv, hpf⟩
          all_goals
            rw [hpf]
            have HPF := Lib.hid hpf
            clear hpf
            go_wp2_with (at_builtin; go_must (refine app_any rfl _ _ rfl w.heap.size _ acc rfl (ownsRow_keeps HO2.out ((Keeps.refl [] _).alloc _) (by simp)) ⟨_, 0, none⟩ 1 1 [qe] rfl rfl (jsNewPart HPF.out rfl) (by omega) (by simp; omega) ?_))
            intro v5 w5 hown5 hk5 _ hb5
            obtain ⟨a5, c5, rfl⟩ := hown5.shape
            have k25 := (Keeps.refl (blks (.slice ao acc.length co)) w2).alloc (.cells #[_] 20) |>.trans hk5
            have HO5 := Lib.hid hown5
            have HI5 := Lib.hid (HIN2.out.keeps k25 (fun i hi => HDIS2.out i (List.mem_append_left _ hi)) (fun i hi => HDIS2.out i (List.mem_append_right _ hi)))
            have HK5 := Lib.hid (HK2.out.trans' k25 (fun i hi => Or.inr (HVLO.out i hi)))
            have HD5 := Lib.hid (show ∀ i ∈ F2 ++ blks mv2, i ∉ blks (.slice a5 (acc ++ [qe]).length c5) from fun i hi hm => by
              rw [mem_blks] at hm
              rcases hb5 with h1 | h1
              · rw [h1] at hm; exact HDIS2.out i hi (mem_blks.2 hm)
              · rw [h1] at hm; injection hm with hm; have := HLT3.out i hi; first | omega | (simp at hm; omega))
            clear hown5 hk5 hb5 k25
            go_wp2_with fail
            go_roundw
            case rel => exact ⟨k + 1, acc ++ [qe], q2, mv2, F2, by omega, by go_num, HO5.out, HI5.out, ⟨HFIT2.out, HE2.out⟩, by simp; omega, by rw [HT2.out]; simp, HK5.out, HSUB2.out, HD5.out⟩
            case measure => simp [intOf]; omega
      · have he3 : (q2.e != 0) = true := by simpa using he2
        have hpp : (if tot.2.e ≠ 0 then tot else (tot.1, { tot.2 with e := e })) = (acc, q2) := by
          rw [HTOT.out, HERR.out he2]; simp [he2]
        have HPP := Lib.hid hpp
        clear he2 hpp
        cases o2
        all_goals
          simp only [optVal]
          go_wp2_with fail
          go_region
          all_goals
            go_wp2_with fail
            go_ret2
            rw [HRES.out.symm.trans HPP.out]
            exact ⟨_, mv2, F2, rfl, HO2.out, HIN2.out.keep0 (Keeps.refl _ _).drew, HK2.out.drew, HSUB2.out, HDIS2.out⟩
    · obtain rfl : k = l.length := by omega
      obtain ⟨g23, g24, g25, g26, hlt2, hbm2⟩ := js_facts HINP.out
      obtain ⟨f24, f25, f26⟩ := js_free HINP.out
      have hself := js_self HINP.out
      have hpp : (if tot.2.e ≠ 0 then tot else (tot.1, { tot.2 with e := e })) = (acc, { q with e := e }) := by
        rw [HTOT.out, List.drop_length, Js.toks]
        simp [HE1.out]
      have HPP := Lib.hid hpp
      clear hpp htik
      go_wp2_with fail
      go_ret2
      rw [HRES.out.symm.trans HPP.out]
      have k9 := (Keeps.refl [b] wr).set1 (i := 26) (.int .i64 e)
      exact ⟨_, mvk, Fk, rfl, ownsRow_keeps HOWN.out k9 (fun i hi hm => HDIS.out b hself (by rw [List.mem_singleton] at hm; exact hm ▸ mem_blks.2 hi)), HINP.out.setE e, HK.out.setCell (HSUB.out b hself) _, HSUB.out, HDIS.out⟩
end Go.Proofs.Ytbeocehadnhmnaa
