/-
  lexer.Lexer: number, Step, End: their contracts.
-/
import Derived.Test.YtbeocehadnhmnaaLexStep
import Derived.Laws.AppendOwnNone
namespace Go.Proofs.Ytbeocehadnhmnaa
open Go.RowKit Go.Tru

theorem info_tok : (Try.prog.info? 113).map (fun i => (i.zero, i.size, i.bytes)) = some (some (.agg #[.int .u8 0, .string ⟨#[]⟩, .bool false, .int .u64 0]), 4, 40) := by kernel_rfl

/-- append of tokens to an own row of tokens -/
theorem app_toks {ops : Array Oper} {rest : List Oper} {o : Oper} {a : Act} {w : World} {Q : Exit → Act → World → Prop} (hgd : o.guard = none) (s x : Operand)
    (ho : o.op = .call { callee := .builtin .append, args := #[s, x], argTypes := #[85, 85] })
    (base : Nat) (v : Value) (l : List Tok) (hs : a.eval s = v) (hown : w.ownsRow base 113 4 v l.length (l.flatMap Tok.cells))
    (B : Nat) (u : Value) (m : List Tok) (hx : a.eval x = u) (hu : ToksOut w B u m) (hlen : l.length + m.length ≤ 1000000) (hbase : base ≤ w.heap.size)
    (h : ∀ v' w', OwnsToks w' base v' (l ++ m) → Keeps (blks v) w w' → (v'.ownBlock = v.ownBlock ∨ v'.ownBlock = some w.heap.size) → (m = [] → v' = v) → wpList Try.prog ops Q rest (a.put o.dst v') w') :
    wpList Try.prog ops Q (o :: rest) a w := by
  obtain ⟨i0, hi, hz0, hz1, hz2⟩ := info_parts info_tok
  by_cases hm : m = []
  · have hun := hu.2 hm
    subst hun
    refine wpList_append_own_none hgd s x 85 ho base 113 i0 4 Try.underlying85 hi v l.length (l.flatMap Tok.cells) hs hown hx ?_
    refine h v w ?_ (Keeps.refl _ _) (Or.inl rfl) (fun _ => rfl)
    rw [hm, List.append_nil]
    exact hown
  · obtain ⟨g, cap, rfl⟩ : ∃ g cap, u = .slice (some ⟨g, 0, none⟩) m.length cap := by
      rcases hu.1.2 with ⟨_, h0⟩ | ⟨g, cap, cur, hv, _⟩
      · exact absurd (List.length_eq_zero_iff.1 h0) hm
      · exact ⟨g, cap, hv⟩
    refine wpList_append_own_at w hgd s x 85 ho base 113 i0 (.agg #[.int .u8 0, .string ⟨#[]⟩, .bool false, .int .u64 0]) 4 40 Try.underlying85 hi hz0 hz1 hz2 rfl (by decide) v l.length (l.flatMap Tok.cells) hs hown ⟨g, 0, none⟩ m.length cap (m.flatMap Tok.cells) hx (tokCells_len m) (hu.1.cells (g := g) rfl) (tok_one m) (by unfold maxLen; omega) (by omega) hbase ?_
    intro v' w' h2 h3 _ h5
    refine h v' w' ?_ (keeps_grown h3) h5 (fun h0 => absurd h0 hm)
    unfold OwnsToks
    rw [List.length_append, List.flatMap_append]
    exact h2

set_option maxHeartbeats 4000000 in
set_option maxRecDepth 100000 in
theorem lex_number (base b : Nat) (post : List Value) (T : TypeId) (L : Lex) (x : Int) (F : List Nat) (w : World) (h : LexIn w base b post T L F) (hx : 0 ≤ x) (hx2 : x ≤ 255) (hf : L.Fit) (hs : L.state = 2) :
    Calls Try.prog 40 #[.pointer (some ⟨b, 0, none⟩), .int .u8 x] w fun e w' => TokPost w base b post T F (L.number x) e w' := by
  obtain ⟨hbF, p, v, hh, _⟩ := h
  have hnum := num_step b _ _ T L.n x w (hh.conv (L.cells_n p v post)) 12 (pre_n L p v) ⟨hx, hx2⟩ hf.v
  have hv2 := after_lt hf.v x
  obtain ⟨n', hn'⟩ : ∃ n', L.n.after x = n' := ⟨_, rfl⟩
  obtain ⟨tk, htk⟩ : ∃ tk, L.n.took x = tk := ⟨_, rfl⟩
  have hL : L.number x = if tk = true ∨ n'.e ≠ 0 then ({ L with n := n', e := n'.e }, [])
      else if (Lex.ended { L with n := n', e := 0 }).1.e ≠ 0 then ((Lex.ended { L with n := n', e := 0 }).1, [])
      else (((Lex.ended { L with n := n', e := 0 }).1.between x).1, (Lex.ended { L with n := n', e := 0 }).2 ++ ((Lex.ended { L with n := n', e := 0 }).1.between x).2) := by
    unfold Lex.number; rw [hn', htk]
  rw [hL]
  rw [hn', htk] at hnum
  rw [hn'] at hv2
  have HS := Lib.hid hs
  have HV2 := Lib.hid hv2
  clear hL hn' htk hh hs hv2 hf
  have start : ∀ (w1 : World), Has w1 b ([.int .i64 L.state] ++ L.r.cells ++ [p, v] ++ n'.cells ++ ([.string ⟨L.rest.toArray⟩, .int .u8 L.kind, .int .i64 L.e] ++ post)) T → Has w1 b (Lex.cells { L with n := n' } p v ++ post) T := fun w1 h1 => h1.conv (by rw [Lex.cells_n])
  by_cases hc : tk = true ∨ n'.e ≠ 0
  · rw [if_pos hc]
    have hc' : tk = true ∨ tk = false ∧ (n'.e != 0) = true := by
      cases tk
      · right
        refine ⟨rfl, ?_⟩
        rcases hc with h | h
        · cases h
        · simp [h]
      · exact Or.inl rfl
    clear hc
    rcases hc' with rfl | ⟨rfl, hne⟩
    all_goals
      go_enter Try.func40, Try.ntmps40
      go_wp2_with fail
      refine hnum.mono ?_
      rintro e w1 ⟨rfl, h1, k1⟩
      have h2 := start w1 h1
      obtain ⟨g0, g20, g21, g22, hlt⟩ := lex_cell h2
      obtain ⟨f0, f20, f21, f22⟩ := lex_free h2
      have H2 := Lib.hid h2
      have K1 := Lib.hid k1
      clear h1 k1 hnum h2 start
      go_wp2_with fail
      go_ret
      refine tokNil rfl (lexPost_of (p := p) (v := v) hbF ((H2.out.set 22 _).conv ?_) (Or.inl (by simp [HS.out])) ((K1.out.mono (by simpa using hbF.1)).setCell (Or.inl hbF.1) _))
      simp [Lex.cells, Rdr.cells, Chk.cells, Num.cells]
  · rw [if_neg hc]
    obtain ⟨rfl, hne⟩ : tk = false ∧ n'.e = 0 := by
      constructor
      · cases tk
        · rfl
        · exact absurd (Or.inl rfl) hc
      · exact Decidable.not_not.1 (fun hh => hc (Or.inr hh))
    rw [hne] at hnum
    obtain ⟨⟨L3, t3⟩, h3⟩ : ∃ r, Lex.ended { L with n := n', e := 0 } = r := ⟨_, rfl⟩
    have hl3 : L3.e = 0 → L3.state ≠ 1 := fun h5 => by
      have hst : L3.state = 0 ∨ L3.e ≠ 0 := by
        have : L3 = (Lex.ended { L with n := n', e := 0 }).1 := by rw [h3]
        rw [this]
        unfold Lex.ended
        split
        · rename_i hh; exact Or.inr hh
        · exact Or.inl rfl
      rcases hst with h6 | h6
      · omega
      · exact absurd h5 h6
    have ht3 : t3.length ≤ 1 := by
      have : t3 = (Lex.ended { L with n := n', e := 0 }).2 := by rw [h3]
      rw [this]; unfold Lex.ended; split <;> simp
    have ht4 : ∀ M : Lex, (M.between x).2.length ≤ 1 := fun M => by
      unfold Lex.between
      repeat' split
      all_goals simp
    rw [h3]
    simp only
    obtain ⟨res, hres⟩ : ∃ res, (if L3.e ≠ 0 then (L3, ([] : List Tok)) else ((L3.between x).1, t3 ++ (L3.between x).2)) = res := ⟨_, rfl⟩
    rw [hres]
    have HRES := Lib.hid hres
    clear hres
    obtain ⟨w2, hw2⟩ : ∃ w2 : World → World, ∀ w1, w2 w1 = w1.setCell ⟨b, 22, none⟩ (.int .i64 0) := ⟨fun w1 => w1.setCell ⟨b, 22, none⟩ (.int .i64 0), fun _ => rfl⟩
    have H3 := Lib.hid h3
    have HL3 := Lib.hid hl3
    have HW := Lib.hid hw2
    have HC := Lib.hid hc
    clear hw2 hc hne h3 hl3
    go_enter Try.func40, Try.ntmps40
    go_wp2_with fail
    refine hnum.mono ?_
    rintro e w1 ⟨rfl, h1, k1⟩
    have h2 := start w1 h1
    obtain ⟨g0, g20, g21, g22, hlt⟩ := lex_cell h2
    obtain ⟨f0, f20, f21, f22⟩ := lex_free h2
    have h2' := (h2.set 22 (.int .i64 0)).conv (cs' := Lex.cells { L with n := n', e := 0 } p v ++ post) (by simp [Lex.cells, Rdr.cells, Chk.cells, Num.cells])
    have k2 : Keeps F w (w1.setCell ⟨b, 22, none⟩ (.int .i64 0)) := (k1.mono (by simpa using hbF.1)).setCell (Or.inl hbF.1) _
    have hin2 : LexIn (w1.setCell ⟨b, 22, none⟩ (.int .i64 0)) base b post T { L with n := n', e := 0 } F := ⟨⟨hbF.1, fun i hi => Nat.lt_of_lt_of_le (hbF.2 i hi) k2.size⟩, p, v, h2', fun h5 => by have := HS.out; simp only at h5; omega⟩
    have hend := lex_ended base b post T _ F _ hin2 HV2.out HS.out
    rw [H3.out] at hend
    have HF := Lib.hid hbF.2
    have K2 := Lib.hid k2
    have HB := Lib.hid hbF.1
    clear h1 k1 hnum h2 start h2' k2 hin2 hbF
    go_wp2_with fail
    refine hend.mono ?_
    rintro e w3 ⟨v3, rfl, ho3, hin3, k3⟩
    obtain ⟨g0, g22⟩ := lexIn_cell hin3
    have hlt3 := hin3.b_lt
    have K3 := Lib.hid k3
    have HIN3 := Lib.hid hin3
    have HO3 := Lib.hid ho3
    clear hend ho3 hin3 k3 f0 f20 f21 f22 g20 g21
    by_cases he3 : L3.e = 0
    · have hbet := lex_between base b post T L3 x F w3 HIN3.out hx hx2 (HL3.out he3)
      have hif : res = ((L3.between x).1, t3 ++ (L3.between x).2) := by rw [← HRES.out, if_neg (by simp [he3])]
      have HIF := Lib.hid hif
      rw [he3] at g22
      clear hif he3
      go_wp2_with fail
      refine hbet.mono ?_
      rintro e w4 ⟨v4, F4, rfl, ho4, hin4, k4, hn4, _⟩
      have hg3 : ∀ i ∈ blks v3, i < w3.heap.size ∧ w.heap.size ≤ i ∧ i ∉ F := fun i hi => by
        have h6 := HO3.out.1.lt i (mem_blks.1 hi)
        have h7 := K2.out.size
        refine ⟨h6.2, by omega, fun hm => ?_⟩
        have := HF.out i hm
        omega
      have ho34 := HO3.out.keeps k4 (fun i hi => (hg3 i hi).2.2)
      have hsz4 : w.heap.size ≤ w4.heap.size := by have := K2.out.size; have := K3.out.size; have := k4.size; omega
      go_wp2_with (at_builtin; refine app_toks rfl _ _ rfl w.heap.size v3 t3 rfl (ownsRow_base ho34.1 (by have := K2.out.size; omega)) w3.heap.size v4 _ rfl ho4 (by have := ht4 L3; omega) hsz4 ?_)
      intro v5 w5 hown5 k5 hb5 hnil5
      have HOWN := Lib.hid hown5
      clear hown5
      go_wp2_with fail
      go_ret
      rw [HIF.out]
      have kw5 : Keeps F w w5 := by
        have ka : Keeps F w w4 := ((K2.out.trans K3.out).trans k4)
        exact ka.trans' k5 (fun i hi => Or.inr (hg3 i hi).2.1)
      refine ⟨v5, F4, rfl, ⟨HOWN.out, fun h0 => ?_⟩, hin4.keeps k5 (fun i hi hm => ?_), kw5, fun i hi => ?_, fun i hi hm => ?_⟩
      · have h8 : v3 = .slice none 0 0 := HO3.out.2 (List.append_eq_nil_iff.1 h0).1
        rw [hnil5 (List.append_eq_nil_iff.1 h0).2, h8]
      · have := hg3 i hm
        rcases hn4 i hi with h8 | h8
        · exact this.2.2 h8
        · omega
      · rcases hn4 i hi with h8 | h8
        · exact Or.inl h8
        · have := K2.out.size
          have := K3.out.size
          exact Or.inr (by omega)
      · rw [mem_blks] at hm
        rcases hb5 with h9 | h9
        · rw [h9, ← mem_blks] at hm
          have := hg3 i hm
          rcases hn4 i hi with h8 | h8
          · exact this.2.2 h8
          · omega
        · rw [h9] at hm
          injection hm with hm
          have := hin4.1.2 i hi
          omega
    · have hif : res = (L3, []) := by rw [← HRES.out, if_pos he3]
      have HIF := Lib.hid hif
      have he3' : (L3.e != 0) = true := by simp [he3]
      clear hif he3
      go_wp2_with fail
      go_ret
      rw [HIF.out]
      exact tokPost_nil rfl ⟨F, HIN3.out, K2.out.trans K3.out, fun i hi => Or.inl hi⟩

/-- what Step and End answer: tokens, error -/
def ToksVal (v : Value) (e : Int) : Value := .tuple #[v, .int .i64 e]

def StepPost (w : World) (base b : Nat) (post : List Value) (T : TypeId) (F : List Nat) (r : Lex × List Tok) (e : Ending) (w' : World) : Prop :=
  ∃ v F', e = .returned (ToksVal v r.1.e) ∧ ToksOut w' w.heap.size v r.2 ∧ LexIn w' base b post T r.1 F' ∧ Keeps F w w' ∧ (∀ i ∈ F', i ∈ F ∨ w.heap.size ≤ i) ∧ ∀ i ∈ F', i ∉ blks v

theorem stepNil {w w' : World} {base b : Nat} {post : List Value} {T : TypeId} {F : List Nat} {L' : Lex} {e : Ending} (he : e = .returned (ToksVal (.slice none 0 0) L'.e)) (h : LexPost w base b post T F L' w') : StepPost w base b post T F (L', []) e w' := by
  obtain ⟨F', h1, h2, h3⟩ := h
  exact ⟨_, F', he, ToksOut.nil _ _, h1, h2, h3, by simp [blks_nil]⟩

theorem stepSame {w w' : World} {base b : Nat} {post : List Value} {T : TypeId} {F : List Nat} {L' : Lex} {t : List Tok} {e : Ending} {v : Value} (he : e = .returned (ToksVal v L'.e)) (ho : ToksOut w' w.heap.size v t) (h : LexSame w base b post T F L' w') : StepPost w base b post T F (L', t) e w' :=
  ⟨v, F, he, ho, h.1, h.2.1, fun _ hi => Or.inl hi, fun i hi hm => by
    have h1 := ho.1.lt i (mem_blks.1 hm)
    have h2 := h.2.2 i hi
    omega⟩

theorem LexSame.drew {w : World} {base b : Nat} {post : List Value} {T : TypeId} {F : List Nat} {L : Lex} {w' : World} (h : LexSame w base b post T F L w') : LexSame w base b post T F L w'.drew :=
  ⟨h.1.keeps (G := []) (Keeps.refl _ _).drew (by simp), h.2.1.drew, h.2.2⟩

theorem LexPost.drew {w : World} {base b : Nat} {post : List Value} {T : TypeId} {F : List Nat} {L : Lex} {w' : World} (h : LexPost w base b post T F L w') : LexPost w base b post T F L w'.drew := by
  obtain ⟨F', h1, h2, h3⟩ := h
  exact ⟨F', h1.keeps (G := []) (Keeps.refl _ _).drew (by simp), h2.drew, h3⟩

theorem ToksOut.drew {w : World} {B : Nat} {v : Value} {l : List Tok} (h : ToksOut w B v l) : ToksOut w.drew B v l := h

set_option maxHeartbeats 4000000 in
set_option maxRecDepth 100000 in
theorem lex_step_bad (base b : Nat) (post : List Value) (T : TypeId) (L : Lex) (x : Int) (F : List Nat) (w : World) (h : LexIn w base b post T L F) (he : ¬ L.e = 0) :
    Calls Try.prog 28 #[.pointer (some ⟨b, 0, none⟩), .int .u8 x] w fun e w' => StepPost w base b post T F (L.step x) e w' := by
  have hs : L.step x = (L, []) := by unfold Lex.step; rw [if_pos he]
  rw [hs]
  have he' : (L.e != 0) = true := by simp [he]
  obtain ⟨g0, g22⟩ := lexIn_cell h
  have H := Lib.hid h
  clear h he hs
  go_enter Try.func28, Try.ntmps28
  go_wp2_with fail
  go_region
  all_goals
    go_wp2_with fail
    go_ret2
    exact stepNil rfl ⟨F, H.out.keeps (G := []) (Keeps.refl _ _).drew (by simp), (Keeps.refl _ _).drew, fun i hi => Or.inl hi⟩

set_option maxHeartbeats 4000000 in
set_option maxRecDepth 100000 in
theorem lex_step (base b : Nat) (post : List Value) (T : TypeId) (L : Lex) (x : Int) (F : List Nat) (w : World) (h : LexIn w base b post T L F) (ht : LexT T post.length) (hx : 0 ≤ x) (hx2 : x ≤ 255) (hbase : base ≤ w.heap.size) (hf : L.Fit) :
    Calls Try.prog 28 #[.pointer (some ⟨b, 0, none⟩), .int .u8 x] w fun e w' => StepPost w base b post T F (L.step x) e w' := by
  by_cases he : L.e = 0
  · obtain ⟨⟨L', ts⟩, hr⟩ : ∃ r, L.turn x = r := ⟨_, rfl⟩
    have hs : L.step x = (L', if L'.e ≠ 0 then [] else ts) := by unfold Lex.step; rw [if_neg (by simp [he]), hr]
    rw [hs]
    obtain ⟨res, hres⟩ : ∃ res, (if L'.e ≠ 0 then ([] : List Tok) else ts) = res := ⟨_, rfl⟩
    rw [hres]
    have HRES := Lib.hid hres
    obtain ⟨g0, g22⟩ := lexIn_cell h
    rw [he] at g22
    have hcall : L.state = 1 ∧ Calls Try.prog 38 #[.pointer (some ⟨b, 0, none⟩), .int .u8 x] w (fun e w' => TokPost w base b post T F (L', ts) e w') ∨
        (L.state == 1) = false ∧ L.state = 3 ∧ Calls Try.prog 39 #[.pointer (some ⟨b, 0, none⟩), .int .u8 x] w (fun e w' => TokPost w base b post T F (L', ts) e w') ∨
        (L.state == 1) = false ∧ (L.state == 3) = false ∧ L.state = 2 ∧ Calls Try.prog 40 #[.pointer (some ⟨b, 0, none⟩), .int .u8 x] w (fun e w' => TokPost w base b post T F (L', ts) e w') ∨
        (L.state == 1) = false ∧ (L.state == 3) = false ∧ (L.state == 2) = false ∧ Calls Try.prog 41 #[.pointer (some ⟨b, 0, none⟩), .int .u8 x] w (fun e w' => TokPost w base b post T F (L', ts) e w') := by
      unfold Lex.turn at hr
      by_cases h1 : L.state = 1
      · rw [if_pos h1] at hr
        exact Or.inl ⟨h1, hr ▸ lex_text base b post T L x F w h ht hx hx2 hbase hf h1 he⟩
      · rw [if_neg h1] at hr
        by_cases h3 : L.state = 3
        · rw [if_pos h3] at hr
          exact Or.inr (Or.inl ⟨by simp [h1], h3, hr ▸ lex_word base b post T L x F w h hx hx2 hf h3⟩)
        · rw [if_neg h3] at hr
          by_cases h2 : L.state = 2
          · rw [if_pos h2] at hr
            exact Or.inr (Or.inr (Or.inl ⟨by simp [h1], by simp [h3], h2, hr ▸ lex_number base b post T L x F w h hx hx2 hf h2⟩))
          · rw [if_neg h2] at hr
            exact Or.inr (Or.inr (Or.inr ⟨by simp [h1], by simp [h3], by simp [h2], hr ▸ lex_between base b post T L x F w h hx hx2 h1⟩))
    clear hs hr hres h he hf ht hbase
    rcases hcall with ⟨h1, hc⟩ | ⟨h1, h3, hc⟩ | ⟨h1, h3, h2, hc⟩ | ⟨h1, h3, h2, hc⟩
    all_goals
      (try rw [h1] at g0)
      (try rw [h3] at g0)
      (try rw [h2] at g0)
      go_enter Try.func28, Try.ntmps28
      go_wp2_with fail
      refine hc.mono ?_
      rintro e w1 ⟨v1, F1, rfl, ho1, hin1, k1, hn1, hd1⟩
      obtain ⟨c0, c22⟩ := lexIn_cell hin1
      have hlt1 := hin1.b_lt
      have HP := Lib.hid (⟨F1, hin1, k1, hn1⟩ : LexPost w base b post T F L' w1)
      have HO := Lib.hid ho1
      have HD := Lib.hid (⟨hin1, k1, hn1, hd1⟩ : LexIn w1 base b post T L' F1 ∧ Keeps F w w1 ∧ (∀ i ∈ F1, i ∈ F ∨ w.heap.size ≤ i) ∧ ∀ i ∈ F1, i ∉ blks v1)
      clear hc ho1 hin1 k1 hn1 hd1 g0 g22
      by_cases he1 : L'.e = 0
      · have hif : res = ts := by rw [← HRES.out, if_neg (by simp [he1])]
        rw [he1] at c22
        have HE := Lib.hid he1
        subst hif
        clear he1
        go_wp2_with fail
        go_ret2
        exact ⟨v1, F1, by rw [HE.out]; rfl, HO.out, HD.out⟩
      · have hif : res = [] := by rw [← HRES.out, if_pos he1]
        have he1' : (L'.e != 0) = true := by simp [he1]
        subst hif
        clear he1
        go_wp2_with fail
        go_region
        all_goals
          go_wp2_with fail
          go_ret2
          exact stepNil rfl (LexPost.drew HP.out)
  · exact lex_step_bad base b post T L x F w h he

set_option maxHeartbeats 4000000 in
set_option maxRecDepth 100000 in
theorem lex_fin (base b : Nat) (post : List Value) (T : TypeId) (L : Lex) (F : List Nat) (w : World) (h : LexIn w base b post T L F) (hf : L.Fit) :
    Calls Try.prog 37 #[.pointer (some ⟨b, 0, none⟩)] w fun e w' => StepPost w base b post T F L.fin e w' := by
  obtain ⟨g0, g22⟩ := lexIn_cell h
  by_cases hc : L.e ≠ 0 ∨ L.state = 0
  · have hL : L.fin = (L, []) := by unfold Lex.fin; rw [if_pos hc]
    rw [hL]
    have hc' : (L.e != 0) = true ∨ L.e = 0 ∧ L.state = 0 := by
      by_cases h1 : L.e = 0
      · right
        refine ⟨h1, ?_⟩
        rcases hc with h | h
        · exact absurd h1 h
        · exact h
      · left; simp [h1]
    have HP : LexPost w base b post T F L w.drew := ⟨F, h.keeps (G := []) (Keeps.refl _ _).drew (by simp), (Keeps.refl _ _).drew, fun i hi => Or.inl hi⟩
    have HP := Lib.hid HP
    clear h hL hc hf
    rcases hc' with h1 | ⟨h1, h2⟩
    · go_enter Try.func37, Try.ntmps37
      go_wp2_with fail
      go_region
      all_goals
        go_wp2_with fail
        go_ret2
        exact stepNil rfl HP.out
    · have HE := Lib.hid h1
      rw [h1] at g22
      rw [h2] at g0
      clear h1 h2
      go_enter Try.func37, Try.ntmps37
      go_wp2_with fail
      go_region
      all_goals
        go_wp2_with fail
        go_ret2
        exact stepNil (by rw [HE.out]; rfl) HP.out
  · have h1 : L.e = 0 := Decidable.not_not.1 (fun hh => hc (Or.inl hh))
    have h2 : ¬ L.state = 0 := fun hh => hc (Or.inr hh)
    by_cases h3 : L.state = 2
    · have hL : L.fin = L.ended := by unfold Lex.fin; rw [if_neg hc, if_pos h3]
      rw [hL]
      have hend := lex_ended base b post T L F w h hf.v h3
      obtain ⟨⟨L', ts⟩, hr⟩ : ∃ r, L.ended = r := ⟨_, rfl⟩
      rw [hr] at hend ⊢
      rw [h1] at g22
      rw [h3] at g0
      simp only at hend
      have HLT := Lib.hid h.1.2
      clear hL hc hf h h1 h2 h3 hr
      go_enter Try.func37, Try.ntmps37
      go_wp2_with fail
      refine hend.mono ?_
      rintro e w1 ⟨v1, rfl, ho1, hin1, k1⟩
      obtain ⟨c0, c22⟩ := lexIn_cell hin1
      have HP := Lib.hid (⟨hin1, k1, HLT.out⟩ : LexSame w base b post T F L' w1)
      have HO := Lib.hid ho1
      clear hend ho1 hin1 k1 g0 g22
      go_wp2_with fail
      go_region
      all_goals
        go_wp2_with fail
        go_ret2
        exact stepSame rfl (ToksOut.drew HO.out) (LexSame.drew HP.out)
    · have hL : L.fin = ({ L with e := 3 }, []) := by unfold Lex.fin; rw [if_neg hc, if_neg h3]
      rw [hL]
      have b0 : (L.state == 0) = false := by simp [h2]
      have b3 : (L.state == 2) = false := by simp [h3]
      obtain ⟨hbF, p, v, hh, _⟩ := h
      have hlt := hh.lt
      have f22 := hh.free 22
      rw [h1] at g22
      have h3' := (hh.set 22 (.int .i64 3)).conv (cs' := Lex.cells { L with e := 3 } p v ++ post) (by simp [Lex.cells, Rdr.cells, Chk.cells, Num.cells])
      have HP : LexPost w base b post T F { L with e := 3 } (w.setCell ⟨b, 22, none⟩ (.int .i64 3)) := (lexPost_of (p := p) (v := v) hbF h3' (Or.inr (by simp)) ((Keeps.refl _ _).setCell (Or.inl hbF.1) _)).post
      have HP := Lib.hid HP
      clear hL hc hf hh h1 h2 h3 h3' hbF
      go_enter Try.func37, Try.ntmps37
      go_wp2_with fail
      go_region
      all_goals
        go_wp2_with fail
        go_ret2
        exact stepNil rfl (LexPost.drew HP.out)

end Go.Proofs.Ytbeocehadnhmnaa
