/-
  LexerBlanks' walk.
-/
import Derived.Test.YtenkbjpjpblccaaLexBlanksP
import Derived.Test.YtenkbjpjpblccaaLexStrings
namespace Go.Proofs.Ytenkbjpjpblccaa
open Go.RowKit Go.Tru

def wordsCells : List Value := [.string ⟨#[123]⟩, .string ⟨#[125]⟩, .string ⟨#[91]⟩, .string ⟨#[93]⟩, .string ⟨#[58]⟩, .string ⟨#[44]⟩, .string ⟨#[34, 97, 32, 98, 34]⟩, .string ⟨#[116, 114, 117, 101]⟩, .string ⟨#[102, 97, 108, 115, 101]⟩, .string ⟨#[110, 117, 108, 108]⟩, .string ⟨#[34, 34]⟩]

theorem wordsCells_at (j : Nat) (h : j < 11) : wordsCells[j]? = some (.string ⟨(wordT j).toArray⟩) := by
  match j, h with
  | 0, _ => rfl
  | 1, _ => rfl
  | 2, _ => rfl
  | 3, _ => rfl
  | 4, _ => rfl
  | 5, _ => rfl
  | 6, _ => rfl
  | 7, _ => rfl
  | 8, _ => rfl
  | 9, _ => rfl
  | 10, _ => rfl

def CatsRel (xs bs : List Int) (n bw : Nat) (w : World) (a b i : Value) (wr : World) : Prop :=
  ∃ (k : Nat) (A B : ByteArray), k ≤ n ∧ i = .int .i64 k ∧ a = .string A ∧ b = .string B ∧ A.data.toList = aT (xs.take k) ∧ B.data.toList = bT (xs.take k) (bs.take k) ∧ Keeps [] w wr ∧ Has wr bw wordsCells 9

def PRel (T : List UInt8) (w0 : World) (X Y : Nat) (vp i : Value) (wr : World) : Prop :=
  ∃ (k : Nat) (F : List Nat), k ≤ T.length ∧ i = .int .i64 k ∧ Gath w0 wr X X [Y] vp (Lex.new.run (T.take k)) F ∧ LexAt w0 wr X Y Lex.new [Y]

def QRel2 (T : List UInt8) (ts : List Tok) (w0 : World) (X Y : Nat) (vp vq i : Value) (wr : World) : Prop :=
  ∃ (k : Nat) (F : List Nat), k ≤ T.length ∧ i = .int .i64 k ∧ Gath w0 wr X Y (blks vp) vq (Lex.new.run (T.take k)) F ∧ OwnsToks wr X vp ts

def EqRel (n : Nat) (ts : List Tok) (w0 : World) (X : Nat) (vp vq i : Value) (wr : World) : Prop :=
  ∃ k : Nat, k ≤ n ∧ i = .int .i64 k ∧ OwnsToks wr X vp ts ∧ OwnsToks wr X vq ts ∧ Keeps [] w0 wr

theorem Gath.low {w0 w : World} {base b : Nat} {Z : List Nat} {vg : Value} {r : Lex × List Tok} {F : List Nat} (h : Gath w0 w base b Z vg r F) : ∀ i ∈ F ++ blks vg, base ≤ i := fun i hi => by
  rcases List.mem_append.1 hi with hi | hi
  · exact h.at_.low i hi
  · exact (World.ownsRow.lt h.own i (mem_blks.1 hi)).1

set_option maxHeartbeats 8000000 in
set_option maxRecDepth 100000 in
theorem lexerBlanks_walk (o : Option Addr) (n c : Nat) (xs : List Int) (o2 : Option Addr) (n2 c2 : Nat) (bs : List Int) (w : World) (h : IntsIn w o n c xs) (hb : IntsIn w o2 n2 c2 bs) :
    Calls Try.prog 3 #[.slice o n c, .slice o2 n2 c2] w fun e w' => e = .returned (.bool true) ∧ Below w.heap.size w w' := by
  refine Calls.mono (R := fun e w' => e = .returned (.bool true) ∧ Keeps [] w w') ?_ (fun e w' h => ⟨h.1, h.2.all⟩)
  have m1 : n ≤ 9223372036854775807 := by have := h.room; have := h.most; unfold maxLen at *; omega
  have m2 : n2 ≤ 9223372036854775807 := by have := hb.room; have := hb.most; unfold maxLen at *; omega
  have hl := h.len
  have hl2 := hb.len
  have H := Lib.hid h
  have L := Lib.hid hl
  have H2 := Lib.hid hb
  have L2 := Lib.hid hl2
  clear h hl hb hl2
  by_cases hbad : 30 < n ∨ 60 < n2
  · have hbb : 30 < n ∨ n ≤ 30 ∧ 60 < n2 := by omega
    clear hbad
    rcases hbb with hb | ⟨hb, hb2⟩
    all_goals
      go_enter Try.func3, Try.ntmps3
      go_wp2_with fail
      refine (alive_any _).mono ?_
      rintro e w1 ⟨rfl, k1⟩
      have K1 := Lib.hid k1
      clear k1
      go_wp2_with fail
      go_ret
      exact ⟨rfl, K1.out⟩
  · obtain ⟨b1, b2⟩ : n ≤ 30 ∧ n2 ≤ 60 := by omega
    clear hbad
    go_enter Try.func3, Try.ntmps3
    go_wp2_with fail
    refine (alive_any _).mono ?_
    rintro e w1 ⟨rfl, k1⟩
    have K1 := Lib.hid k1
    clear k1
    go_wp2_with fail
    go_loopw [6, 7, 38] (fun a b i wr => CatsRel xs bs n w1.heap.size w a b i wr) (fun _ _ i _ => n - (intOf i).toNat)
    case atStart => exact ⟨0, ⟨#[]⟩, ⟨#[]⟩, Nat.zero_le _, rfl, rfl, rfl, rfl, rfl, K1.out.alloc _, Has.new w1 wordsCells _⟩
    case round =>
      obtain ⟨k, A, B, hk, rfl, rfl, rfl, hA, hB, hK, hW⟩ := hrel
      by_cases hlt : k < n
      · have hx : k < xs.length := by rw [L.out]; exact hlt
        obtain ⟨bb, off, rfl, hcell⟩ := (H.out.keeps hK).get hlt hx
        obtain ⟨x, hxx⟩ : ∃ x, xs[k] = x := ⟨_, rfl⟩
        have hxk : xs[k]? = some x := by rw [List.getElem?_eq_getElem hx, hxx]
        rw [hxx] at hcell
        obtain ⟨q1, q2, j, hj, hj11⟩ := mod_facts x (z := 11) (by omega)
        have q1 : -11 < x.tmod 11 := q1
        have q2 : x.tmod 11 < 11 := q2
        have hj : x.tmod 11 % 11 = (j : Int) := hj
        have hjx : idxT x = j := by unfold idxT; rw [hj]; simp
        have ha := aT_take hxk
        have hb := bT_take k (bs := bs) hxk
        rw [hjx] at ha hb
        obtain ⟨D, hD⟩ : ∃ D : ByteArray, ⟨(wordT j).toArray⟩ = D := ⟨_, rfl⟩
        have hDd : D.data.toList = wordT j := by rw [← hD]
        have hwc := hW.cell j
        rw [wordsCells_at j hj11, hD] at hwc
        have hAs : A.size ≤ 150 := by
          rw [tx_size, hA]
          have := aT_len (xs.take k)
          simp only [List.length_take] at this
          omega
        have hBs : B.size ≤ 210 := by
          rw [tx_size, hB]
          have := bT_len (xs.take k) (bs.take k)
          simp only [List.length_take] at this
          omega
        have hDs : D.size ≤ 5 := by rw [tx_size, hDd]; exact wordT_len j
        have z1 : ¬ 281474976710656 < A.size + D.size := by omega
        have z2 : ¬ 281474976710656 < B.size + D.size := by omega
        obtain ⟨BD, hBD⟩ : ∃ BD, B ++ D = BD := ⟨_, rfl⟩
        have hBDd : BD.data.toList = bT (xs.take k) (bs.take k) ++ wordT j := by rw [← hBD, tx_app, hB, hDd]
        have hBDs : BD.size ≤ 215 := by rw [← hBD, tx_size, tx_app, List.length_append, ← tx_size, ← tx_size]; omega
        have HA := Lib.hid hA
        have HK := Lib.hid hK
        have HHW := Lib.hid hW
        have HNA := Lib.hid ha
        have HD := Lib.hid hDd
        have HBD := Lib.hid hBDd
        have hwl := hW.lt
        have e11 : (x.tmod 11 + 11) % 11 = (j : Int) := by omega
        by_cases hk2 : k < n2
        · have hy : k < bs.length := by rw [L2.out]; exact hk2
          obtain ⟨b3b, off3, rfl, hcell3⟩ := (H2.out.keeps hK).get hk2 hy
          obtain ⟨y, hyy⟩ : ∃ y, bs[k] = y := ⟨_, rfl⟩
          rw [List.getElem?_eq_getElem hy, hyy] at hb
          rw [hyy] at hcell3
          have hmask : bits .and .i64 y 3 = y % 4 := i64_mask 2 (by omega) y
          obtain ⟨p, hp, hp4⟩ : ∃ p : Nat, y % 4 = (p : Int) ∧ p < 4 := ⟨(y % 4).toNat, by omega, by omega⟩
          rw [hp] at hmask
          have hpy : b3 y = p := by unfold b3; rw [hp]; simp
          simp only [hpy] at hb
          obtain ⟨E, hE⟩ : ∃ E : ByteArray, ⟨(sepT p).toArray⟩ = E := ⟨_, rfl⟩
          have hEd : E.data.toList = sepT p := by rw [← hE]
          have hsep : ∀ (W : World) (q : Nat), q = W.heap.size → (W.alloc (.cells #[.string ⟨#[32]⟩, .string ⟨#[10]⟩, .string ⟨#[9, 13]⟩, .string ⟨#[]⟩] 9)).cell? ⟨q, p, none⟩ = some (.string E) := by
            intro W q hq
            subst hq
            rw [World.cell?_alloc_at _ _ _ _ rfl, ← hE]
            match p, hp4 with
            | 0, _ => rfl
            | 1, _ => rfl
            | 2, _ => rfl
            | 3, _ => rfl
          have hsep1 := hsep wr wr.heap.size rfl
          have hcell3' := (Keeps.alloc (Keeps.refl [] wr) (.cells #[.string ⟨#[32]⟩, .string ⟨#[10]⟩, .string ⟨#[9, 13]⟩, .string ⟨#[]⟩] 9)).cell hcell3 (by simp)
          have z3 : ¬ 281474976710656 < BD.size + E.size := by
            have : E.size ≤ 2 := by rw [tx_size, hEd]; exact sepT_len p
            omega
          have HNB := Lib.hid hb
          have HE := Lib.hid hEd
          have hki2 : (k : Int) < (n2 : Int) := by omega
          clear hA hB hK hW ha hb hDd hBDd hD hxx hxk hjx hyy hpy hEd hE hsep hcell3
          go_wp2_with fail
          go_roundw
          case rel => exact ⟨k + 1, A ++ D, BD ++ E, by omega, by go_num, rfl, rfl, by rw [HNA.out, tx_app, HA.out, HD.out], by rw [HNB.out, tx_app, HBD.out, HE.out, List.append_assoc], HK.out.alloc _, HHW.out.alloc _⟩
          case measure => simp [intOf]; omega
        · have hno : bs[k]? = none := List.getElem?_eq_none (by rw [L2.out]; omega)
          rw [hno] at hb
          have HNB := Lib.hid hb
          have hki2 : ¬ (k : Int) < (n2 : Int) := by omega
          clear hA hB hK hW ha hb hDd hBDd hD hxx hxk hjx hno
          go_wp2_with fail
          go_roundw
          case rel => exact ⟨k + 1, A ++ D, BD, by omega, by go_num, rfl, rfl, by rw [HNA.out, tx_app, HA.out, HD.out], by rw [HNB.out, HBD.out]; simp, HK.out, HHW.out⟩
          case measure => simp [intOf]; omega
      · obtain rfl : k = n := by omega
        rw [List.take_of_length_le (by rw [L.out]; omega)] at hA hB
        obtain ⟨T2, hT2⟩ : ∃ T2, bT xs (bs.take k) = T2 := ⟨_, rfl⟩
        obtain ⟨T1, hT1⟩ : ∃ T1, aT xs = T1 := ⟨_, rfl⟩
        obtain ⟨L1, r1, r1'⟩ := run_aT xs (L := Lex.new) ⟨rfl, rfl⟩
        obtain ⟨L2', r2, r2'⟩ := run_bT xs (bs.take k) (L := Lex.new) ⟨rfl, rfl⟩
        have hT1l := aT_len xs
        have hT2l := bT_len xs (bs.take k)
        rw [hT1] at hA r1 hT1l
        rw [hT2] at hB r2 hT2l
        obtain ⟨ts, hts⟩ : ∃ ts, toksT xs = ts := ⟨_, rfl⟩
        rw [hts] at r1 r2
        have htl : ts.length = k := by rw [← hts, ← L.out]; simp [toksT]
        obtain ⟨Z1, hZ1⟩ : ∃ Z : Nat, A.size = Z := ⟨_, rfl⟩
        obtain ⟨Z2, hZ2⟩ : ∃ Z : Nat, B.size = Z := ⟨_, rfl⟩
        have hat1 : ∀ q (h : q < Z1), ∃ x : UInt8, A[q]'(hZ1 ▸ h) = x ∧ T1[q]? = some x := fun q h => ⟨_, rfl, by
          rw [← hA, List.getElem?_eq_getElem (by rw [Array.length_toList]; show q < A.size; omega)]
          rfl⟩
        have hat2 : ∀ q (h : q < Z2), ∃ x : UInt8, B[q]'(hZ2 ▸ h) = x ∧ T2[q]? = some x := fun q h => ⟨_, rfl, by
          rw [← hB, List.getElem?_eq_getElem (by rw [Array.length_toList]; show q < B.size; omega)]
          rfl⟩
        have hz1 : T1.length = Z1 := by rw [← hZ1, tx_size, hA]
        have hz2 : T2.length = Z2 := by rw [← hZ2, tx_size, hB]
        have hZ1b : Z1 ≤ 1000 := by have := L.out; omega
        have hZ2b : Z2 ≤ 1000 := by have := L.out; omega
        have HAT1 := Lib.hid hat1
        have HAT2 := Lib.hid hat2
        have HZ1 := Lib.hid hz1
        have HZ2 := Lib.hid hz2
        have HR1 := Lib.hid r1
        have HR1' := Lib.hid r1'
        have HR2 := Lib.hid r2
        have HR2' := Lib.hid r2'
        have HTL := Lib.hid htl
        have HK := Lib.hid hK
        obtain ⟨ws, rfl⟩ : ∃ ws : World, ws = wr := ⟨_, rfl⟩
        have hzz := hK.size
        clear hA hB hT1 hT2 hT1l hT2l r1 r1' r2 r2' hts hat1 hat2 hz1 hz2 hK hW hk hlt htl
        go_wp2_with fail
        go_loopw [13, 15] (fun vp i wr => PRel T1 w ws.heap.size (ws.heap.size + 1) vp i wr) (fun _ i _ => 2000 - (intOf i).toNat)
        case atStart =>
          have hx0 := (lexAt_new HK.out (base := ws.heap.size) rfl (Nat.le_refl _) lexZero lexZero_eq).keeps' (G := []) ((Keeps.refl _ _).alloc (.cells lexZero 39)) (by simp) (by simp)
          have hy0 := lexAt_new (HK.out.alloc (.cells lexZero 39)) (base := ws.heap.size) (n := ws.heap.size + 1) (by simp) (by omega) lexZero lexZero_eq
          exact ⟨0, [ws.heap.size], by omega, rfl, Gath.start hx0 (by simp) (by simp), hy0⟩
        case round =>
          obtain ⟨q, F, hq, rfl, hg, hyl⟩ := hrel
          rw [HZ1.out] at hq
          by_cases hlt : q < Z1
          · obtain ⟨x, hx, hxl⟩ := HAT1.out q hlt
            have hx8 : x.toNat < 256 := x.toNat_lt
            obtain ⟨hok, hlen⟩ := rest_prefix HR1.out HR1'.out q
            obtain ⟨hok2, hlen2⟩ := rest_prefix HR1.out HR1'.out (q + 1)
            have hrt := run_take' hxl Lex.new
            have hst := lexed hg.at_ hzz (x.toNat : Int) (by omega) (by omega)
            obtain ⟨r, hr⟩ : ∃ r, (Lex.new.run (T1.take q)).1.step x.toNat = r := ⟨_, rfl⟩
            rw [hr] at hst hrt
            have he0 : r.1.e = 0 := by rw [hrt] at hok2; exact hok2
            have hl2 : r.2.length ≤ k := by
              rw [hrt] at hlen2
              simp only [List.length_append] at hlen2
              have := HTL.out
              omega
            have hl1 : (Lex.new.run (T1.take q)).2.length ≤ k := by have := HTL.out; omega
            have HG := Lib.hid hg
            have HY := Lib.hid hyl
            have HRT := Lib.hid hrt
            have HE := Lib.hid he0
            have hqi : (q : Int) < (Z1 : Int) := by omega
            clear hok hok2 hlen hlen2 hrt hr hg hyl hq he0 hxl
            go_wp2_with fail
            refine hst.mono ?_
            rintro e w1 ⟨v1, F1, rfl, ho1, h1, k1, hn1, _⟩
            simp only [ToksVal]
            rw [HE.out]
            have HH1 := Lib.hid h1
            have HK1 := Lib.hid k1
            have HN1 := Lib.hid hn1
            have HOT := Lib.hid ho1
            have hown1 := ownsRow_keeps HG.out.own k1 (fun i hi hm => HG.out.apart i hm (mem_blks.2 hi))
            have hsz1 := k1.size
            have hb1 := h1.base_le
            clear hst h1 k1 hn1 ho1
            go_wp2_with (at_builtin; refine app_toks rfl _ _ rfl ws.heap.size _ _ rfl hown1 wr.heap.size v1 r.2 rfl HOT.out (by omega) hb1 ?_)
            intro v2 w2 hown2 k2 hb2 _
            obtain ⟨hg2, kk2⟩ := Gath.next HG.out hzz HH1.out HK1.out HN1.out hown2 k2 hb2
            have hy2 := HY.out.keeps' kk2 (fun i hi hm => by
              rw [List.mem_singleton] at hi
              subst hi
              rcases List.mem_append.1 hm with hm | hm
              · exact HG.out.fz _ hm (by simp)
              · exact HG.out.gz _ hm (by simp)) (fun i hi => Nat.le_trans hzz (HG.out.low i hi))
            have HG2 := Lib.hid hg2
            have HY2 := Lib.hid hy2
            clear hg2 hy2 kk2 hown2 k2 hb2 hown1
            go_wp2_with fail
            go_roundw
            case rel => exact ⟨q + 1, F1, by have := HZ1.out; omega, by go_num, by rw [HRT.out]; exact HG2.out, HY2.out⟩
            case measure => simp [intOf]; omega
          · obtain rfl : q = Z1 := by omega
            have e1 : T1.take q = T1 := by rw [← HZ1.out, List.take_length]
            rw [e1, HR1.out] at hg
            have hown := hg.own
            have hny : ∀ i ∈ blks u13, i ≠ ws.heap.size + 1 := fun i hi hm => hg.gz i hi (by simp [hm])
            obtain ⟨wp, rfl⟩ : ∃ wp : World, wp = wr := ⟨_, rfl⟩
            have HO := Lib.hid hown
            have HY := Lib.hid hyl
            have HNY := Lib.hid hny
            clear hg hyl hown hny e1 hq hlt
            go_wp2_with fail
            go_loopw [14, 18] (fun vq i wr => QRel2 T2 ts w ws.heap.size (ws.heap.size + 1) u13 vq i wr) (fun _ i _ => 2000 - (intOf i).toNat)
            case atStart =>
              refine ⟨0, [ws.heap.size + 1], by omega, rfl, Gath.start HY.out (fun i hi hm => ?_) (fun i hi => ?_), HO.out⟩
              · rw [List.mem_singleton] at hi
                exact HNY.out i hm hi
              · exact (World.ownsRow.lt HO.out i (mem_blks.1 hi)).2
            case round =>
              obtain ⟨q, F, hq, rfl, hg, hop⟩ := hrel
              rw [HZ2.out] at hq
              by_cases hlt : q < Z2
              · obtain ⟨x, hx, hxl⟩ := HAT2.out q hlt
                have hx8 : x.toNat < 256 := x.toNat_lt
                obtain ⟨hok, hlen⟩ := rest_prefix HR2.out HR2'.out q
                obtain ⟨hok2, hlen2⟩ := rest_prefix HR2.out HR2'.out (q + 1)
                have hrt := run_take' hxl Lex.new
                have hst := lexed hg.at_ hzz (x.toNat : Int) (by omega) (by omega)
                obtain ⟨r, hr⟩ : ∃ r, (Lex.new.run (T2.take q)).1.step x.toNat = r := ⟨_, rfl⟩
                rw [hr] at hst hrt
                have he0 : r.1.e = 0 := by rw [hrt] at hok2; exact hok2
                have hl2 : r.2.length ≤ k := by
                  rw [hrt] at hlen2
                  simp only [List.length_append] at hlen2
                  have := HTL.out
                  omega
                have hl1 : (Lex.new.run (T2.take q)).2.length ≤ k := by have := HTL.out; omega
                have HG := Lib.hid hg
                have HOP := Lib.hid hop
                have HRT := Lib.hid hrt
                have HE := Lib.hid he0
                have hqi : (q : Int) < (Z2 : Int) := by omega
                clear hok hok2 hlen hlen2 hrt hr hg hop hq he0 hxl
                go_wp2_with fail
                refine hst.mono ?_
                rintro e w1 ⟨v1, F1, rfl, ho1, h1, k1, hn1, _⟩
                simp only [ToksVal]
                rw [HE.out]
                have HH1 := Lib.hid h1
                have HK1 := Lib.hid k1
                have HN1 := Lib.hid hn1
                have HOT := Lib.hid ho1
                have hown1 := ownsRow_keeps HG.out.own k1 (fun i hi hm => HG.out.apart i hm (mem_blks.2 hi))
                have hsz1 := k1.size
                have hb1 := h1.base_le
                clear hst h1 k1 hn1 ho1
                go_wp2_with (at_builtin; refine app_toks rfl _ _ rfl ws.heap.size _ _ rfl hown1 wr.heap.size v1 r.2 rfl HOT.out (by omega) hb1 ?_)
                intro v2 w2 hown2 k2 hb2 _
                obtain ⟨hg2, kk2⟩ := Gath.next HG.out hzz HH1.out HK1.out HN1.out hown2 k2 hb2
                have hop2 : OwnsToks w2 ws.heap.size u13 ts := ownsRow_keeps HOP.out kk2 (fun i hi hm => by
                  rcases List.mem_append.1 hm with hm | hm
                  · exact HG.out.fz _ hm (mem_blks.2 hi)
                  · exact HG.out.gz _ hm (mem_blks.2 hi))
                have HG2 := Lib.hid hg2
                have HOP2 := Lib.hid hop2
                clear hg2 hop2 kk2 hown2 k2 hb2 hown1
                go_wp2_with fail
                go_roundw
                case rel => exact ⟨q + 1, F1, by have := HZ2.out; omega, by go_num, by rw [HRT.out]; exact HG2.out, HOP2.out⟩
                case measure => simp [intOf]; omega
              · obtain rfl : q = Z2 := by omega
                have e1 : T2.take q = T2 := by rw [← HZ2.out, List.take_length]
                rw [e1, HR2.out] at hg
                obtain ⟨wq, rfl⟩ : ∃ wq : World, wq = wr := ⟨_, rfl⟩
                have hown := hg.own
                have HKE := Lib.hid hg.at_.keeps
                have HOQ := Lib.hid hown
                have HOP := Lib.hid hop
                obtain ⟨op, cp, hvp⟩ := OwnsToks.shape hop
                obtain ⟨oq, cq, hvq⟩ := OwnsToks.shape hown
                simp only [] at hvq
                have htl := HTL.out
                rw [htl] at hvp hvq
                subst hvp hvq
                clear hg hop hown e1 hq hlt htl
                go_wp2_with fail
                go_loopw [133] (fun i wr => EqRel k ts w ws.heap.size (.slice op k cp) (.slice oq k cq) i wr) (fun i _ => 100 - (intOf i).toNat)
                case atStart => exact ⟨0, by omega, rfl, HOP.out, HOQ.out, HKE.out⟩
                case round =>
                  obtain ⟨p, hp, rfl, h1, h2, h3⟩ := hrel
                  by_cases hlt : p < k
                  · have hne : ts ≠ [] := fun h0 => by have := HTL.out; rw [h0] at this; simp at this; omega
                    obtain ⟨g1, d1, f1, _, f1l, f1g⟩ := OwnsToks.get h1 hne
                    obtain ⟨g2, d2, f2, _, f2l, f2g⟩ := OwnsToks.get h2 hne
                    simp only [Value.slice.injEq] at f1 f2
                    obtain ⟨rfl, _, rfl⟩ := f1
                    obtain ⟨rfl, _, rfl⟩ := f2
                    have hpt : p < ts.length := by have := HTL.out; omega
                    obtain ⟨t, ht⟩ : ∃ t, ts[p]? = some t := ⟨_, List.getElem?_eq_getElem hpt⟩
                    have a0 := f1g p t ht 0 (by omega)
                    have a1 := f1g p t ht 1 (by omega)
                    have a2 := f1g p t ht 2 (by omega)
                    have a3 := f1g p t ht 3 (by omega)
                    have c0 := f2g p t ht 0 (by omega)
                    have c1 := f2g p t ht 1 (by omega)
                    have c2 := f2g p t ht 2 (by omega)
                    have c3 := f2g p t ht 3 (by omega)
                    simp only [Tok.cells, Nat.add_zero, List.getElem?_cons_zero, List.getElem?_cons_succ] at a0 a1 a2 a3 c0 c1 c2 c3
                    have hcp := h1.2
                    have H1 := Lib.hid h1
                    have H3 := Lib.hid h2
                    have H4 := Lib.hid h3
                    have hpi : (p : Int) < (k : Int) := by omega
                    clear f1g f2g h1 h2 h3 hcp hne
                    go_wp2_with fail
                    go_region
                    all_goals
                      go_wp2_with fail
                      go_roundw
                      case rel => exact ⟨p + 1, by omega, by go_num, ownsRow_keeps H1.out ((Keeps.refl [] _).drew) (by simp), ownsRow_keeps H3.out ((Keeps.refl [] _).drew) (by simp), H4.out.drew⟩
                      case measure => simp [intOf]; omega
                  · obtain rfl : p = k := by omega
                    have H4 := Lib.hid h3
                    clear h1 h2 h3 hlt
                    go_wp2_with fail
                    go_ret
                    exact ⟨rfl, H4.out⟩
end Go.Proofs.Ytenkbjpjpblccaa
