/-
  truchmanref1.Json: the walk of its loop; each arm's goal is kept for a theorem of its own.
-/
import Derived.Test.YtmhkgfddlkdmgaaRefJson0
namespace Go.Proofs.Ytmhkgfddlkdmgaa
open Go.RowKit Go.Tru
/-- a goal kept for later -/
structure Bx (a : Prop) : Prop where
  out : a

/-- the arms of the walk and what follows from them -/
structure JPlan where
  a_close : Prop
  a_comma : Prop
  a_colon : Prop
  a_str : Prop
  a_arr : Prop
  a_map : Prop
  a_num : Prop
  a_yes : Prop
  a_no : Prop
  a_null : Prop
  a_other : Prop
  a_end : Prop
  main : Bx a_close → Bx a_comma → Bx a_colon → Bx a_str → Bx a_arr → Bx a_map → Bx a_num → Bx a_yes → Bx a_no → Bx a_null → Bx a_other → Bx a_end → ∀ (s : ByteArray) (_ : s.size ≤ 1000) (w : World), Calls Try.prog 5 #[.string s, .int .i64 16, .bool true] w (JsonPost s w)

set_option maxHeartbeats 12800000 in
set_option maxRecDepth 100000 in
def json_plan : JPlan := by
  apply JPlan.mk
  case main =>
  intro Cclose Ccomma Ccolon Cstr Carr Cmap Cnum Cyes Cno Cnull Cother Cend s hs w
  go_enter Try.func5, Try.ntmps5
  go_wp2_with fail
  refine (toks_any s hs _).mono ?_
  rintro e w1 ⟨v, ts, x, h, rfl, hown, hsum, hh, k1⟩
  obtain ⟨oa, oc, rfl⟩ := hown.shape
  have HT := Lib.hid hown
  have HB6 := Lib.hid ((Has.new w [.slice none 0 0, .int .i64 0, .bool false, .int .i64 0] 26).keeps k1 (by simp))
  have K1 := Lib.hid (((Keeps.refl [] w).alloc _).trans k1)
  have z1 := k1.size
  have HSUM := Lib.hid hsum
  have hlen := tokSum_len ts
  have hlen2 : ts.length ≤ 1000 := by omega
  have hb6' : w.heap.size < w1.heap.size := HB6.out.lt
  clear hown k1 hsum
  go_wp2_with fail
  go_loopw [11, 12, 13] (fun vM may i wr => JsonRel ts w1.heap.size w1 vM may i wr) (fun _ _ i _ => ts.length - (intOf i).toNat)
  case atStart =>
    exact ⟨0, Js.new 16, [], .slice none 0 0, rfl, rfl, Nat.zero_le _, rfl, rfl, rfl, OwnsMaps.nil _ _, OwnsEvs.nil _ _, by simp [blks_nil], Has.new _ _ _, by simp, (Keeps.refl [] _).alloc _⟩
  case round =>
    obtain ⟨k, p, L, vL, rfl, rfl, hk, htk, hpe, hpd, hmp, hev, hap, hrd, hbr, hK⟩ := hrel
    have hz := hK.size
    obtain ⟨ma, mc, rfl⟩ := hmp.shape
    obtain ⟨la, lc, rfl⟩ := hev.shape
    have hLl : L.length ≤ k := by
      have := Js.len_toks (Js.new 16) (ts.take k)
      rw [htk, List.length_take] at this
      simp only [] at this
      omega
    have hjr : JRel (Js.new 16) [] false := ⟨rfl, by simp, rfl, Or.inr rfl⟩
    have hfit := Js.fit_toks (Js.fit_new (d := 16) (by omega)) (ts.take k)
    rw [htk] at hfit
    obtain ⟨st', d', hck, hj2⟩ := jrel_toks (ts.take k) hjr (Js.fit_new (by omega)) rfl
    rw [htk] at hj2
    have hsh := js_shape (hj2 hpe)
    have hml := hfit.maps
    rw [hpd] at hml
    clear hck hj2 hfit hjr
    have r0 := hrd.cell 0
    have r1 := hrd.cell 1
    have r2 := hrd.cell 2
    have r3 := hrd.cell 3
    simp only [List.getElem?_cons_zero, List.getElem?_cons_succ] at r0 r1 r2 r3
    have rf0 := hrd.free 0
    have rf1 := hrd.free 1
    have rf2 := hrd.free 2
    have rf3 := hrd.free 3
    have hbr1 : w1.heap.size < wr.heap.size + 1 := by omega
    have hbr2 : w1.heap.size < wr.heap.size + 1 + 1 := by omega
    have hb60 : w.heap.size < wr.heap.size := by omega
    have hb61 : w.heap.size < wr.heap.size + 1 := by omega
    have hb6 : w.heap.size < wr.heap.size + 1 + 1 := by omega
    have hne6 : ¬ w.heap.size = w1.heap.size := by omega
    have hne7 : ¬ w1.heap.size = w.heap.size := by omega
    have hB6 := HB6.out.keeps hK (by simp)
    have s0 := hB6.cell 0
    have s1 := hB6.cell 1
    have s2 := hB6.cell 2
    have s3 := hB6.cell 3
    simp only [List.getElem?_cons_zero, List.getElem?_cons_succ] at s0 s1 s2 s3
    have sf0 := hB6.free 0
    have sf1 := hB6.free 1
    have sf2 := hB6.free 2
    have sf3 := hB6.free 3
    have HR6 := Lib.hid hB6
    clear hB6
    by_cases hlt : k < ts.length
    · have hki : (k : Int) < (ts.length : Int) := by omega
      obtain ⟨t, ht⟩ : ∃ t, ts[k] = t := ⟨_, rfl⟩
      have hsn := jsToks_snoc (t := t) htk hpe
      rw [show ts.take k ++ [t] = ts.take (k + 1) by rw [List.take_succ_eq_append_getElem hlt, ht]] at hsn
      obtain ⟨g, rfl, -, hg3, hg4, hg2, q0, q1, q2, q3⟩ := OwnsRT.get (ownsRow_keeps HT.out hK (by simp)) (show ts[k]? = some t by rw [List.getElem?_eq_getElem hlt, ht])
      unfold maxLen at hg4
      have HRD := Lib.hid hrd
      have HMP := Lib.hid hmp
      have HEV := Lib.hid hev
      have HAP := Lib.hid hap
      have HK := Lib.hid hK
      have HSN := Lib.hid hsn
      clear hrd hmp hev hap hK hsn htk ht
      obtain ⟨pl, pd, mp, nx, pe⟩ := p
      obtain ⟨tk, tx, tn, tm⟩ := t
      simp only at hpe hpd hsh hml q0 q1 q2 q3
      subst hpe hpd
      go_upto_region 10 with fail
      go_cut [16] from 39 to 44 (fun c wx => c = .bool (decide (nx = 0 ∨ nx = 1)) ∧ wx = wr.alloc (.cells #[.int .u8 tk, .string tx, .bool tn, .int .u64 tm] 54))
      case first =>
        as_aux_lemma =>
        rcases (show nx = 0 ∨ nx = 1 ∨ ((nx == 0) = false ∧ (nx == 1) = false) by simp only [beq_eq_false_iff_ne, ne_eq]; omega) with rfl | rfl | ⟨n0, n1⟩
        all_goals
          go_wp2_with fail
          go_meet
          case rel =>
            refine ⟨?_, rfl⟩
            first
              | rfl
              | (have n0' := beq_eq_false_iff_ne.1 n0
                 have n1' := beq_eq_false_iff_ne.1 n1
                 rw [decide_eq_false (show ¬ (nx = 0 ∨ nx = 1) by omega)])
      case rest =>
        obtain ⟨rfl, rfl⟩ := hcut
        obtain ⟨vl, hvl⟩ : ∃ vl, decide (nx = 0 ∨ nx = 1) = vl := ⟨_, rfl⟩
        rw [hvl]
        have hgm : ∀ (m : Bool) (r : List Bool), mp = m :: r → ∃ gm, ma = some ⟨gm, 0, none⟩ ∧ gm < wr.heap.size ∧ mp.length ≤ mc ∧ mc ≤ 9223372036854775807 ∧ wr.cell? ⟨gm, r.length, none⟩ = some (.bool m) ∧ mp.length = r.length + 1 ∧ w1.heap.size < gm := by
          intro m r e
          subst e
          obtain ⟨gm, cap, e, h1, h2, h3, h4, h5⟩ := OwnsMaps.some_ HMP.out
          injection e with e1 e2 e3
          subst e1 e3
          unfold maxLen at h4
          exact ⟨gm, rfl, h2, by simp only [List.length_cons]; omega, by omega, h5, rfl, by omega⟩
        go_upto_region 11 with fail
        go_cut [17] from 45 to 87 (fun c wx => c = .bool (Js.ends ⟨pl, 16, mp, nx, 0⟩ ⟨tk, tx, tn, tm⟩) ∧ wx = wr.alloc (.cells #[.int .u8 tk, .string tx, .bool tn, .int .u64 tm] 54))
        case first =>
          as_aux_lemma =>
          rcases hsh with ⟨rfl, hn⟩ | ⟨r, rfl, hn⟩ | ⟨r, rfl, hn⟩
          · simp only [List.length_nil]
            go_wp2_with fail
            go_meet
            case rel => exact ⟨by simp [Js.ends], rfl⟩
          · obtain ⟨gm, rfl, g1, g2, g3, g4, g5, g6⟩ := hgm true r rfl
            rw [g5] at g2 ⊢
            have hr0 : (0 : Int) < (r.length : Int) + 1 := by omega
            rcases (show tk = 93 ∨ tk = 125 ∨ (tk == 93) = false ∧ (tk == 125) = false by simp only [beq_eq_false_iff_ne, ne_eq]; omega) with rfl | rfl | ⟨k1, k2⟩
            · clear hn
              go_wp2_with fail
              go_meet
              case rel => exact ⟨by simp [Js.ends], rfl⟩
            · rcases (show nx = 2 ∨ nx = 5 ∨ (nx == 2) = false ∧ (nx == 5) = false by simp only [beq_eq_false_iff_ne, ne_eq]; omega) with rfl | rfl | ⟨n1, n2⟩
              all_goals
                clear hn
                go_wp2_with fail
                go_meet
                case rel => exact ⟨by first | (simp [Js.ends]; done) | (simp at n1 n2; simp [Js.ends, n1, n2]), rfl⟩
            · clear hn
              go_wp2_with fail
              go_meet
              case rel => exact ⟨by simp at k1 k2; simp [Js.ends, k1, k2], rfl⟩
          · obtain ⟨gm, rfl, g1, g2, g3, g4, g5, g6⟩ := hgm false r rfl
            rw [g5] at g2 ⊢
            have hr0 : (0 : Int) < (r.length : Int) + 1 := by omega
            rcases (show tk = 93 ∨ tk = 125 ∨ (tk == 93) = false ∧ (tk == 125) = false by simp only [beq_eq_false_iff_ne, ne_eq]; omega) with rfl | rfl | ⟨k1, k2⟩
            · rcases (show nx = 1 ∨ nx = 5 ∨ (nx == 1) = false ∧ (nx == 5) = false by simp only [beq_eq_false_iff_ne, ne_eq]; omega) with rfl | rfl | ⟨n1, n2⟩
              all_goals
                clear hn
                go_wp2_with fail
                go_meet
                case rel => exact ⟨by first | (simp [Js.ends]; done) | (simp at n1 n2; simp [Js.ends, n1, n2]), rfl⟩
            · clear hn
              go_wp2_with fail
              go_meet
              case rel => exact ⟨by simp [Js.ends], rfl⟩
            · clear hn
              go_wp2_with fail
              go_meet
              case rel => exact ⟨by simp at k1 k2; simp [Js.ends, k1, k2], rfl⟩
        case rest =>
          obtain ⟨rfl, rfl⟩ := hcut
          obtain ⟨cl, hcl⟩ : ∃ cl, Js.ends ⟨pl, 16, mp, nx, 0⟩ ⟨tk, tx, tn, tm⟩ = cl := ⟨_, rfl⟩
          rw [hcl]
          have HCL := Lib.hid hcl
          have HVL := Lib.hid hvl
          have HSH := Lib.hid hsh
          cases cl with
          | true =>
            rename_i K_ a_ v39 v40 v41 v42 v43 v44 v45 v46 v47 v48 v49 v50 v51 v52 v53 v54 v55 v56 v57 v58 v59 v60 v61 v62 v63 v64 v65 v66 v67 v68 v69 v70 v71 v72 v73 v74 v75 v76 v77 v78 v79
               v80 v81 v82 v83 v84 v85 v86 v87 Q_ K_2 a_2 K_3 a_3
            revert s hs w w1 ts x h hh oc HB6 K1 z1 HSUM hlen hlen2 hb6' K_ a_ wr u14 u15 u16 u17 u18 u19 u27 u28 u29 u30 u31 u32 u33 u34 u35 u36 u37 u38 v39 v40 v41 v42 v43 v44 v45 v46 v47 v48
               v49 v50 v51 v52 v53 v54 v55 v56 v57 v58 v59 v60 v61 v62 v63 v64 v65 v66 v67 v68 v69 v70 v71 v72 v73 v74 v75 v76 v77 v78 v79 v80 v81 v82 v83 v84 v85 v86 v87 u88 u89 u90 u91 u92
               u93 u94 u95 u96 u97 u98 u99 u100 u101 u102 u103 u104 u105 u106 u107 u108 u109 u110 u111 u112 u113 u114 u115 u116 u117 u118 u119 u120 u121 u122 u123 u124 u125 u126 u127 u128 u129
               u130 u131 u132 u133 u134 u135 u136 u137 u138 u139 u140 u141 u142 u143 u144 u145 u146 u147 u148 u149 u150 u151 u152 u153 u154 u155 u156 u157 u158 u159 u160 u161 u162 u163 u164
               u165 u166 u167 u168 u169 u170 u171 u172 u173 u174 u175 u176 u177 u178 u179 u180 u181 u182 u183 u184 u185 u186 u187 u188 u189 u190 u191 u192 u193 u194 u195 u196 u197 u198 u199
               u200 u201 u202 u203 u204 u205 u206 u207 u208 u209 u210 u211 u212 u213 u214 u215 u216 u217 u218 u219 u220 u221 u222 u223 u224 u225 u226 u227 u228 u229 u230 u231 u232 u233 u234
               u235 u236 u237 u238 u239 u240 u241 u242 k L hk hbr hz ma mc la lc hLl st' d' r0 r1 r2 r3 rf0 rf1 rf2 rf3 hbr1 hbr2 hb60 hb61 hb6 hne6 hne7 s0 s1 s2 s3 sf0 sf1 sf2 sf3 HR6 hlt hki
               g HT hg3 hg4 hg2 HRD HEV HK pl mp nx hsh hml tk tx tn tm q0 q1 q2 q3 HMP HAP HSN Q_ K_2 a_2 u39 u40 u41 u42 u43 u44 vl hvl hgm K_3 a_3 u45 u46 u47 u48 u49 u50 u51 u52 u53 u54 u55
               u56 u57 u58 u59 u60 u61 u62 u63 u64 u65 u66 u67 u68 u69 u70 u71 u72 u73 u74 u75 u76 u77 u78 u79 u80 u81 u82 u83 u84 u85 u86 u87 HVL HSH hcl HCL
            exact Cclose.out
          | false =>
            clear hcl hvl hsh
            rcases jkind tk with rfl | rfl | rfl | rfl | rfl | rfl | rfl | rfl | rfl | ⟨j1, j2, j3, j4, j5, j6, j7, j8, j9⟩
            · skip
              rename_i K_ a_ v39 v40 v41 v42 v43 v44 v45 v46 v47 v48 v49 v50 v51 v52 v53 v54 v55 v56 v57 v58 v59 v60 v61 v62 v63 v64 v65 v66 v67 v68 v69 v70 v71 v72 v73 v74 v75 v76 v77 v78 v79
                 v80 v81 v82 v83 v84 v85 v86 v87 Q_ K_2 a_2 K_3 a_3
              revert s hs w w1 ts x h hh oc HB6 K1 z1 HSUM hlen hlen2 hb6' K_ a_ wr u14 u15 u16 u17 u18 u19 u27 u28 u29 u30 u31 u32 u33 u34 u35 u36 u37 u38 v39 v40 v41 v42 v43 v44 v45 v46 v47 v48
                 v49 v50 v51 v52 v53 v54 v55 v56 v57 v58 v59 v60 v61 v62 v63 v64 v65 v66 v67 v68 v69 v70 v71 v72 v73 v74 v75 v76 v77 v78 v79 v80 v81 v82 v83 v84 v85 v86 v87 u88 u89 u90 u91 u92
                 u93 u94 u95 u96 u97 u98 u99 u100 u101 u102 u103 u104 u105 u106 u107 u108 u109 u110 u111 u112 u113 u114 u115 u116 u117 u118 u119 u120 u121 u122 u123 u124 u125 u126 u127 u128 u129
                 u130 u131 u132 u133 u134 u135 u136 u137 u138 u139 u140 u141 u142 u143 u144 u145 u146 u147 u148 u149 u150 u151 u152 u153 u154 u155 u156 u157 u158 u159 u160 u161 u162 u163 u164
                 u165 u166 u167 u168 u169 u170 u171 u172 u173 u174 u175 u176 u177 u178 u179 u180 u181 u182 u183 u184 u185 u186 u187 u188 u189 u190 u191 u192 u193 u194 u195 u196 u197 u198 u199
                 u200 u201 u202 u203 u204 u205 u206 u207 u208 u209 u210 u211 u212 u213 u214 u215 u216 u217 u218 u219 u220 u221 u222 u223 u224 u225 u226 u227 u228 u229 u230 u231 u232 u233 u234
                 u235 u236 u237 u238 u239 u240 u241 u242 k L hk hbr hz ma mc la lc hLl st' d' r0 r1 r2 r3 rf0 rf1 rf2 rf3 hbr1 hbr2 hb60 hb61 hb6 hne6 hne7 s0 s1 s2 s3 sf0 sf1 sf2 sf3 HR6 hlt hki
                 g HT hg3 hg4 hg2 HRD HEV HK pl mp nx hml tx tn tm q1 q2 q3 HMP HAP Q_ K_2 a_2 u39 u40 u41 u42 u43 u44 vl hgm K_3 a_3 u45 u46 u47 u48 u49 u50 u51 u52 u53 u54 u55 u56 u57 u58 u59
                 u60 u61 u62 u63 u64 u65 u66 u67 u68 u69 u70 u71 u72 u73 u74 u75 u76 u77 u78 u79 u80 u81 u82 u83 u84 u85 u86 u87 HVL HSH q0 HSN HCL
              exact Ccomma.out
            · skip
              rename_i K_ a_ v39 v40 v41 v42 v43 v44 v45 v46 v47 v48 v49 v50 v51 v52 v53 v54 v55 v56 v57 v58 v59 v60 v61 v62 v63 v64 v65 v66 v67 v68 v69 v70 v71 v72 v73 v74 v75 v76 v77 v78 v79
                 v80 v81 v82 v83 v84 v85 v86 v87 Q_ K_2 a_2 K_3 a_3
              revert s hs w w1 ts x h hh oc HB6 K1 z1 HSUM hlen hlen2 hb6' K_ a_ wr u14 u15 u16 u17 u18 u19 u27 u28 u29 u30 u31 u32 u33 u34 u35 u36 u37 u38 v39 v40 v41 v42 v43 v44 v45 v46 v47 v48
                 v49 v50 v51 v52 v53 v54 v55 v56 v57 v58 v59 v60 v61 v62 v63 v64 v65 v66 v67 v68 v69 v70 v71 v72 v73 v74 v75 v76 v77 v78 v79 v80 v81 v82 v83 v84 v85 v86 v87 u88 u89 u90 u91 u92
                 u93 u94 u95 u96 u97 u98 u99 u100 u101 u102 u103 u104 u105 u106 u107 u108 u109 u110 u111 u112 u113 u114 u115 u116 u117 u118 u119 u120 u121 u122 u123 u124 u125 u126 u127 u128 u129
                 u130 u131 u132 u133 u134 u135 u136 u137 u138 u139 u140 u141 u142 u143 u144 u145 u146 u147 u148 u149 u150 u151 u152 u153 u154 u155 u156 u157 u158 u159 u160 u161 u162 u163 u164
                 u165 u166 u167 u168 u169 u170 u171 u172 u173 u174 u175 u176 u177 u178 u179 u180 u181 u182 u183 u184 u185 u186 u187 u188 u189 u190 u191 u192 u193 u194 u195 u196 u197 u198 u199
                 u200 u201 u202 u203 u204 u205 u206 u207 u208 u209 u210 u211 u212 u213 u214 u215 u216 u217 u218 u219 u220 u221 u222 u223 u224 u225 u226 u227 u228 u229 u230 u231 u232 u233 u234
                 u235 u236 u237 u238 u239 u240 u241 u242 k L hk hbr hz ma mc la lc hLl st' d' r0 r1 r2 r3 rf0 rf1 rf2 rf3 hbr1 hbr2 hb60 hb61 hb6 hne6 hne7 s0 s1 s2 s3 sf0 sf1 sf2 sf3 HR6 hlt hki
                 g HT hg3 hg4 hg2 HRD HEV HK pl mp nx hml tx tn tm q1 q2 q3 HMP HAP Q_ K_2 a_2 u39 u40 u41 u42 u43 u44 vl hgm K_3 a_3 u45 u46 u47 u48 u49 u50 u51 u52 u53 u54 u55 u56 u57 u58 u59
                 u60 u61 u62 u63 u64 u65 u66 u67 u68 u69 u70 u71 u72 u73 u74 u75 u76 u77 u78 u79 u80 u81 u82 u83 u84 u85 u86 u87 HVL HSH q0 HSN HCL
              exact Ccolon.out
            · skip
              rename_i K_ a_ v39 v40 v41 v42 v43 v44 v45 v46 v47 v48 v49 v50 v51 v52 v53 v54 v55 v56 v57 v58 v59 v60 v61 v62 v63 v64 v65 v66 v67 v68 v69 v70 v71 v72 v73 v74 v75 v76 v77 v78 v79
                 v80 v81 v82 v83 v84 v85 v86 v87 Q_ K_2 a_2 K_3 a_3
              revert s hs w w1 ts x h hh oc HB6 K1 z1 HSUM hlen hlen2 hb6' K_ a_ wr u14 u15 u16 u17 u18 u19 u27 u28 u29 u30 u31 u32 u33 u34 u35 u36 u37 u38 v39 v40 v41 v42 v43 v44 v45 v46 v47 v48
                 v49 v50 v51 v52 v53 v54 v55 v56 v57 v58 v59 v60 v61 v62 v63 v64 v65 v66 v67 v68 v69 v70 v71 v72 v73 v74 v75 v76 v77 v78 v79 v80 v81 v82 v83 v84 v85 v86 v87 u88 u89 u90 u91 u92
                 u93 u94 u95 u96 u97 u98 u99 u100 u101 u102 u103 u104 u105 u106 u107 u108 u109 u110 u111 u112 u113 u114 u115 u116 u117 u118 u119 u120 u121 u122 u123 u124 u125 u126 u127 u128 u129
                 u130 u131 u132 u133 u134 u135 u136 u137 u138 u139 u140 u141 u142 u143 u144 u145 u146 u147 u148 u149 u150 u151 u152 u153 u154 u155 u156 u157 u158 u159 u160 u161 u162 u163 u164
                 u165 u166 u167 u168 u169 u170 u171 u172 u173 u174 u175 u176 u177 u178 u179 u180 u181 u182 u183 u184 u185 u186 u187 u188 u189 u190 u191 u192 u193 u194 u195 u196 u197 u198 u199
                 u200 u201 u202 u203 u204 u205 u206 u207 u208 u209 u210 u211 u212 u213 u214 u215 u216 u217 u218 u219 u220 u221 u222 u223 u224 u225 u226 u227 u228 u229 u230 u231 u232 u233 u234
                 u235 u236 u237 u238 u239 u240 u241 u242 k L hk hbr hz ma mc la lc hLl st' d' r0 r1 r2 r3 rf0 rf1 rf2 rf3 hbr1 hbr2 hb60 hb61 hb6 hne6 hne7 s0 s1 s2 s3 sf0 sf1 sf2 sf3 HR6 hlt hki
                 g HT hg3 hg4 hg2 HRD HEV HK pl mp nx hml tx tn tm q1 q2 q3 HMP HAP Q_ K_2 a_2 u39 u40 u41 u42 u43 u44 vl hgm K_3 a_3 u45 u46 u47 u48 u49 u50 u51 u52 u53 u54 u55 u56 u57 u58 u59
                 u60 u61 u62 u63 u64 u65 u66 u67 u68 u69 u70 u71 u72 u73 u74 u75 u76 u77 u78 u79 u80 u81 u82 u83 u84 u85 u86 u87 HVL HSH q0 HSN HCL
              exact Cstr.out
            · skip
              rename_i K_ a_ v39 v40 v41 v42 v43 v44 v45 v46 v47 v48 v49 v50 v51 v52 v53 v54 v55 v56 v57 v58 v59 v60 v61 v62 v63 v64 v65 v66 v67 v68 v69 v70 v71 v72 v73 v74 v75 v76 v77 v78 v79
                 v80 v81 v82 v83 v84 v85 v86 v87 Q_ K_2 a_2 K_3 a_3
              revert s hs w w1 ts x h hh oc HB6 K1 z1 HSUM hlen hlen2 hb6' K_ a_ wr u14 u15 u16 u17 u18 u19 u27 u28 u29 u30 u31 u32 u33 u34 u35 u36 u37 u38 v39 v40 v41 v42 v43 v44 v45 v46 v47 v48
                 v49 v50 v51 v52 v53 v54 v55 v56 v57 v58 v59 v60 v61 v62 v63 v64 v65 v66 v67 v68 v69 v70 v71 v72 v73 v74 v75 v76 v77 v78 v79 v80 v81 v82 v83 v84 v85 v86 v87 u88 u89 u90 u91 u92
                 u93 u94 u95 u96 u97 u98 u99 u100 u101 u102 u103 u104 u105 u106 u107 u108 u109 u110 u111 u112 u113 u114 u115 u116 u117 u118 u119 u120 u121 u122 u123 u124 u125 u126 u127 u128 u129
                 u130 u131 u132 u133 u134 u135 u136 u137 u138 u139 u140 u141 u142 u143 u144 u145 u146 u147 u148 u149 u150 u151 u152 u153 u154 u155 u156 u157 u158 u159 u160 u161 u162 u163 u164
                 u165 u166 u167 u168 u169 u170 u171 u172 u173 u174 u175 u176 u177 u178 u179 u180 u181 u182 u183 u184 u185 u186 u187 u188 u189 u190 u191 u192 u193 u194 u195 u196 u197 u198 u199
                 u200 u201 u202 u203 u204 u205 u206 u207 u208 u209 u210 u211 u212 u213 u214 u215 u216 u217 u218 u219 u220 u221 u222 u223 u224 u225 u226 u227 u228 u229 u230 u231 u232 u233 u234
                 u235 u236 u237 u238 u239 u240 u241 u242 k L hk hbr hz ma mc la lc hLl st' d' r0 r1 r2 r3 rf0 rf1 rf2 rf3 hbr1 hbr2 hb60 hb61 hb6 hne6 hne7 s0 s1 s2 s3 sf0 sf1 sf2 sf3 HR6 hlt hki
                 g HT hg3 hg4 hg2 HRD HEV HK pl mp nx hml tx tn tm q1 q2 q3 HMP HAP Q_ K_2 a_2 u39 u40 u41 u42 u43 u44 vl hgm K_3 a_3 u45 u46 u47 u48 u49 u50 u51 u52 u53 u54 u55 u56 u57 u58 u59
                 u60 u61 u62 u63 u64 u65 u66 u67 u68 u69 u70 u71 u72 u73 u74 u75 u76 u77 u78 u79 u80 u81 u82 u83 u84 u85 u86 u87 HVL HSH q0 HSN HCL
              exact Carr.out
            · skip
              rename_i K_ a_ v39 v40 v41 v42 v43 v44 v45 v46 v47 v48 v49 v50 v51 v52 v53 v54 v55 v56 v57 v58 v59 v60 v61 v62 v63 v64 v65 v66 v67 v68 v69 v70 v71 v72 v73 v74 v75 v76 v77 v78 v79
                 v80 v81 v82 v83 v84 v85 v86 v87 Q_ K_2 a_2 K_3 a_3
              revert s hs w w1 ts x h hh oc HB6 K1 z1 HSUM hlen hlen2 hb6' K_ a_ wr u14 u15 u16 u17 u18 u19 u27 u28 u29 u30 u31 u32 u33 u34 u35 u36 u37 u38 v39 v40 v41 v42 v43 v44 v45 v46 v47 v48
                 v49 v50 v51 v52 v53 v54 v55 v56 v57 v58 v59 v60 v61 v62 v63 v64 v65 v66 v67 v68 v69 v70 v71 v72 v73 v74 v75 v76 v77 v78 v79 v80 v81 v82 v83 v84 v85 v86 v87 u88 u89 u90 u91 u92
                 u93 u94 u95 u96 u97 u98 u99 u100 u101 u102 u103 u104 u105 u106 u107 u108 u109 u110 u111 u112 u113 u114 u115 u116 u117 u118 u119 u120 u121 u122 u123 u124 u125 u126 u127 u128 u129
                 u130 u131 u132 u133 u134 u135 u136 u137 u138 u139 u140 u141 u142 u143 u144 u145 u146 u147 u148 u149 u150 u151 u152 u153 u154 u155 u156 u157 u158 u159 u160 u161 u162 u163 u164
                 u165 u166 u167 u168 u169 u170 u171 u172 u173 u174 u175 u176 u177 u178 u179 u180 u181 u182 u183 u184 u185 u186 u187 u188 u189 u190 u191 u192 u193 u194 u195 u196 u197 u198 u199
                 u200 u201 u202 u203 u204 u205 u206 u207 u208 u209 u210 u211 u212 u213 u214 u215 u216 u217 u218 u219 u220 u221 u222 u223 u224 u225 u226 u227 u228 u229 u230 u231 u232 u233 u234
                 u235 u236 u237 u238 u239 u240 u241 u242 k L hk hbr hz ma mc la lc hLl st' d' r0 r1 r2 r3 rf0 rf1 rf2 rf3 hbr1 hbr2 hb60 hb61 hb6 hne6 hne7 s0 s1 s2 s3 sf0 sf1 sf2 sf3 HR6 hlt hki
                 g HT hg3 hg4 hg2 HRD HEV HK pl mp nx hml tx tn tm q1 q2 q3 HMP HAP Q_ K_2 a_2 u39 u40 u41 u42 u43 u44 vl hgm K_3 a_3 u45 u46 u47 u48 u49 u50 u51 u52 u53 u54 u55 u56 u57 u58 u59
                 u60 u61 u62 u63 u64 u65 u66 u67 u68 u69 u70 u71 u72 u73 u74 u75 u76 u77 u78 u79 u80 u81 u82 u83 u84 u85 u86 u87 HVL HSH q0 HSN HCL
              exact Cmap.out
            · skip
              rename_i K_ a_ v39 v40 v41 v42 v43 v44 v45 v46 v47 v48 v49 v50 v51 v52 v53 v54 v55 v56 v57 v58 v59 v60 v61 v62 v63 v64 v65 v66 v67 v68 v69 v70 v71 v72 v73 v74 v75 v76 v77 v78 v79
                 v80 v81 v82 v83 v84 v85 v86 v87 Q_ K_2 a_2 K_3 a_3
              revert s hs w w1 ts x h hh oc HB6 K1 z1 HSUM hlen hlen2 hb6' K_ a_ wr u14 u15 u16 u17 u18 u19 u27 u28 u29 u30 u31 u32 u33 u34 u35 u36 u37 u38 v39 v40 v41 v42 v43 v44 v45 v46 v47 v48
                 v49 v50 v51 v52 v53 v54 v55 v56 v57 v58 v59 v60 v61 v62 v63 v64 v65 v66 v67 v68 v69 v70 v71 v72 v73 v74 v75 v76 v77 v78 v79 v80 v81 v82 v83 v84 v85 v86 v87 u88 u89 u90 u91 u92
                 u93 u94 u95 u96 u97 u98 u99 u100 u101 u102 u103 u104 u105 u106 u107 u108 u109 u110 u111 u112 u113 u114 u115 u116 u117 u118 u119 u120 u121 u122 u123 u124 u125 u126 u127 u128 u129
                 u130 u131 u132 u133 u134 u135 u136 u137 u138 u139 u140 u141 u142 u143 u144 u145 u146 u147 u148 u149 u150 u151 u152 u153 u154 u155 u156 u157 u158 u159 u160 u161 u162 u163 u164
                 u165 u166 u167 u168 u169 u170 u171 u172 u173 u174 u175 u176 u177 u178 u179 u180 u181 u182 u183 u184 u185 u186 u187 u188 u189 u190 u191 u192 u193 u194 u195 u196 u197 u198 u199
                 u200 u201 u202 u203 u204 u205 u206 u207 u208 u209 u210 u211 u212 u213 u214 u215 u216 u217 u218 u219 u220 u221 u222 u223 u224 u225 u226 u227 u228 u229 u230 u231 u232 u233 u234
                 u235 u236 u237 u238 u239 u240 u241 u242 k L hk hbr hz ma mc la lc hLl st' d' r0 r1 r2 r3 rf0 rf1 rf2 rf3 hbr1 hbr2 hb60 hb61 hb6 hne6 hne7 s0 s1 s2 s3 sf0 sf1 sf2 sf3 HR6 hlt hki
                 g HT hg3 hg4 hg2 HRD HEV HK pl mp nx hml tx tn tm q1 q2 q3 HMP HAP Q_ K_2 a_2 u39 u40 u41 u42 u43 u44 vl hgm K_3 a_3 u45 u46 u47 u48 u49 u50 u51 u52 u53 u54 u55 u56 u57 u58 u59
                 u60 u61 u62 u63 u64 u65 u66 u67 u68 u69 u70 u71 u72 u73 u74 u75 u76 u77 u78 u79 u80 u81 u82 u83 u84 u85 u86 u87 HVL HSH q0 HSN HCL
              exact Cnum.out
            · skip
              rename_i K_ a_ v39 v40 v41 v42 v43 v44 v45 v46 v47 v48 v49 v50 v51 v52 v53 v54 v55 v56 v57 v58 v59 v60 v61 v62 v63 v64 v65 v66 v67 v68 v69 v70 v71 v72 v73 v74 v75 v76 v77 v78 v79
                 v80 v81 v82 v83 v84 v85 v86 v87 Q_ K_2 a_2 K_3 a_3
              revert s hs w w1 ts x h hh oc HB6 K1 z1 HSUM hlen hlen2 hb6' K_ a_ wr u14 u15 u16 u17 u18 u19 u27 u28 u29 u30 u31 u32 u33 u34 u35 u36 u37 u38 v39 v40 v41 v42 v43 v44 v45 v46 v47 v48
                 v49 v50 v51 v52 v53 v54 v55 v56 v57 v58 v59 v60 v61 v62 v63 v64 v65 v66 v67 v68 v69 v70 v71 v72 v73 v74 v75 v76 v77 v78 v79 v80 v81 v82 v83 v84 v85 v86 v87 u88 u89 u90 u91 u92
                 u93 u94 u95 u96 u97 u98 u99 u100 u101 u102 u103 u104 u105 u106 u107 u108 u109 u110 u111 u112 u113 u114 u115 u116 u117 u118 u119 u120 u121 u122 u123 u124 u125 u126 u127 u128 u129
                 u130 u131 u132 u133 u134 u135 u136 u137 u138 u139 u140 u141 u142 u143 u144 u145 u146 u147 u148 u149 u150 u151 u152 u153 u154 u155 u156 u157 u158 u159 u160 u161 u162 u163 u164
                 u165 u166 u167 u168 u169 u170 u171 u172 u173 u174 u175 u176 u177 u178 u179 u180 u181 u182 u183 u184 u185 u186 u187 u188 u189 u190 u191 u192 u193 u194 u195 u196 u197 u198 u199
                 u200 u201 u202 u203 u204 u205 u206 u207 u208 u209 u210 u211 u212 u213 u214 u215 u216 u217 u218 u219 u220 u221 u222 u223 u224 u225 u226 u227 u228 u229 u230 u231 u232 u233 u234
                 u235 u236 u237 u238 u239 u240 u241 u242 k L hk hbr hz ma mc la lc hLl st' d' r0 r1 r2 r3 rf0 rf1 rf2 rf3 hbr1 hbr2 hb60 hb61 hb6 hne6 hne7 s0 s1 s2 s3 sf0 sf1 sf2 sf3 HR6 hlt hki
                 g HT hg3 hg4 hg2 HRD HEV HK pl mp nx hml tx tn tm q1 q2 q3 HMP HAP Q_ K_2 a_2 u39 u40 u41 u42 u43 u44 vl hgm K_3 a_3 u45 u46 u47 u48 u49 u50 u51 u52 u53 u54 u55 u56 u57 u58 u59
                 u60 u61 u62 u63 u64 u65 u66 u67 u68 u69 u70 u71 u72 u73 u74 u75 u76 u77 u78 u79 u80 u81 u82 u83 u84 u85 u86 u87 HVL HSH q0 HSN HCL
              exact Cyes.out
            · skip
              rename_i K_ a_ v39 v40 v41 v42 v43 v44 v45 v46 v47 v48 v49 v50 v51 v52 v53 v54 v55 v56 v57 v58 v59 v60 v61 v62 v63 v64 v65 v66 v67 v68 v69 v70 v71 v72 v73 v74 v75 v76 v77 v78 v79
                 v80 v81 v82 v83 v84 v85 v86 v87 Q_ K_2 a_2 K_3 a_3
              revert s hs w w1 ts x h hh oc HB6 K1 z1 HSUM hlen hlen2 hb6' K_ a_ wr u14 u15 u16 u17 u18 u19 u27 u28 u29 u30 u31 u32 u33 u34 u35 u36 u37 u38 v39 v40 v41 v42 v43 v44 v45 v46 v47 v48
                 v49 v50 v51 v52 v53 v54 v55 v56 v57 v58 v59 v60 v61 v62 v63 v64 v65 v66 v67 v68 v69 v70 v71 v72 v73 v74 v75 v76 v77 v78 v79 v80 v81 v82 v83 v84 v85 v86 v87 u88 u89 u90 u91 u92
                 u93 u94 u95 u96 u97 u98 u99 u100 u101 u102 u103 u104 u105 u106 u107 u108 u109 u110 u111 u112 u113 u114 u115 u116 u117 u118 u119 u120 u121 u122 u123 u124 u125 u126 u127 u128 u129
                 u130 u131 u132 u133 u134 u135 u136 u137 u138 u139 u140 u141 u142 u143 u144 u145 u146 u147 u148 u149 u150 u151 u152 u153 u154 u155 u156 u157 u158 u159 u160 u161 u162 u163 u164
                 u165 u166 u167 u168 u169 u170 u171 u172 u173 u174 u175 u176 u177 u178 u179 u180 u181 u182 u183 u184 u185 u186 u187 u188 u189 u190 u191 u192 u193 u194 u195 u196 u197 u198 u199
                 u200 u201 u202 u203 u204 u205 u206 u207 u208 u209 u210 u211 u212 u213 u214 u215 u216 u217 u218 u219 u220 u221 u222 u223 u224 u225 u226 u227 u228 u229 u230 u231 u232 u233 u234
                 u235 u236 u237 u238 u239 u240 u241 u242 k L hk hbr hz ma mc la lc hLl st' d' r0 r1 r2 r3 rf0 rf1 rf2 rf3 hbr1 hbr2 hb60 hb61 hb6 hne6 hne7 s0 s1 s2 s3 sf0 sf1 sf2 sf3 HR6 hlt hki
                 g HT hg3 hg4 hg2 HRD HEV HK pl mp nx hml tx tn tm q1 q2 q3 HMP HAP Q_ K_2 a_2 u39 u40 u41 u42 u43 u44 vl hgm K_3 a_3 u45 u46 u47 u48 u49 u50 u51 u52 u53 u54 u55 u56 u57 u58 u59
                 u60 u61 u62 u63 u64 u65 u66 u67 u68 u69 u70 u71 u72 u73 u74 u75 u76 u77 u78 u79 u80 u81 u82 u83 u84 u85 u86 u87 HVL HSH q0 HSN HCL
              exact Cno.out
            · skip
              rename_i K_ a_ v39 v40 v41 v42 v43 v44 v45 v46 v47 v48 v49 v50 v51 v52 v53 v54 v55 v56 v57 v58 v59 v60 v61 v62 v63 v64 v65 v66 v67 v68 v69 v70 v71 v72 v73 v74 v75 v76 v77 v78 v79
                 v80 v81 v82 v83 v84 v85 v86 v87 Q_ K_2 a_2 K_3 a_3
              revert s hs w w1 ts x h hh oc HB6 K1 z1 HSUM hlen hlen2 hb6' K_ a_ wr u14 u15 u16 u17 u18 u19 u27 u28 u29 u30 u31 u32 u33 u34 u35 u36 u37 u38 v39 v40 v41 v42 v43 v44 v45 v46 v47 v48
                 v49 v50 v51 v52 v53 v54 v55 v56 v57 v58 v59 v60 v61 v62 v63 v64 v65 v66 v67 v68 v69 v70 v71 v72 v73 v74 v75 v76 v77 v78 v79 v80 v81 v82 v83 v84 v85 v86 v87 u88 u89 u90 u91 u92
                 u93 u94 u95 u96 u97 u98 u99 u100 u101 u102 u103 u104 u105 u106 u107 u108 u109 u110 u111 u112 u113 u114 u115 u116 u117 u118 u119 u120 u121 u122 u123 u124 u125 u126 u127 u128 u129
                 u130 u131 u132 u133 u134 u135 u136 u137 u138 u139 u140 u141 u142 u143 u144 u145 u146 u147 u148 u149 u150 u151 u152 u153 u154 u155 u156 u157 u158 u159 u160 u161 u162 u163 u164
                 u165 u166 u167 u168 u169 u170 u171 u172 u173 u174 u175 u176 u177 u178 u179 u180 u181 u182 u183 u184 u185 u186 u187 u188 u189 u190 u191 u192 u193 u194 u195 u196 u197 u198 u199
                 u200 u201 u202 u203 u204 u205 u206 u207 u208 u209 u210 u211 u212 u213 u214 u215 u216 u217 u218 u219 u220 u221 u222 u223 u224 u225 u226 u227 u228 u229 u230 u231 u232 u233 u234
                 u235 u236 u237 u238 u239 u240 u241 u242 k L hk hbr hz ma mc la lc hLl st' d' r0 r1 r2 r3 rf0 rf1 rf2 rf3 hbr1 hbr2 hb60 hb61 hb6 hne6 hne7 s0 s1 s2 s3 sf0 sf1 sf2 sf3 HR6 hlt hki
                 g HT hg3 hg4 hg2 HRD HEV HK pl mp nx hml tx tn tm q1 q2 q3 HMP HAP Q_ K_2 a_2 u39 u40 u41 u42 u43 u44 vl hgm K_3 a_3 u45 u46 u47 u48 u49 u50 u51 u52 u53 u54 u55 u56 u57 u58 u59
                 u60 u61 u62 u63 u64 u65 u66 u67 u68 u69 u70 u71 u72 u73 u74 u75 u76 u77 u78 u79 u80 u81 u82 u83 u84 u85 u86 u87 HVL HSH q0 HSN HCL
              exact Cnull.out
            · skip
              rename_i K_ a_ v39 v40 v41 v42 v43 v44 v45 v46 v47 v48 v49 v50 v51 v52 v53 v54 v55 v56 v57 v58 v59 v60 v61 v62 v63 v64 v65 v66 v67 v68 v69 v70 v71 v72 v73 v74 v75 v76 v77 v78 v79
                 v80 v81 v82 v83 v84 v85 v86 v87 Q_ K_2 a_2 K_3 a_3
              revert s hs w w1 ts x h hh oc HB6 K1 z1 HSUM hlen hlen2 hb6' K_ a_ wr u14 u15 u16 u17 u18 u19 u27 u28 u29 u30 u31 u32 u33 u34 u35 u36 u37 u38 v39 v40 v41 v42 v43 v44 v45 v46 v47 v48
                 v49 v50 v51 v52 v53 v54 v55 v56 v57 v58 v59 v60 v61 v62 v63 v64 v65 v66 v67 v68 v69 v70 v71 v72 v73 v74 v75 v76 v77 v78 v79 v80 v81 v82 v83 v84 v85 v86 v87 u88 u89 u90 u91 u92
                 u93 u94 u95 u96 u97 u98 u99 u100 u101 u102 u103 u104 u105 u106 u107 u108 u109 u110 u111 u112 u113 u114 u115 u116 u117 u118 u119 u120 u121 u122 u123 u124 u125 u126 u127 u128 u129
                 u130 u131 u132 u133 u134 u135 u136 u137 u138 u139 u140 u141 u142 u143 u144 u145 u146 u147 u148 u149 u150 u151 u152 u153 u154 u155 u156 u157 u158 u159 u160 u161 u162 u163 u164
                 u165 u166 u167 u168 u169 u170 u171 u172 u173 u174 u175 u176 u177 u178 u179 u180 u181 u182 u183 u184 u185 u186 u187 u188 u189 u190 u191 u192 u193 u194 u195 u196 u197 u198 u199
                 u200 u201 u202 u203 u204 u205 u206 u207 u208 u209 u210 u211 u212 u213 u214 u215 u216 u217 u218 u219 u220 u221 u222 u223 u224 u225 u226 u227 u228 u229 u230 u231 u232 u233 u234
                 u235 u236 u237 u238 u239 u240 u241 u242 k L hk hbr hz ma mc la lc hLl st' d' r0 r1 r2 r3 rf0 rf1 rf2 rf3 hbr1 hbr2 hb60 hb61 hb6 hne6 hne7 s0 s1 s2 s3 sf0 sf1 sf2 sf3 HR6 hlt hki
                 g HT hg3 hg4 hg2 HRD HEV HK pl mp nx hml tk tx tn tm q0 q1 q2 q3 HMP HAP HSN Q_ K_2 a_2 u39 u40 u41 u42 u43 u44 vl hgm K_3 a_3 u45 u46 u47 u48 u49 u50 u51 u52 u53 u54 u55 u56 u57
                 u58 u59 u60 u61 u62 u63 u64 u65 u66 u67 u68 u69 u70 u71 u72 u73 u74 u75 u76 u77 u78 u79 u80 u81 u82 u83 u84 u85 u86 u87 HVL HSH HCL j1 j2 j3 j4 j5 j6 j7 j8 j9
              exact Cother.out
    · skip
      rename_i K_ a_
      revert s hs w w1 ts x h hh oa oc HT HB6 K1 z1 HSUM hlen hlen2 hb6' K_ a_ wr u14 u15 u16 u17 u18 u19 u27 u28 u29 u30 u31 u32 u33 u34 u35 u36 u37 u38 u39 u40 u41 u42 u43 u44 u45 u46
         u47 u48 u49 u50 u51 u52 u53 u54 u55 u56 u57 u58 u59 u60 u61 u62 u63 u64 u65 u66 u67 u68 u69 u70 u71 u72 u73 u74 u75 u76 u77 u78 u79 u80 u81 u82 u83 u84 u85 u86 u87 u88 u89 u90
         u91 u92 u93 u94 u95 u96 u97 u98 u99 u100 u101 u102 u103 u104 u105 u106 u107 u108 u109 u110 u111 u112 u113 u114 u115 u116 u117 u118 u119 u120 u121 u122 u123 u124 u125 u126 u127
         u128 u129 u130 u131 u132 u133 u134 u135 u136 u137 u138 u139 u140 u141 u142 u143 u144 u145 u146 u147 u148 u149 u150 u151 u152 u153 u154 u155 u156 u157 u158 u159 u160 u161 u162
         u163 u164 u165 u166 u167 u168 u169 u170 u171 u172 u173 u174 u175 u176 u177 u178 u179 u180 u181 u182 u183 u184 u185 u186 u187 u188 u189 u190 u191 u192 u193 u194 u195 u196 u197
         u198 u199 u200 u201 u202 u203 u204 u205 u206 u207 u208 u209 u210 u211 u212 u213 u214 u215 u216 u217 u218 u219 u220 u221 u222 u223 u224 u225 u226 u227 u228 u229 u230 u231 u232
         u233 u234 u235 u236 u237 u238 u239 u240 u241 u242 k p L hk htk hpe hpd hbr hK hz ma mc hmp la lc hev hrd hap hLl st' d' hsh hml r0 r1 r2 r3 rf0 rf1 rf2 rf3 hbr1 hbr2 hb60 hb61
         hb6 hne6 hne7 s0 s1 s2 s3 sf0 sf1 sf2 sf3 HR6 hlt
      exact Cend.out
end Go.Proofs.Ytmhkgfddlkdmgaa
