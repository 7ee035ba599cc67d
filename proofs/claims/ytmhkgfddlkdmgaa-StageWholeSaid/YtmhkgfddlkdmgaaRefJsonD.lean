/-
  truchmanref1.Json: arms of its loop (arr).
-/
import Derived.Test.YtmhkgfddlkdmgaaRefJsonP
namespace Go.Proofs.Ytmhkgfddlkdmgaa
open Go.RowKit Go.Tru
set_option maxHeartbeats 12800000 in
set_option maxRecDepth 100000 in
theorem jarm_arr : json_plan.a_arr := by
  intro s hs w w1 ts x h hh oc HB6 K1 z1 HSUM hlen hlen2 hb6' K_ a_ wr u14 u15 u16 u17 u18 u19 u27 u28 u29 u30 u31 u32 u33 u34 u35 u36 u37 u38 v39 v40 v41 v42 v43 v44 v45 v46 v47 v48
     v49 v50 v51 v52 v53 v54 v55 v56 v57 v58 v59 v60 v61 v62 v63 v64 v65 v66 v67 v68 v69 v70 v71 v72 v73 v74 v75 v76 v77 v78 v79 v80 v81 v82 v83 v84 v85 v86 v87 u88 u89 u90 u91 u92
     u93 u94 u95 u96 u97 u98 u99 u100 u101 u102 u103 u104 u105 u106 u107 u108 u109 u110 u111 u112 u113 u114 u115 u116 u117 u118 u119 u120 u121 u122 u123 u124 u125 u126 u127 u128 u129
     u130 u131 u132 u133 u134 u135 u136 u137 u138 u139 u140 u141 u142 u143 u144 u145 u146 u147 u148 u149 u150 u151 u152 u153 u154 u155 u156 u157 u158 u159 u160 u161 u162 u163 u164
     u165 u166 u167 u168 u169 u170 u171 u172 u173 u174 u175 u176 u177 u178 u179 u180 u181 u182 u183 u184 u185 u186 u187 u188 u189 u190 u191 u192 u193 u194 u195 u196 u197 u198 u199
     u200 u201 u202 u203 u204 u205 u206 u207 u208 u209 u210 u211 u212 u213 u214 u215 u216 u217 u218 u219 u220 u221 u222 u223 u224 u225 u226 u227 u228 u229 u230 u231 u232 u233 u234
     u235 u236 u237 u238 u239 u240 u241 u242 k L hk hbr hz ma mc la lc hLl st' d' r0 r1 r2 r3 rf0 rf1 rf2 rf3 hbr1 hbr2 hb60 hb61 hb6 hne6 hne7 s0 s1 s2 s3 sf0 sf1 sf2 sf3 HR6 hlt hki
     g HT hg3 hg4 hg2 HRD HEV HK pl mp nx hml tx tn tm q1 q2 q3 HMP HAP Q_ K_2 a_2 u39 u40 u41 u42 u43 u44 vl hgm K_3 a_3 u45 u46 u47 u48 u49 u50 u51 u52 u53 u54 u55 u56 u57 u58 u59
     u60 u61 u62 u63 u64 u65 u66 u67 u68 u69 u70 u71 u72 u73 u74 u75 u76 u77 u78 u79 u80 u81 u82 u83 u84 u85 u86 u87 HVL HSH q0 HSN HCL
  clear hgm
  cases vl with
  | false =>
    as_aux_lemma =>
    go_wp2_with fail
    ((try simp only [Exit.inBlock, Exit.then])
     obtain ⟨z1, z2, z3⟩ := json_err 2 (.cells #[.int .u8 _, .string tx, .bool tn, .int .u64 tm] 54) (.cells #[.int .i64 (-1), .bool false, .int .u64 0, .string ⟨#[]⟩, .int .i64 0] 34) HR6.out HEV.out hb6' (K1.out.trans HK.out)
     exact bodyPost_ret (rd_ret z1 rfl) rfl ⟨_, L, 2, false, 0, rfl, z2, fun h => absurd h (by decide), z3⟩)
  | true =>
    have hv := of_decide_eq_true HVL.out
    by_cases hd : mp.length = 16
    · have hge : (16 : Int) ≤ (mp.length : Int) := by omega
      clear hv
      as_aux_lemma =>
      go_wp2_with fail
      ((try simp only [Exit.inBlock, Exit.then])
       obtain ⟨z1, z2, z3⟩ := json_err 4 (.cells #[.int .u8 _, .string tx, .bool tn, .int .u64 tm] 54) (.cells #[.int .i64 (-1), .bool false, .int .u64 0, .string ⟨#[]⟩, .int .i64 0] 34) HR6.out HEV.out hb6' (K1.out.trans HK.out)
       exact bodyPost_ret (rd_ret z1 rfl) rfl ⟨_, L, 4, false, 0, rfl, z2, fun h => absurd h (by decide), z3⟩)
    · have hge : ¬ (16 : Int) ≤ (mp.length : Int) := by omega
      have HTK := Lib.hid (show Js.token ⟨pl, 16, mp, nx, 0⟩ ⟨91, tx, tn, tm⟩ = (some (evArr (-1)), ⟨pl, 16, false :: mp, 1, 0⟩) from by
        have hc := HCL.out
        have hd' : ¬ (mp.length : Int) = 16 := by omega
        rcases hv with rfl | rfl
        all_goals simp [Js.token, hc, Js.value, hd'])
      clear hv
      go_wp2_with (at_builtin; go_must (refine app_evs rfl _ _ rfl (w1.heap.size + 1) _ L rfl (ownsRow_keeps HEV.out ((((Keeps.refl [] _).alloc _).alloc _).alloc _) (by simp)) ⟨_, 0, none⟩ 1 1 [evArr (-1)] rfl rfl (new_evc (evArr (-1)) (by simp)) (by omega) (by simp; omega) ?_))
      intro v4 w4 hown4 hk4 _ hb4
      obtain ⟨la4, lc4, hv4⟩ := OwnsEvs.shape hown4
      rw [List.length_append] at hv4
      simp only [List.length_cons, List.length_nil, Nat.zero_add] at hv4
      subst hv4
      obtain ⟨t0, tf0, tl0, hjw⟩ := jw_app (b6 := w.heap.size) (tc := [.int .u8 91, .string tx, .bool tn, .int .u64 tm]) (ec := [.int .i64 (-1), .bool false, .int .u64 0, .string ⟨#[]⟩, .int .i64 0]) HRD.out HMP.out HEV.out HAP.out HK.out hbr hown4 hk4 hb4
      have HJ := Lib.hid hjw
      clear hown4 hk4 hb4 hjw
      obtain ⟨w5, hw5⟩ : ∃ w5, w4.setCell ⟨w1.heap.size, 0, none⟩ (.slice la4 (L.length + 1) lc4) = w5 := ⟨_, rfl⟩
      rw [hw5] at HJ
      have HJS := HJ.out.sz
      have u0 := HJ.out.tok.cell 0
      simp only [List.getElem?_cons_zero] at u0
      go_upto_region 37 with fail
      clear hw5
      go_region_law (first | (rw [if_pos (by rfl)]; refine wp_app_bools _ _ rfl (w1.heap.size + 1) rfl (w1.heap.size + 1) (.slice ma mp.length mc) mp rfl (ownsRow_keeps HJ.out.maps (by first | exact (Keeps.refl [] _).drew | exact ((Keeps.refl [] _).drew).alloc _) (by simp)) (by omega) (by first | omega | (simp; omega)) ?_; intro v6 w6 hown6 hk6 hb6n; obtain ⟨ma6, mc6, rfl⟩ := hown6.shape; have H6 := Lib.hid hown6; have u1 := Has.cell (Has.keeps (by first | exact HJ.out.tok.drew | exact HJ.out.tok.drew.alloc _) hk6 (by simp)) 0; have K6 := Lib.hid hk6; have B6 := Lib.hid hb6n; clear hown6 hk6 hb6n) | (rw [if_pos (by rfl)]; refine wp_app_bool1 _ _ rfl (w1.heap.size + 1) (.slice ma6 mp.length mc6) mp rfl (by first | exact H6.out | exact ownsRow_keeps H6.out ((Keeps.refl [] _).alloc _) (by simp)) ⟨_, 0, none⟩ false rfl (by first | exact cells_new [.bool false] (by simp) 0 _ rfl | exact has_cells ((Has.new w5 [.bool false] 4).drew.keeps K6.out (by simp)) 0 _ rfl) (by omega) (by have hq := K6.out.size; first | omega | (simp at hq; omega) | (simp at hq ⊢; omega)) ?_; intro v7 w7 hown7 hk7 hb7; obtain ⟨ma7, mc7, rfl⟩ := hown7.shape; have H7 := Lib.hid hown7; have K7 := Lib.hid hk7; have B7 := Lib.hid hb7; clear hown7 hk7 hb7))
      all_goals
        as_aux_lemma =>
        have K6' : Keeps [] w5 w6 := by first | exact ((Keeps.refl [] _).drew).trans K6.out | exact (((Keeps.refl [] _).alloc _).drew).trans K6.out
        have hz6 := K6'.size
        have lo6 : ∀ i ∈ blks (.slice ma6 mp.length mc6), w5.heap.size ≤ i := fun i hi => by
          rcases B6.out with h | h
          · rw [h] at hi; simp [blks_nil] at hi
          · rw [mem_blks, h] at hi
            injection hi with hi
            rw [← hi]
            simp
        have K7' : Keeps [] w5 w7 := by first | exact K6'.trans' K7.out (fun i hi => Or.inr (lo6 i hi)) | exact (K6'.alloc _).trans' K7.out (fun i hi => Or.inr (lo6 i hi))
        have lo7 : ∀ i ∈ blks (.slice ma7 (false :: mp).length mc7), w5.heap.size ≤ i := fun i hi => by
          rw [mem_blks] at hi
          rcases B7.out with h | h
          · rw [h] at hi; exact lo6 i (mem_blks.2 hi)
          · rw [h] at hi
            injection hi with hi
            rw [← hi]
            first | omega | (simp; omega)
        have hz7 := K7'.size
        have HAP7 := Lib.hid (show ∀ i ∈ blks (.slice ma7 (false :: mp).length mc7), i ∉ blks (.slice la4 (L.length + 1) lc4) from fun i hi hm => by
          have := lo7 i hi
          have := (World.ownsRow.lt HJ.out.evs i (mem_blks.1 hm)).2
          omega)
        have KH := Lib.hid K7'
        clear K6' K7' lo6 lo7
        go_wp2_with fail
        exact ⟨⟨k + 1, ⟨pl, 16, false :: mp, 1, 0⟩, L ++ [evArr (-1)], .slice la4 (L.length + 1) lc4, by go_num, rfl, by omega, by have h := HSN.out (by rw [HTK.out]; first | done | rfl); rw [HTK.out] at h; exact h, rfl, rfl, H7.out, ownsRow_keeps HJ.out.evs KH.out (by simp), HAP7.out, Has.keeps HJ.out.rd KH.out (by simp), by omega, HJ.out.keeps.trans KH.out⟩, by simp [intOf]; omega⟩

end Go.Proofs.Ytmhkgfddlkdmgaa
