/-
  truchmanref1.Json: arms of its loop (end).
-/
import Derived.Test.YtmhkgfddlkdmgaaRefJsonP
namespace Go.Proofs.Ytmhkgfddlkdmgaa
open Go.RowKit Go.Tru
set_option maxHeartbeats 12800000 in
set_option maxRecDepth 100000 in
theorem jarm_end : json_plan.a_end := by
  intro s hs w w1 ts x h hh oa oc HT HB6 K1 z1 HSUM hlen hlen2 hb6' K_ a_ wr u14 u15 u16 u17 u18 u19 u27 u28 u29 u30 u31 u32 u33 u34 u35 u36 u37 u38 u39 u40 u41 u42 u43 u44 u45 u46
     u47 u48 u49 u50 u51 u52 u53 u54 u55 u56 u57 u58 u59 u60 u61 u62 u63 u64 u65 u66 u67 u68 u69 u70 u71 u72 u73 u74 u75 u76 u77 u78 u79 u80 u81 u82 u83 u84 u85 u86 u87 u88 u89 u90
     u91 u92 u93 u94 u95 u96 u97 u98 u99 u100 u101 u102 u103 u104 u105 u106 u107 u108 u109 u110 u111 u112 u113 u114 u115 u116 u117 u118 u119 u120 u121 u122 u123 u124 u125 u126 u127
     u128 u129 u130 u131 u132 u133 u134 u135 u136 u137 u138 u139 u140 u141 u142 u143 u144 u145 u146 u147 u148 u149 u150 u151 u152 u153 u154 u155 u156 u157 u158 u159 u160 u161 u162
     u163 u164 u165 u166 u167 u168 u169 u170 u171 u172 u173 u174 u175 u176 u177 u178 u179 u180 u181 u182 u183 u184 u185 u186 u187 u188 u189 u190 u191 u192 u193 u194 u195 u196 u197
     u198 u199 u200 u201 u202 u203 u204 u205 u206 u207 u208 u209 u210 u211 u212 u213 u214 u215 u216 u217 u218 u219 u220 u221 u222 u223 u224 u225 u226 u227 u228 u229 u230 u231 u232
     u233 u234 u235 u236 u237 u238 u239 u240 u241 u242 k p L hk htk hpe hpd hbr hK hz ma mc hmp la lc hev hrd hap hLl st' d' hsh hml r0 r1 r2 r3 rf0 rf1 rf2 rf3 hbr1 hbr2 hb60 hb61
     hb6 hne6 hne7 s0 s1 s2 s3 sf0 sf1 sf2 sf3 HR6 hlt
  have hi : ¬ (k : Int) < (ts.length : Int) := by omega
  obtain rfl : k = ts.length := by omega
  rw [List.take_length] at htk
  obtain ⟨pl, pd, mp, nx, pe⟩ := p
  simp only at hpe hpd hml
  subst hpe hpd
  have HRD := Lib.hid hrd
  have HEV := Lib.hid hev
  have HK := Lib.hid hK
  have HTKS := Lib.hid htk
  clear hrd hev hK htk hmp hap hsh hlt hk
  obtain ⟨ml, hmle⟩ : ∃ ml : Nat, mp.length = ml := ⟨_, rfl⟩
  rw [hmle] at hml ⊢
  obtain ⟨y, hy⟩ : ∃ y : Int, h + (ml : Int) = y := ⟨_, rfl⟩
  by_cases hx : x = 0
  · subst hx
    by_cases h6 : nx = 6
    · subst h6
      go_upto_region 56 with fail
      have HE := Lib.hid (json_end (W := ((wr.setCell ⟨w1.heap.size, 1, none⟩ (.int .i64 0)).setCell ⟨w1.heap.size, 3, none⟩ (.int .i64 y)).setCell ⟨w1.heap.size, 2, none⟩ (.bool true)) (x := 0) (d := true) (y := y) (((((HRD.out.set 1 (.int .i64 0)).set 3 (.int .i64 y)).set 2 (.bool true))).conv rfl) HR6.out HEV.out hb6' (K1.out.trans HK.out) ((((Keeps.refl [w1.heap.size] wr).set1 _).set1 _).set1 _))
      obtain ⟨W, hW⟩ : ∃ W, ((wr.setCell ⟨w1.heap.size, 1, none⟩ (.int .i64 0)).setCell ⟨w1.heap.size, 3, none⟩ (.int .i64 y)).setCell ⟨w1.heap.size, 2, none⟩ (.bool true) = W := ⟨_, rfl⟩
      rw [hW] at HE
      rw [hW]
      clear hW r0 r1 r2 r3 rf0 rf1 rf2 rf3 s0 s1 s2 s3 sf0 sf1 sf2 sf3
      have c0 := HE.out.rd.cell 0
      have c1 := HE.out.rd.cell 1
      have c2 := HE.out.rd.cell 2
      have c3 := HE.out.rd.cell 3
      have d0 := HE.out.r6.cell 0
      have d1 := HE.out.r6.cell 1
      have d2 := HE.out.r6.cell 2
      have d3 := HE.out.r6.cell 3
      have f0 := HE.out.r6.free 0
      have f1 := HE.out.r6.free 1
      have f2 := HE.out.r6.free 2
      have f3 := HE.out.r6.free 3
      have hl6 := HE.out.r6.lt
      simp only [List.getElem?_cons_zero, List.getElem?_cons_succ] at c0 c1 c2 c3 d0 d1 d2 d3
      go_wp2_with fail
      ((try simp only [Exit.inBlock, Exit.then])
       obtain ⟨z1, z2, z3⟩ := HE.out.back
       exact bodyPost_ret (rd_ret z1 rfl) rfl ⟨_, L, _, _, _, rfl, z2, fun _ => ⟨ts, ⟨pl, 16, mp, 6, 0⟩, HSUM.out, HTKS.out, rfl, rfl⟩, z3⟩)
    · have h6' : (nx == 6) = false := beq_eq_false_iff_ne.2 h6
      have h6'' : (nx != 6) = true := by simp [h6]
      clear h6
      go_upto_region 56 with fail
      have HE := Lib.hid (json_end (W := (((((wr.setCell ⟨w1.heap.size, 1, none⟩ (.int .i64 0)).setCell ⟨w1.heap.size, 3, none⟩ (.int .i64 y)).setCell ⟨w1.heap.size, 2, none⟩ (.bool false)).setCell ⟨w1.heap.size, 1, none⟩ (.int .i64 3)).setCell ⟨w1.heap.size, 2, none⟩ (.bool false)).setCell ⟨w1.heap.size, 3, none⟩ (.int .i64 0)) (x := 3) (d := false) (y := 0) ((((((((HRD.out.set 1 (.int .i64 0)).set 3 (.int .i64 y)).set 2 (.bool false))).set 1 (.int .i64 3)).set 2 (.bool false)).set 3 (.int .i64 0)).conv rfl) HR6.out HEV.out hb6' (K1.out.trans HK.out) (((((((Keeps.refl [w1.heap.size] wr).set1 _).set1 _).set1 _).set1 _).set1 _).set1 _))
      obtain ⟨W, hW⟩ : ∃ W, (((((wr.setCell ⟨w1.heap.size, 1, none⟩ (.int .i64 0)).setCell ⟨w1.heap.size, 3, none⟩ (.int .i64 y)).setCell ⟨w1.heap.size, 2, none⟩ (.bool false)).setCell ⟨w1.heap.size, 1, none⟩ (.int .i64 3)).setCell ⟨w1.heap.size, 2, none⟩ (.bool false)).setCell ⟨w1.heap.size, 3, none⟩ (.int .i64 0) = W := ⟨_, rfl⟩
      rw [hW] at HE
      rw [hW]
      clear hW r0 r1 r2 r3 rf0 rf1 rf2 rf3 s0 s1 s2 s3 sf0 sf1 sf2 sf3
      have c0 := HE.out.rd.cell 0
      have c1 := HE.out.rd.cell 1
      have c2 := HE.out.rd.cell 2
      have c3 := HE.out.rd.cell 3
      have d0 := HE.out.r6.cell 0
      have d1 := HE.out.r6.cell 1
      have d2 := HE.out.r6.cell 2
      have d3 := HE.out.r6.cell 3
      have f0 := HE.out.r6.free 0
      have f1 := HE.out.r6.free 1
      have f2 := HE.out.r6.free 2
      have f3 := HE.out.r6.free 3
      have hl6 := HE.out.r6.lt
      simp only [List.getElem?_cons_zero, List.getElem?_cons_succ] at c0 c1 c2 c3 d0 d1 d2 d3
      go_wp2_with fail
      ((try simp only [Exit.inBlock, Exit.then])
       obtain ⟨z1, z2, z3⟩ := HE.out.back
       exact bodyPost_ret (rd_ret z1 rfl) rfl ⟨_, L, _, _, _, rfl, z2, fun h => absurd h (by decide), z3⟩)
  · have hx2 : (x == 0) = false := beq_eq_false_iff_ne.2 hx
    have hx3 : (x != 0) = true := by simp [hx]
    have HX := Lib.hid hx
    clear hx
    go_upto_region 56 with fail
    have HE := Lib.hid (json_end (W := ((((wr.setCell ⟨w1.heap.size, 1, none⟩ (.int .i64 x)).setCell ⟨w1.heap.size, 3, none⟩ (.int .i64 y)).setCell ⟨w1.heap.size, 2, none⟩ (.bool (nx == 6))).setCell ⟨w1.heap.size, 2, none⟩ (.bool false)).setCell ⟨w1.heap.size, 3, none⟩ (.int .i64 0)) (x := x) (d := false) (y := 0) (((((((HRD.out.set 1 (.int .i64 x)).set 3 (.int .i64 y)).set 2 (.bool (nx == 6)))).set 2 (.bool false)).set 3 (.int .i64 0)).conv rfl) HR6.out HEV.out hb6' (K1.out.trans HK.out) ((((((Keeps.refl [w1.heap.size] wr).set1 _).set1 _).set1 _).set1 _).set1 _))
    obtain ⟨W, hW⟩ : ∃ W, ((((wr.setCell ⟨w1.heap.size, 1, none⟩ (.int .i64 x)).setCell ⟨w1.heap.size, 3, none⟩ (.int .i64 y)).setCell ⟨w1.heap.size, 2, none⟩ (.bool (nx == 6))).setCell ⟨w1.heap.size, 2, none⟩ (.bool false)).setCell ⟨w1.heap.size, 3, none⟩ (.int .i64 0) = W := ⟨_, rfl⟩
    rw [hW] at HE
    rw [hW]
    clear hW r0 r1 r2 r3 rf0 rf1 rf2 rf3 s0 s1 s2 s3 sf0 sf1 sf2 sf3
    have c0 := HE.out.rd.cell 0
    have c1 := HE.out.rd.cell 1
    have c2 := HE.out.rd.cell 2
    have c3 := HE.out.rd.cell 3
    have d0 := HE.out.r6.cell 0
    have d1 := HE.out.r6.cell 1
    have d2 := HE.out.r6.cell 2
    have d3 := HE.out.r6.cell 3
    have f0 := HE.out.r6.free 0
    have f1 := HE.out.r6.free 1
    have f2 := HE.out.r6.free 2
    have f3 := HE.out.r6.free 3
    have hl6 := HE.out.r6.lt
    simp only [List.getElem?_cons_zero, List.getElem?_cons_succ] at c0 c1 c2 c3 d0 d1 d2 d3
    go_wp2_with fail
    ((try simp only [Exit.inBlock, Exit.then])
     obtain ⟨z1, z2, z3⟩ := HE.out.back
     exact bodyPost_ret (rd_ret z1 rfl) rfl ⟨_, L, _, _, _, rfl, z2, fun h => absurd h HX.out, z3⟩)

end Go.Proofs.Ytmhkgfddlkdmgaa
