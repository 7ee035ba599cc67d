/-
  JsoninNumbers' walk.
-/
import Derived.Test.YtbeocehadnhmnaaJsAlive
import Derived.Test.YtbeocehadnhmnaaJsNumPlain
import Derived.Test.YtbeocehadnhmnaaRefPrint
import Derived.Test.YtbeocehadnhmnaaWholesIn
namespace Go.Tru

def blankL (x : Int) : List UInt8 := if x % 4 = 0 then [] else if x % 4 = 1 then [32] else if x % 4 = 2 then [10, 10] else [9]
def blankAt (bs : List Int) (k : Nat) : List UInt8 := match bs[k]? with | some x => blankL x | none => []
def numAt' (ws : List (Bool × Nat)) (k : Nat) : Bool × Nat := (ws[k]?).getD (false, 0)

theorem blankL_ok (x : Int) : (∀ b ∈ blankL x, isBlank b.toNat = true) ∧ (blankL x).length ≤ 2 := by
  unfold blankL
  repeat' split
  all_goals decide

theorem blankAt_ok (bs : List Int) (k : Nat) : (∀ b ∈ blankAt bs k, isBlank b.toNat = true) ∧ (blankAt bs k).length ≤ 2 := by
  unfold blankAt
  split
  · exact blankL_ok _
  · simp

theorem printL_len (g : Bool) {m : Nat} (hm : m < 18446744073709551616) : (printW g m).length ≤ 21 := by
  cases g
  · have := dec_size m hm
    simp only [printW, Bool.false_eq_true, if_false]
    omega
  · by_cases ht : m = 18446744073709551615
    · subst ht
      simp only [printW, if_true]
      rw [dec_top]
      decide
    · have := dec_size (m + 1) (by omega)
      simp only [printW, if_true, List.length_cons]
      omega

theorem nj_cat (s t : ByteArray) : (s ++ t).data.toList = s.data.toList ++ t.data.toList := by
  rw [ByteArray.data_append, Array.toList_append]
theorem nj_size (s : ByteArray) : s.size = s.data.toList.length := by rw [Array.length_toList]; rfl

theorem numsPre_len (bs : List Int) (ws : List (Bool × Nat)) (hw : ∀ k, (numAt' ws k).2 < 18446744073709551616) : ∀ k, (numsPre (blankAt bs) (numAt' ws) k).length ≤ 1 + 24 * k
  | 0 => by simp [numsPre]
  | k + 1 => by
    have ih := numsPre_len bs ws hw k
    have h1 := (blankAt_ok bs k).2
    have h2 := printL_len (numAt' ws k).1 (hw k)
    unfold numsPre
    simp only [List.length_append]
    split
    · simp; omega
    · simp; omega

end Go.Tru
namespace Go.Proofs.Ytbeocehadnhmnaa
open Go.RowKit Go.Tru

def NRel (bs : List Int) (ws : List (Bool × Nat)) (n : Nat) (w : World) (v i : Value) (wr : World) : Prop :=
  ∃ (k : Nat) (S : ByteArray), k ≤ n ∧ i = .int .i64 k ∧ v = .string S ∧ S.data.toList = numsPre (blankAt bs) (numAt' ws) k ∧ Keeps [] w wr

def NCmp (n : Nat) (w : World) (i : Value) (wr : World) : Prop := ∃ k : Nat, k ≤ n ∧ i = .int .i64 k ∧ Keeps [] w wr

set_option maxHeartbeats 8000000 in
set_option maxRecDepth 100000 in
theorem jsoninNumbers_walk (o : Option Addr) (n c : Nat) (ws : List (Bool × Nat)) (o2 : Option Addr) (n2 c2 : Nat) (bs : List Int) (w : World) (h : WholesIn w o n c ws) (hb : IntsIn w o2 n2 c2 bs) :
    Calls Try.prog 7 #[.slice o n c, .slice o2 n2 c2] w fun e w' => e = .returned (.bool true) ∧ Below w.heap.size w w' := by
  refine Calls.mono (R := fun e w' => e = .returned (.bool true) ∧ Keeps [] w w') ?_ (fun e w' h => ⟨h.1, h.2.all⟩)
  have m1 : n ≤ 9223372036854775807 := by have := h.room; have := h.most; unfold maxLen at *; omega
  have m2 : n2 ≤ 9223372036854775807 := by have := hb.room; have := hb.most; unfold maxLen at *; omega
  have hl := h.len
  have hl2 := hb.len
  have H := Lib.hid h
  have L := Lib.hid hl
  have H2 := Lib.hid hb
  have L2 := Lib.hid hl2
  clear h hl hb hl2
  by_cases hbad : 12 < n ∨ 30 < n2
  · have hbb : 12 < n ∨ n ≤ 12 ∧ 30 < n2 := by omega
    clear hbad
    rcases hbb with hb | ⟨hb, hb2⟩
    all_goals
      go_enter Try.func7, Try.ntmps7
      go_wp2_with fail
      refine (jalive_any _).mono ?_
      rintro e w1 ⟨rfl, k1⟩
      have K1 := Lib.hid k1
      clear k1
      go_wp2_with fail
      go_ret
      exact ⟨rfl, K1.out⟩
  · obtain ⟨b1, b2⟩ : n ≤ 12 ∧ n2 ≤ 30 := by omega
    clear hbad
    have hwall : ∀ k, (numAt' ws k).2 < 18446744073709551616 := by
      intro k
      unfold numAt'
      cases hk : ws[k]? with
      | none => simp
      | some x => exact H.out.fit x (List.mem_of_getElem? hk)
    have HW := Lib.hid hwall
    clear hwall
    go_enter Try.func7, Try.ntmps7
    go_wp2_with fail
    refine (jalive_any _).mono ?_
    rintro e w1 ⟨rfl, k1⟩
    have K1 := Lib.hid k1
    clear k1
    go_wp2_with fail
    go_loopw [5, 27] (fun a i wr => NRel bs ws n w a i wr) (fun _ i _ => n - (intOf i).toNat)
    case atStart => exact ⟨0, ⟨#[91]⟩, Nat.zero_le _, rfl, rfl, rfl, K1.out⟩
    case round =>
      obtain ⟨k, S, hk, rfl, rfl, hS, hK⟩ := hrel
      have hSs : S.size ≤ 400 := by
        rw [nj_size, hS]
        have := numsPre_len bs ws HW.out k
        omega
      have HS := Lib.hid hS
      have HK := Lib.hid hK
      clear hS hK
      by_cases hlt : k < n
      · have hx : k < ws.length := by rw [L.out]; exact hlt
        obtain ⟨⟨g, m⟩, hxx⟩ : ∃ x, ws[k] = x := ⟨_, rfl⟩
        have hxk : ws[k]? = some (g, m) := by rw [List.getElem?_eq_getElem hx, hxx]
        have hna : numAt' ws k = (g, m) := by unfold numAt'; rw [hxk]; rfl
        obtain ⟨bb, off, rfl, hbl, d0, d1⟩ := (H.out.keeps HK.out).get hlt hxk
        have hm : m < 18446744073709551616 := H.out.fit (g, m) (List.mem_of_getElem? hxk)
        have hpr := fun W => refPrint g m hm W
        obtain ⟨P, hP⟩ : ∃ P : ByteArray, ⟨(printW g m).toArray⟩ = P := ⟨_, rfl⟩
        have hPd : P.data.toList = printW g m := by rw [← hP]
        have hPs : P.size ≤ 21 := by rw [nj_size, hPd]; exact printL_len g hm
        rw [hP] at hpr
        have HPR := Lib.hid hpr
        have HP := Lib.hid hPd
        have HNA := Lib.hid hna
        clear hpr hPd hna hm hP hxk hxx hx
        simp only at d0 d1
        have hstep : ∀ S2 : ByteArray, S2.data.toList = numsPre (blankAt bs) (numAt' ws) k ++ (if k = 0 then [] else [44]) ++ blankAt bs k → (S2 ++ P).data.toList = numsPre (blankAt bs) (numAt' ws) (k + 1) := by
          intro S2 hS2
          rw [nj_cat, hS2, HP.out]
          show _ = numsPre (blankAt bs) (numAt' ws) k ++ (if k = 0 then [] else [44]) ++ blankAt bs k ++ printW (numAt' ws k).1 (numAt' ws k).2
          rw [HNA.out]
        have HSTEP := Lib.hid hstep
        clear hstep
        by_cases hk0 : k = 0
        · have hkz : ¬ (0 : Int) < (k : Int) := by omega
          have hS2d : S.data.toList = numsPre (blankAt bs) (numAt' ws) k ++ (if k = 0 then [] else [44]) := by rw [if_pos hk0, List.append_nil]; exact HS.out
          have hS2s : S.size ≤ 401 := by omega
          clear hk0
          by_cases hk2 : k < n2
          · have hy : k < bs.length := by rw [L2.out]; exact hk2
            obtain ⟨b3b, off3, rfl, hcell3⟩ := (H2.out.keeps HK.out).get hk2 hy
            obtain ⟨y, hyy⟩ : ∃ y, bs[k] = y := ⟨_, rfl⟩
            have hbk : blankAt bs k = blankL y := by unfold blankAt; rw [List.getElem?_eq_getElem hy, hyy]
            rw [hyy] at hcell3
            have hmask : bits .and .i64 y 3 = y % 4 := i64_mask 2 (by omega) y
            obtain ⟨p, hp, hp4⟩ : ∃ p : Nat, y % 4 = (p : Int) ∧ p < 4 := ⟨(y % 4).toNat, by omega, by omega⟩
            rw [hp] at hmask
            obtain ⟨E, hE⟩ : ∃ E : ByteArray, ⟨(blankL y).toArray⟩ = E := ⟨_, rfl⟩
            have hEd : E.data.toList = blankAt bs k := by rw [hbk, ← hE]
            have hEs : E.size ≤ 2 := by rw [nj_size, hEd, hbk]; exact (blankL_ok y).2
            have hsep : ∀ (W : World) (q : Nat), q = W.heap.size → (W.alloc (.cells #[.string ⟨#[]⟩, .string ⟨#[32]⟩, .string ⟨#[10, 10]⟩, .string ⟨#[9]⟩] 9)).cell? ⟨q, p, none⟩ = some (.string E) := by
              intro W q hq
              subst hq
              rw [World.cell?_alloc_at _ _ _ _ rfl, ← hE]
              unfold blankL
              rw [hp]
              match p, hp4 with
              | 0, _ => rfl
              | 1, _ => rfl
              | 2, _ => rfl
              | 3, _ => rfl
            have hsep1 := hsep (wr.alloc (.cells #[.bool g, .int .u64 (m : Int)] 53)) (wr.heap.size + 1) (by simp)
            have hcell3' := (((Keeps.refl [] wr).alloc (.cells #[.bool g, .int .u64 (m : Int)] 53)).alloc (.cells #[.string ⟨#[]⟩, .string ⟨#[32]⟩, .string ⟨#[10, 10]⟩, .string ⟨#[9]⟩] 9)).cell hcell3 (by simp)
            obtain ⟨S3, hS3⟩ : ∃ S3, S ++ E = S3 := ⟨_, rfl⟩
            have hS3s : S3.size ≤ 403 := by rw [← hS3, ByteArray.size_append]; omega
            have hS4 := HSTEP.out S3 (by rw [← hS3, nj_cat, hS2d, hEd])
            have z3 : ¬ 281474976710656 < S.size + E.size := by omega
            have z4 : ¬ 281474976710656 < S3.size + P.size := by omega
            have HS4 := Lib.hid hS4
            have hki2 : (k : Int) < (n2 : Int) := by omega
            clear hbk hEd hE hsep hcell3 hyy hS4 hS2d hy hk2 hp
            go_wp2_with fail
            refine (HPR.out _).mono ?_
            rintro e w5 ⟨rfl, k5⟩
            have K5 := Lib.hid ((HK.out.alloc (.cells #[.bool g, .int .u64 (m : Int)] 53)).alloc (.cells #[.string ⟨#[]⟩, .string ⟨#[32]⟩, .string ⟨#[10, 10]⟩, .string ⟨#[9]⟩] 9) |>.trans k5)
            clear k5
            go_wp2_with fail
            go_roundw
            case rel => exact ⟨k + 1, S3 ++ P, by omega, by go_num, rfl, HS4.out, K5.out⟩
            case measure => simp [intOf]; omega
          · have hno : blankAt bs k = [] := by unfold blankAt; rw [List.getElem?_eq_none (by rw [L2.out]; omega)]
            have hki2 : ¬ (k : Int) < (n2 : Int) := by omega
            have hS4 := HSTEP.out S (by rw [hno, List.append_nil]; exact hS2d)
            have z4 : ¬ 281474976710656 < S.size + P.size := by omega
            have HS4 := Lib.hid hS4
            clear hno hS4 hS2d hk2
            go_wp2_with fail
            refine (HPR.out _).mono ?_
            rintro e w5 ⟨rfl, k5⟩
            have K5 := Lib.hid ((HK.out.alloc (.cells #[.bool g, .int .u64 (m : Int)] 53)).trans k5)
            clear k5
            go_wp2_with fail
            go_roundw
            case rel => exact ⟨k + 1, S ++ P, by omega, by go_num, rfl, HS4.out, K5.out⟩
            case measure => simp [intOf]; omega
        · have hkz : (0 : Int) < (k : Int) := by omega
          obtain ⟨S2, hS2⟩ : ∃ S2, S ++ (⟨#[44]⟩ : ByteArray) = S2 := ⟨_, rfl⟩
          have hS2d : S2.data.toList = numsPre (blankAt bs) (numAt' ws) k ++ (if k = 0 then [] else [44]) := by rw [if_neg hk0, ← hS2, nj_cat, HS.out]
          have hS2s : S2.size ≤ 401 := by rw [← hS2, ByteArray.size_append]; show S.size + 1 ≤ 401; omega
          clear hk0
          by_cases hk2 : k < n2
          · have hy : k < bs.length := by rw [L2.out]; exact hk2
            obtain ⟨b3b, off3, rfl, hcell3⟩ := (H2.out.keeps HK.out).get hk2 hy
            obtain ⟨y, hyy⟩ : ∃ y, bs[k] = y := ⟨_, rfl⟩
            have hbk : blankAt bs k = blankL y := by unfold blankAt; rw [List.getElem?_eq_getElem hy, hyy]
            rw [hyy] at hcell3
            have hmask : bits .and .i64 y 3 = y % 4 := i64_mask 2 (by omega) y
            obtain ⟨p, hp, hp4⟩ : ∃ p : Nat, y % 4 = (p : Int) ∧ p < 4 := ⟨(y % 4).toNat, by omega, by omega⟩
            rw [hp] at hmask
            obtain ⟨E, hE⟩ : ∃ E : ByteArray, ⟨(blankL y).toArray⟩ = E := ⟨_, rfl⟩
            have hEd : E.data.toList = blankAt bs k := by rw [hbk, ← hE]
            have hEs : E.size ≤ 2 := by rw [nj_size, hEd, hbk]; exact (blankL_ok y).2
            have hsep : ∀ (W : World) (q : Nat), q = W.heap.size → (W.alloc (.cells #[.string ⟨#[]⟩, .string ⟨#[32]⟩, .string ⟨#[10, 10]⟩, .string ⟨#[9]⟩] 9)).cell? ⟨q, p, none⟩ = some (.string E) := by
              intro W q hq
              subst hq
              rw [World.cell?_alloc_at _ _ _ _ rfl, ← hE]
              unfold blankL
              rw [hp]
              match p, hp4 with
              | 0, _ => rfl
              | 1, _ => rfl
              | 2, _ => rfl
              | 3, _ => rfl
            have hsep1 := hsep (wr.alloc (.cells #[.bool g, .int .u64 (m : Int)] 53)) (wr.heap.size + 1) (by simp)
            have hcell3' := (((Keeps.refl [] wr).alloc (.cells #[.bool g, .int .u64 (m : Int)] 53)).alloc (.cells #[.string ⟨#[]⟩, .string ⟨#[32]⟩, .string ⟨#[10, 10]⟩, .string ⟨#[9]⟩] 9)).cell hcell3 (by simp)
            obtain ⟨S3, hS3⟩ : ∃ S3, S2 ++ E = S3 := ⟨_, rfl⟩
            have hS3s : S3.size ≤ 403 := by rw [← hS3, ByteArray.size_append]; omega
            have hS4 := HSTEP.out S3 (by rw [← hS3, nj_cat, hS2d, hEd])
            have z3 : ¬ 281474976710656 < S2.size + E.size := by omega
            have z4 : ¬ 281474976710656 < S3.size + P.size := by omega
            have HS4 := Lib.hid hS4
            have hki2 : (k : Int) < (n2 : Int) := by omega
            clear hbk hEd hE hsep hcell3 hyy hS4 hS2d hy hk2 hp
            go_wp2_with fail
            refine (HPR.out _).mono ?_
            rintro e w5 ⟨rfl, k5⟩
            have K5 := Lib.hid ((HK.out.alloc (.cells #[.bool g, .int .u64 (m : Int)] 53)).alloc (.cells #[.string ⟨#[]⟩, .string ⟨#[32]⟩, .string ⟨#[10, 10]⟩, .string ⟨#[9]⟩] 9) |>.trans k5)
            clear k5
            go_wp2_with fail
            go_roundw
            case rel => exact ⟨k + 1, S3 ++ P, by omega, by go_num, rfl, HS4.out, K5.out⟩
            case measure => simp [intOf]; omega
          · have hno : blankAt bs k = [] := by unfold blankAt; rw [List.getElem?_eq_none (by rw [L2.out]; omega)]
            have hki2 : ¬ (k : Int) < (n2 : Int) := by omega
            have hS4 := HSTEP.out S2 (by rw [hno, List.append_nil]; exact hS2d)
            have z4 : ¬ 281474976710656 < S2.size + P.size := by omega
            have HS4 := Lib.hid hS4
            clear hno hS4 hS2d hk2
            go_wp2_with fail
            refine (HPR.out _).mono ?_
            rintro e w5 ⟨rfl, k5⟩
            have K5 := Lib.hid ((HK.out.alloc (.cells #[.bool g, .int .u64 (m : Int)] 53)).trans k5)
            clear k5
            go_wp2_with fail
            go_roundw
            case rel => exact ⟨k + 1, S2 ++ P, by omega, by go_num, rfl, HS4.out, K5.out⟩
            case measure => simp [intOf]; omega
      · obtain rfl : k = n := by omega
        have hki : ¬ (k : Int) < (k : Int) := by omega
        obtain ⟨S5, hS5⟩ : ∃ S5, S ++ (⟨#[93]⟩ : ByteArray) = S5 := ⟨_, rfl⟩
        have hS5d : S5.data.toList = numsPre (blankAt bs) (numAt' ws) k ++ [93] := by rw [← hS5, nj_cat, HS.out]
        have hS5s : S5.size ≤ 1000000 := by rw [← hS5, ByteArray.size_append]; show S.size + 1 ≤ _; omega
        have hall := jsAll_any S5 1 wr hS5s
        rw [hS5d, nums_all (blankAt bs) (numAt' ws) k (fun j _ => (blankAt_ok bs j).1) (fun j _ => HW.out j)] at hall
        have HALL := Lib.hid hall
        clear hall hS5d
        go_wp2_with fail
        refine HALL.out.mono ?_
        rintro e w2 ⟨v2, rfl, hown2, k2⟩
        obtain ⟨o3, c3, rfl, hin2⟩ := evsIn_of_owns hown2
        have hln : (evArr (-1) :: numEvs (numAt' ws) k ++ [evEnd]).length = k + 2 := by simp [numEvs]
        rw [hln] at hin2 ⊢
        have HIN := Lib.hid hin2
        have K2 := Lib.hid (HK.out.trans k2)
        clear hown2 k2 hin2 hln
        go_wp2_with fail
        go_loopw [73] (fun i wr => NCmp k w2 i wr) (fun i _ => k - (intOf i).toNat)
        case atStart => exact ⟨0, Nat.zero_le _, rfl, Keeps.refl _ _⟩
        case round =>
          obtain ⟨j, hj, rfl, hk3⟩ := hrel
          have HK3 := Lib.hid (K2.out.trans hk3)
          have hinj := HIN.out.keeps hk3
          by_cases hjk : j < k
          · have hx : j < ws.length := by rw [L.out]; exact hjk
            obtain ⟨⟨g, m⟩, hxx⟩ : ∃ x, ws[j] = x := ⟨_, rfl⟩
            have hxk : ws[j]? = some (g, m) := by rw [List.getElem?_eq_getElem hx, hxx]
            have hna : numAt' ws j = (g, m) := by unfold numAt'; rw [hxk]; rfl
            obtain ⟨bb, off, rfl, hbl, d0, d1⟩ := (H.out.keeps HK3.out).get hjk hxk
            have hlen : j + 1 < (evArr (-1) :: numEvs (numAt' ws) k ++ [evEnd]).length := by simp [numEvs]; omega
            obtain ⟨b3, f3, rfl, q0, q1, q2, q3, q4⟩ := (hinj.keeps (((Keeps.refl [] wr).alloc (.cells #[.bool g, .int .u64 (m : Int)] 53)).drew)).get (k := j + 1) (by omega) hlen
            have hel : (evArr (-1) :: numEvs (numAt' ws) k ++ [evEnd])[j + 1] = evInt g m := by
              simp only [List.cons_append, List.getElem_cons_succ]
              rw [List.getElem_append_left (by simp [numEvs]; exact hjk)]
              simp [numEvs, hna]
            rw [hel] at q0 q1 q2 q3 q4
            simp only [evInt, noText] at q0 q1 q2 q3 q4 d0 d1
            have hroom := hinj.room
            have hmost := hinj.most
            unfold maxLen at hmost
            have HK4 := Lib.hid hk3
            clear hinj hel hna hxk hxx hx hlen hk3
            go_wp2_with fail
            go_region
            all_goals
              go_wp2_with fail
              go_roundw
              case rel => exact ⟨j + 1, by omega, by go_num, (HK4.out.alloc (.cells #[.bool g, .int .u64 (m : Int)] 53)).drew⟩
              case measure => simp [intOf]; omega
          · obtain rfl : j = k := by omega
            have hji : ¬ (j : Int) < (j : Int) := by omega
            go_wp2_with fail
            go_ret
            exact ⟨rfl, HK3.out⟩
end Go.Proofs.Ytbeocehadnhmnaa
