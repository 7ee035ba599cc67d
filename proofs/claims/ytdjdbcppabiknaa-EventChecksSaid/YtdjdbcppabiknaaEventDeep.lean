/-
  EventDeep's walk.
-/
import Derived.Test.YtdjdbcppabiknaaEvAlive
namespace Go.Tru
def aKey : Ev := evText ⟨#[97]⟩
def deepOne (m : Bool) : List Ev := if m then [evMap 1, aKey] else [evArr (-1)]
def deepHead (m : Bool) : Nat → List Ev
  | 0 => []
  | k + 1 => deepHead m k ++ deepOne m
def deepTail : Nat → List Ev
  | 0 => []
  | k + 1 => deepTail k ++ [evEnd]
def deepMid (m : Bool) (k j : Nat) : List Ev := deepHead m k ++ [evNull] ++ deepTail j
def deepDoc (m : Bool) (n : Nat) : List Ev := deepHead m n ++ [evNull] ++ deepTail n

set_option maxRecDepth 100000 in
theorem deep_all : ∀ n, n < 31 → 1 ≤ n → (check (deepDoc true n) = if 16 < n then 4 else 0) ∧ (check (deepDoc false n) = if 16 < n then 4 else 0) := by decide +kernel

theorem deep_len (m : Bool) (k : Nat) : (deepHead m k).length ≤ 2 * k := by
  induction k with
  | zero => simp [deepHead]
  | succ k ih => cases m <;> simp [deepHead, deepOne] at * <;> omega
theorem tail_len (k : Nat) : (deepTail k).length = k := by
  induction k with
  | zero => rfl
  | succ k ih => simp [deepTail, ih]

theorem ev_one (es : List Ev) : ∀ u ∈ es.flatMap Ev.cells, u.oneCell' = true := by
  intro u hu
  obtain ⟨e, _, h⟩ := List.mem_flatMap.1 hu
  simp only [Ev.cells, List.mem_cons, List.not_mem_nil, or_false] at h
  rcases h with rfl | rfl | rfl | rfl | rfl <;> rfl

/-- The slice value v holds these parts, in a row that the call owns. -/
def OwnsEvs (w : World) (base E : Nat) (v : Value) (es : List Ev) : Prop := w.ownsRow base E 5 v es.length (es.flatMap Ev.cells)

theorem OwnsEvs.nil (w : World) (base E : Nat) : OwnsEvs w base E (.slice none 0 0) [] := World.ownsRow_nil _ _ _ _
theorem OwnsEvs.push {w : World} {base E n : Nat} {v : Value} {es ds : List Ev} (h : w.ownsRow base E 5 v n (es.flatMap Ev.cells ++ ds.flatMap Ev.cells)) (hn : n = es.length + ds.length) : OwnsEvs w base E v (es ++ ds) := by
  subst hn
  unfold OwnsEvs
  rw [List.flatMap_append, List.length_append]
  exact h
theorem OwnsEvs.push1 {w : World} {base E n : Nat} {v : Value} {es : List Ev} {e : Ev} (h : w.ownsRow base E 5 v n (es.flatMap Ev.cells ++ e.cells)) (hn : n = es.length + 1) : OwnsEvs w base E v (es ++ [e]) :=
  OwnsEvs.push (ds := [e]) (by rw [List.flatMap_cons, List.flatMap_nil, List.append_nil]; exact h) hn
end Go.Tru
namespace Go.Proofs.Ytdjdbcppabiknaa
open Go.RowKit Go.Tru

theorem info_ev : (Try.prog.info? 32).map (fun i => (i.zero, i.size, i.bytes)) = some (some (.agg #[.int .i64 0, .bool false, .int .u64 0, .string ⟨#[]⟩, .int .i64 0]), 5, 48) := by kernel_rfl

def DeepRel (es : Nat → List Ev) (n : Nat) (w : World) (v i : Value) (wr : World) : Prop :=
  ∃ k : Nat, k ≤ n ∧ i = .int .i64 k ∧ OwnsEvs wr w.heap.size 32 v (es k) ∧ Keeps [] w wr

set_option maxHeartbeats 1600000 in
theorem eventDeep_walk (n : Int) (m : Bool) (w : World) (hn : -9223372036854775808 ≤ n ∧ n ≤ 9223372036854775807) :
    Calls Try.prog 6 #[.int .i64 n, .bool m] w fun e w' => e = .returned (.bool true) ∧ Below w.heap.size w w' := by
  refine Calls.mono (R := fun e w' => e = .returned (.bool true) ∧ Keeps [] w w') ?_ (fun e w' h => ⟨h.1, h.2.all⟩)
  by_cases hn1 : n < 1 ∨ 30 < n
  · rcases hn1 with h | h
    all_goals
      go_enter Try.func6, Try.ntmps6
      go_wp2_with fail
      refine (alive_any w).mono ?_
      rintro e w1 ⟨rfl, k1⟩
      have K1 := Lib.hid k1
      clear k1
      go_wp2_with fail
      go_ret
      exact ⟨rfl, K1.out⟩
  obtain ⟨N, rfl⟩ : ∃ N : Nat, n = N := ⟨n.toNat, by omega⟩
  have hN1 : 1 ≤ N := by omega
  have hN2 : N ≤ 30 := by omega
  clear hn hn1
  obtain ⟨i0, hi, hz0, hz1, hz2⟩ := info_parts info_ev
  have d1 : decide ((N : Int) < 1) = false := by simp; omega
  have d2 : decide (30 < (N : Int)) = false := by simp; omega
  cases m
  · go_enter Try.func6, Try.ntmps6
    go_wp2_with fail
    refine (alive_any w).mono ?_
    rintro e w1 ⟨rfl, k1⟩
    have K1 := Lib.hid k1
    clear k1
    go_wp2_with fail
    go_loopw [5, 6] (fun v i wr => DeepRel (deepHead false) N w v i wr) (fun _ i _ => N - (intOf i).toNat)
    case atStart => exact ⟨0, Nat.zero_le _, rfl, OwnsEvs.nil _ _ _, K1.out⟩
    case round =>
      obtain ⟨k, hk, rfl, hown, hK⟩ := hrel
      have hz := hK.size
      have HO := Lib.hid hown
      have HK := Lib.hid hK
      have hlen := deep_len false k
      clear hown hK
      by_cases hlt : k < N
      · go_wp2_with (at_builtin; go_must (refine wpList_append_own _ rfl _ _ 22 rfl w.heap.size 32 i0 (.agg #[.int .i64 0, .bool false, .int .u64 0, .string ⟨#[]⟩, .int .i64 0]) 5 48 Try.underlying22 hi hz0 hz1 hz2 rfl (by decide) _ _ _ rfl (HO.out.alloc _) ⟨_, 0, none⟩ 1 1 ((deepOne false).flatMap Ev.cells) rfl rfl (cells_new _ rfl) (ev_one (deepOne false)) (by unfold maxLen; omega) (by omega) (by simp only [World.size_alloc]; omega) ?_))
        intro v' w2 hown2 hgrow _hnil
        have HO2 := Lib.hid hown2
        have HG := Lib.hid hgrow
        have hbl := HO.out.lt
        clear hown2 hgrow _hnil

        go_wp2_with fail
        go_roundw
        case rel => exact ⟨k + 1, by omega, by go_num, OwnsEvs.push HO2.out rfl, (HK.out.alloc _).grown HG.out (fun j hj => Or.inr (hbl j hj).1)⟩
        case measure => simp [intOf]; omega
      · obtain rfl : k = N := by omega
        go_wp2_with (at_builtin; go_must (refine wpList_append_own _ rfl _ _ 22 rfl w.heap.size 32 i0 (.agg #[.int .i64 0, .bool false, .int .u64 0, .string ⟨#[]⟩, .int .i64 0]) 5 48 Try.underlying22 hi hz0 hz1 hz2 rfl (by decide) _ _ _ rfl (HO.out.alloc _) ⟨_, 0, none⟩ 1 1 ([evNull].flatMap Ev.cells) rfl rfl (cells_new _ rfl) (ev_one [evNull]) (by unfold maxLen; omega) (by omega) (by simp only [World.size_alloc]; omega) ?_))
        intro v' w2 hown2 hgrow _hnil
        have HO2 := Lib.hid hown2
        have HG := Lib.hid hgrow
        have hbl := HO.out.lt
        clear hown2 hgrow _hnil

        go_wp2_with fail
        have hown3 : OwnsEvs w2 w.heap.size 32 _ (deepHead false k ++ [evNull]) := OwnsEvs.push HO2.out rfl
        have hK3 : Keeps [] w w2 := (HK.out.alloc _).grown HG.out (fun j hj => Or.inr (hbl j hj).1)
        clear HO2 HG hbl HO
        have HO3 := Lib.hid hown3
        have HK3 := Lib.hid hK3
        clear hown3 hK3
        obtain ⟨wo, rfl⟩ : ∃ wo : World, wo = wr := ⟨_, rfl⟩
        go_loopw [5, 7] (fun v i wr => DeepRel (deepMid false k) k w v i wr) (fun _ i _ => k - (intOf i).toNat)
        case atStart => exact ⟨0, Nat.zero_le _, rfl, by simpa [deepMid, deepTail] using HO3.out, HK3.out⟩
        case round =>
          obtain ⟨j, hj, rfl, hown, hK⟩ := hrel
          have hz' := hK.size
          have HO := Lib.hid hown
          have HK' := Lib.hid hK
          have hlen2 : (deepMid false k j).length ≤ 4 * k + 1 := by unfold deepMid; rw [List.length_append, List.length_append, tail_len]; simp; omega
          clear hown hK
          by_cases hlt2 : j < k
          · go_wp2_with (at_builtin; go_must (refine wpList_append_own _ rfl _ _ 22 rfl w.heap.size 32 i0 (.agg #[.int .i64 0, .bool false, .int .u64 0, .string ⟨#[]⟩, .int .i64 0]) 5 48 Try.underlying22 hi hz0 hz1 hz2 rfl (by decide) _ _ _ rfl (HO.out.alloc _) ⟨_, 0, none⟩ 1 1 ([evEnd].flatMap Ev.cells) rfl rfl (cells_new _ rfl) (ev_one [evEnd]) (by unfold maxLen; omega) (by omega) (by simp only [World.size_alloc]; omega) ?_))
            intro v' w2 hown2 hgrow _hnil
            have HO2 := Lib.hid hown2
            have HG := Lib.hid hgrow
            have hbl := HO.out.lt
            clear hown2 hgrow _hnil

            go_wp2_with fail
            go_roundw
            case rel =>
              refine ⟨j + 1, by omega, by go_num, ?_, (HK'.out.alloc _).grown HG.out (fun j hj => Or.inr (hbl j hj).1)⟩
              have := OwnsEvs.push1 HO2.out rfl
              simpa [deepMid, deepTail] using this
            case measure => simp [intOf]; omega
          · obtain rfl : j = k := by omega
            have hdoc : deepMid false j j = deepDoc false j := rfl
            have HO5 : Hid (OwnsEvs wr w.heap.size 32 _ (deepDoc false j)) := HO.out
            obtain ⟨o5, c5, hv5, hin5⟩ := evsIn_of_owns HO5.out
            have hl5 : (deepDoc false j).length ≤ 4 * j + 1 := hlen2
            have hall := deep_all j (by omega) hN1
            have hchk : check (deepDoc false j) = if 16 < j then 4 else 0 := hall.2
            have HI5 := Lib.hid hin5
            have HCH := Lib.hid hchk
            clear hin5 hchk hall hdoc HO HO5 HO3 HK3 hlen2
            rw [hv5]
            clear hv5
            by_cases hd : 16 < j
            all_goals
              go_wp2_with fail
              refine (check_any o5 _ c5 (deepDoc false j) _ HI5.out (by omega)).mono ?_
              rintro e w6 ⟨rfl, k6⟩
              have K6 := Lib.hid k6
              rw [HCH.out]
              clear k6
              first | rw [if_pos hd] | rw [if_neg hd]
              go_wp2_with fail
              go_ret
              exact ⟨rfl, HK'.out.trans K6.out⟩
  · go_enter Try.func6, Try.ntmps6
    go_wp2_with fail
    refine (alive_any w).mono ?_
    rintro e w1 ⟨rfl, k1⟩
    have K1 := Lib.hid k1
    clear k1
    go_wp2_with fail
    go_loopw [5, 6] (fun v i wr => DeepRel (deepHead true) N w v i wr) (fun _ i _ => N - (intOf i).toNat)
    case atStart => exact ⟨0, Nat.zero_le _, rfl, OwnsEvs.nil _ _ _, K1.out⟩
    case round =>
      obtain ⟨k, hk, rfl, hown, hK⟩ := hrel
      have hz := hK.size
      have HO := Lib.hid hown
      have HK := Lib.hid hK
      have hlen := deep_len true k
      clear hown hK
      by_cases hlt : k < N
      · go_wp2_with (at_builtin; go_must (refine wpList_append_own _ rfl _ _ 22 rfl w.heap.size 32 i0 (.agg #[.int .i64 0, .bool false, .int .u64 0, .string ⟨#[]⟩, .int .i64 0]) 5 48 Try.underlying22 hi hz0 hz1 hz2 rfl (by decide) _ _ _ rfl (HO.out.alloc _) ⟨_, 0, none⟩ 2 2 ((deepOne true).flatMap Ev.cells) rfl rfl (cells_new _ rfl) (ev_one (deepOne true)) (by unfold maxLen; omega) (by omega) (by simp only [World.size_alloc]; omega) ?_))
        intro v' w2 hown2 hgrow _hnil
        have HO2 := Lib.hid hown2
        have HG := Lib.hid hgrow
        have hbl := HO.out.lt
        clear hown2 hgrow _hnil

        go_wp2_with fail
        go_roundw
        case rel => exact ⟨k + 1, by omega, by go_num, OwnsEvs.push HO2.out rfl, (HK.out.alloc _).grown HG.out (fun j hj => Or.inr (hbl j hj).1)⟩
        case measure => simp [intOf]; omega
      · obtain rfl : k = N := by omega
        go_wp2_with (at_builtin; go_must (refine wpList_append_own _ rfl _ _ 22 rfl w.heap.size 32 i0 (.agg #[.int .i64 0, .bool false, .int .u64 0, .string ⟨#[]⟩, .int .i64 0]) 5 48 Try.underlying22 hi hz0 hz1 hz2 rfl (by decide) _ _ _ rfl (HO.out.alloc _) ⟨_, 0, none⟩ 1 1 ([evNull].flatMap Ev.cells) rfl rfl (cells_new _ rfl) (ev_one [evNull]) (by unfold maxLen; omega) (by omega) (by simp only [World.size_alloc]; omega) ?_))
        intro v' w2 hown2 hgrow _hnil
        have HO2 := Lib.hid hown2
        have HG := Lib.hid hgrow
        have hbl := HO.out.lt
        clear hown2 hgrow _hnil

        go_wp2_with fail
        have hown3 : OwnsEvs w2 w.heap.size 32 _ (deepHead true k ++ [evNull]) := OwnsEvs.push HO2.out rfl
        have hK3 : Keeps [] w w2 := (HK.out.alloc _).grown HG.out (fun j hj => Or.inr (hbl j hj).1)
        clear HO2 HG hbl HO
        have HO3 := Lib.hid hown3
        have HK3 := Lib.hid hK3
        clear hown3 hK3
        obtain ⟨wo, rfl⟩ : ∃ wo : World, wo = wr := ⟨_, rfl⟩
        go_loopw [5, 7] (fun v i wr => DeepRel (deepMid true k) k w v i wr) (fun _ i _ => k - (intOf i).toNat)
        case atStart => exact ⟨0, Nat.zero_le _, rfl, by simpa [deepMid, deepTail] using HO3.out, HK3.out⟩
        case round =>
          obtain ⟨j, hj, rfl, hown, hK⟩ := hrel
          have hz' := hK.size
          have HO := Lib.hid hown
          have HK' := Lib.hid hK
          have hlen2 : (deepMid true k j).length ≤ 4 * k + 1 := by unfold deepMid; rw [List.length_append, List.length_append, tail_len]; simp; omega
          clear hown hK
          by_cases hlt2 : j < k
          · go_wp2_with (at_builtin; go_must (refine wpList_append_own _ rfl _ _ 22 rfl w.heap.size 32 i0 (.agg #[.int .i64 0, .bool false, .int .u64 0, .string ⟨#[]⟩, .int .i64 0]) 5 48 Try.underlying22 hi hz0 hz1 hz2 rfl (by decide) _ _ _ rfl (HO.out.alloc _) ⟨_, 0, none⟩ 1 1 ([evEnd].flatMap Ev.cells) rfl rfl (cells_new _ rfl) (ev_one [evEnd]) (by unfold maxLen; omega) (by omega) (by simp only [World.size_alloc]; omega) ?_))
            intro v' w2 hown2 hgrow _hnil
            have HO2 := Lib.hid hown2
            have HG := Lib.hid hgrow
            have hbl := HO.out.lt
            clear hown2 hgrow _hnil

            go_wp2_with fail
            go_roundw
            case rel =>
              refine ⟨j + 1, by omega, by go_num, ?_, (HK'.out.alloc _).grown HG.out (fun j hj => Or.inr (hbl j hj).1)⟩
              have := OwnsEvs.push1 HO2.out rfl
              simpa [deepMid, deepTail] using this
            case measure => simp [intOf]; omega
          · obtain rfl : j = k := by omega
            have hdoc : deepMid true j j = deepDoc true j := rfl
            have HO5 : Hid (OwnsEvs wr w.heap.size 32 _ (deepDoc true j)) := HO.out
            obtain ⟨o5, c5, hv5, hin5⟩ := evsIn_of_owns HO5.out
            have hl5 : (deepDoc true j).length ≤ 4 * j + 1 := hlen2
            have hall := deep_all j (by omega) hN1
            have hchk : check (deepDoc true j) = if 16 < j then 4 else 0 := hall.1
            have HI5 := Lib.hid hin5
            have HCH := Lib.hid hchk
            clear hin5 hchk hall hdoc HO HO5 HO3 HK3 hlen2
            rw [hv5]
            clear hv5
            by_cases hd : 16 < j
            all_goals
              go_wp2_with fail
              refine (check_any o5 _ c5 (deepDoc true j) _ HI5.out (by omega)).mono ?_
              rintro e w6 ⟨rfl, k6⟩
              have K6 := Lib.hid k6
              rw [HCH.out]
              clear k6
              first | rw [if_pos hd] | rw [if_neg hd]
              go_wp2_with fail
              go_ret
              exact ⟨rfl, HK'.out.trans K6.out⟩
end Go.Proofs.Ytdjdbcppabiknaa
