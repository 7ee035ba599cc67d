/-
  FailApart's walk.
-/
import Derived.Test.YtfpmfhfjcakngaaDoorFailAlive
import Derived.LaidEqlPtr
namespace Go.Proofs.YtfpmfhfjcakngaaDoor
open Go.RowKit Go.Tru

theorem run_neq_ptr_other {P : Program} (w : World) {tp te : TypeId} {j : TypeInfo} {a b : Addr} {ca cb : Array Value} {ta tb : TypeId} (hp : P.underlying tp = some (.pointer te)) (hte : P.info? te = some j) (hsz : j.size ≠ 0)
    (hne : a ≠ b) (ha : w.heap[a.block]? = some (.cells ca ta (0, 0))) (hb : w.heap[b.block]? = some (.cells cb tb (0, 0))) :
    (binOp .neq tp (.pointer (some a)) (.pointer (some b))).run P w = .ok (.bool true) w := by
  have h : ∀ d : Nat, (Op.equalIn (d + 1) tp (.pointer (some a)) (.pointer (some b))).run P w = .ok false w := fun d => by
    simp [Op.equalIn, run_underlying hp, sizeOf, typeInfo, hte, hsz, run_sameAddr_other w hne ha hb]
  simp only [binOp]
  simp [Op.equal, Op.maxDepth, h 9999]

theorem fail_apart (a b : Nat) (hab : a ≠ b) (w : World) {ca cb : List Value} (ha : Has w a ca 41) (hb : Has w b cb 41) :
    (binOp .neq 38 (.pointer (some ⟨a, 0, none⟩)) (.pointer (some ⟨b, 0, none⟩))).run Tryd.prog w = .ok (.bool true) w := by
  have hm : (Tryd.prog.info? 41).any (fun j => j.size != 0) = true := by kernel_rfl
  obtain ⟨j, hj, hz⟩ := (Option.any_eq_true _ _).1 hm
  have hz' : j.size ≠ 0 := by simpa using hz
  exact run_neq_ptr_other w (show Tryd.prog.underlying 38 = some (.pointer 41) by kernel_rfl) hj hz' (fun e => hab (congrArg Addr.block e)) ha hb

set_option maxHeartbeats 2000000 in
set_option maxRecDepth 100000 in
theorem apart_early (n m p q : Int) (h : n = 0 ∨ m = 0) (w : World) (htab : PowTab w) :
    Calls Tryd.prog 7 #[.int .i64 n, .int .i64 m, .int .i64 p, .int .i64 q] w fun e w' => e = .returned (.bool true) ∧ Below w.heap.size w w' := by
  have HT := Lib.hid htab
  clear htab
  by_cases h0 : n = 0
  · subst h0
    clear h
    go_enter Tryd.func7, Tryd.ntmps7
    go_wp2_with fail
    all_goals refine (alive_any w HT.out).mono ?_
    all_goals rintro e w1 ⟨rfl, k1⟩
    all_goals have K1 := Lib.hid k1
    all_goals clear k1
    all_goals go_wp2_with fail
    all_goals go_tidy
    all_goals first | (exfalso; omega) | (go_ret; exact ⟨rfl, K1.out.all⟩)
  · obtain rfl : m = 0 := by rcases h with h | h; exact absurd h h0; exact h
    clear h
    go_enter Tryd.func7, Tryd.ntmps7
    go_wp2_with fail
    all_goals refine (alive_any w HT.out).mono ?_
    all_goals rintro e w1 ⟨rfl, k1⟩
    all_goals have K1 := Lib.hid k1
    all_goals clear k1
    all_goals go_wp2_with fail
    all_goals go_tidy
    all_goals first | (exfalso; omega) | (go_ret; exact ⟨rfl, K1.out.all⟩)

set_option maxHeartbeats 4000000 in
set_option maxRecDepth 100000 in
theorem apart_late (n m p q : Int) (hn : n ≠ 0) (hm : m ≠ 0) (w : World) (htab : PowTab w) :
    Calls Tryd.prog 7 #[.int .i64 n, .int .i64 m, .int .i64 p, .int .i64 q] w fun e w' => e = .returned (.bool true) ∧ Below w.heap.size w w' := by
  have HT := Lib.hid htab
  clear htab
  go_enter Tryd.func7, Tryd.ntmps7
  go_wp2_with fail
  refine (alive_any w HT.out).mono ?_
  rintro e w1 ⟨rfl, k1⟩
  have K1 := Lib.hid k1
  clear k1
  go_wp2_with fail
  · exfalso; first | omega | simp_all
  refine (new_any n p hn w1).mono ?_
  rintro e w2 ⟨rfl, hw2⟩
  have A2 := Has.new' w1 #[.int .i64 n, .int .i64 p] 41 rfl
  rw [← hw2] at A2
  have K2 := Lib.hid (show Keeps [] w w2 by rw [hw2]; exact K1.out.alloc _)
  obtain ⟨a, ha⟩ : ∃ a, w1.heap.size = a := ⟨_, rfl⟩
  rw [ha] at A2
  have B2 := Lib.hid A2
  have la := A2.lt
  clear A2 hw2
  rw [ha]
  clear ha
  go_wp2_with fail
  refine (new_any m q hm w2).mono ?_
  rintro e w3 ⟨rfl, hw3⟩
  have A3 := Has.new' w2 #[.int .i64 m, .int .i64 q] 41 rfl
  rw [← hw3] at A3
  have B3 := Lib.hid (show Has w3 a [.int .i64 n, .int .i64 p] 41 by rw [hw3]; exact B2.out.alloc _)
  have K3 := Lib.hid (show Keeps [] w w3 by rw [hw3]; exact K2.out.alloc _)
  obtain ⟨b, hb⟩ : ∃ b, w2.heap.size = b := ⟨_, rfl⟩
  rw [hb] at A3
  have C3 := Lib.hid A3
  have hab : a ≠ b := by omega
  have hba := fail_apart a b hab w3 B3.out A3
  clear A3 hw3 la
  rw [hb]
  clear hb
  go_wp2_with fail
  refine (at_any a n p _ B3.out).mono ?_
  rintro e w4 ⟨rfl, rfl⟩
  go_wp2_with fail
  refine (at_any b m q _ C3.out).mono ?_
  rintro e w4 ⟨rfl, rfl⟩
  go_wp2_with fail
  refine (errno_any a n p _ B3.out).mono ?_
  rintro e w4 ⟨rfl, rfl⟩
  go_wp2_with fail
  refine (errno_any b m q _ C3.out).mono ?_
  rintro e w4 ⟨rfl, rfl⟩
  go_wp2_with fail
  refine (must_any a _).mono ?_
  rintro e w4 ⟨rfl, rfl⟩
  go_wp2_with fail
  refine (must_any b _).mono ?_
  rintro e w4 ⟨rfl, rfl⟩
  go_wp2_with fail
  all_goals go_tidy
  all_goals first | (exfalso; omega) | (go_ret; exact ⟨rfl, K3.out.all⟩)

theorem failApart_walk (n m p q : Int) (w : World) (_ : -9223372036854775808 ≤ n ∧ n ≤ 9223372036854775807) (_ : -9223372036854775808 ≤ m ∧ m ≤ 9223372036854775807)
    (_ : -9223372036854775808 ≤ p ∧ p ≤ 9223372036854775807) (_ : -9223372036854775808 ≤ q ∧ q ≤ 9223372036854775807) (htab : PowTab w) :
    Calls Tryd.prog 7 #[.int .i64 n, .int .i64 m, .int .i64 p, .int .i64 q] w fun e w' => e = .returned (.bool true) ∧ Below w.heap.size w w' := by
  by_cases h : n = 0 ∨ m = 0
  · exact apart_early n m p q h w htab
  · exact apart_late n m p q (fun e => h (Or.inl e)) (fun e => h (Or.inr e)) w htab
end Go.Proofs.YtfpmfhfjcakngaaDoor
