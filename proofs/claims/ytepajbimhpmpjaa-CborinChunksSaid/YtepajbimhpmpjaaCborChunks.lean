/-
  CborinChunks' walk.
-/
import Derived.Test.YtepajbimhpmpjaaCborOne
import Derived.Test.YtepajbimhpmpjaaCborChunkPlain
import Derived.Test.YtepajbimhpmpjaaRefUtf
import Derived.Test.YtepajbimhpmpjaaStrsLaw
import Derived.Deep.QuietTactic
import Derived.BigQuiet
namespace Go.Tru
theorem bytesOf_list' (l : List UInt8) : (bytesOf l).data.toList = l := by simp [bytesOf]
theorem bytesOf_size' (l : List UInt8) : (bytesOf l).size = l.length := by simp [bytesOf, ByteArray.size]
theorem cat_list' (s t : ByteArray) : (s ++ t).data.toList = s.data.toList ++ t.data.toList := by
  rw [ByteArray.data_append, Array.toList_append]

theorem chWant_snoc (word : Bool) : ∀ (l : List (List UInt8)) (acc : Nat) (s : List UInt8), chWant word acc (l ++ [s]) = if chWant word acc l ≠ 0 then chWant word acc l else if 200 < acc + l.flatten.length + s.length then 5 else if word = true ∧ utf8 s = false then 9 else 0
  | [], acc, s => by simp [chWant]
  | t :: l, acc, s => by
    rw [List.cons_append, chWant, chWant]
    by_cases h1 : 200 < acc + t.length
    · rw [if_pos h1, if_pos h1, if_pos (by decide)]
    rw [if_neg h1, if_neg h1]
    by_cases h2 : word = true ∧ utf8 t = false
    · rw [if_pos h2, if_pos h2, if_pos (by decide)]
    rw [if_neg h2, if_neg h2, chWant_snoc word l (acc + t.length) s, List.flatten_cons, List.length_append, Nat.add_assoc acc]

theorem chBytes_snoc (word : Bool) (l : List (List UInt8)) (s : List UInt8) : chBytes word (l ++ [s]) = chBytes word l ++ (headB (chMajor word) s.length ++ s) := by
  simp [chBytes]

theorem chBytes_len (word : Bool) : ∀ (l : List (List UInt8)), (∀ s ∈ l, s.length ≤ 100) → (chBytes word l).length ≤ 109 * l.length
  | [], _ => by simp [chBytes]
  | s :: l, h => by
    have h1 := chBytes_len word l (fun x hx => h x (List.mem_cons_of_mem _ hx))
    have h2 := h s (List.mem_cons_self ..)
    have h3 := headB_len (chMajor word) s.length
    unfold chBytes at *
    rw [List.flatMap_cons]
    simp only [List.length_append, List.length_cons]
    omega
end Go.Tru
namespace Go.Proofs.Ytepajbimhpmpjaa
open Go.RowKit Go.Tru

/-- so many chunks have been put together -/
def ChRel (word : Bool) (xs : List ByteArray) (w : World) (b all want i : Value) (wr : World) : Prop :=
  ∃ (k : Nat) (bs az : ByteArray), k ≤ xs.length ∧ i = .int .i64 k ∧ b = .string bs ∧ all = .string az ∧ want = .int .i64 (chWant word 0 ((xs.take k).map fun x => x.data.toList)) ∧
    bs.data.toList = UInt8.ofNat (32 * chMajor word + 31) :: chBytes word ((xs.take k).map fun x => x.data.toList) ∧ az.data.toList = ((xs.take k).map fun x => x.data.toList).flatten ∧ (∀ x ∈ xs.take k, x.size ≤ 100) ∧ az.size ≤ 100 * k ∧ Keeps [] w wr

set_option maxHeartbeats 3200000 in
set_option maxRecDepth 100000 in
theorem chunks_false (o : Option Addr) (n c : Nat) (xs : List ByteArray) (w : World) (h : StrsIn w o n c xs) (hn : n ≤ 12) :
    Calls Try.prog 6 #[.slice o n c, .bool false] w fun r w' => r = .returned (.bool true) ∧ Keeps [] w w' := by
  have hl := h.len
  have h12 : ¬ 12 < (n : Int) := by omega
  have hconv := fun (W : World) (n : Nat) (hn : n = W.heap.size) => run_bytes_lit (P := Try.prog) 41 9 5 Try.underlying41 Try.underlying5 Try.underlying9 [127] W n hn
  simp only [List.length_cons, List.length_nil, List.map_cons, List.map_nil, Nat.zero_add] at hconv
  have hwc : IntKind.u8.wrap 127 = 127 := by decide
  have H := Lib.hid h
  have L := Lib.hid hl
  have HN := Lib.hid hn
  clear h hl hn
  go_enter Try.func6, Try.ntmps6
  go_wp2_with fail
  refine (calive_any w).mono ?_
  rintro e w1 ⟨rfl, k1⟩
  have K1 := Lib.hid k1
  have hc1 := hconv w1 w1.heap.size rfl
  clear k1 hconv
  go_wp2_with fail
  clear hc1 hwc
  go_loopw [7, 8, 9, 33] (fun b all want i wr => ChRel true xs w b all want i wr) (fun _ _ _ i _ => 20 - (intOf i).toNat)
  case atStart => exact ⟨0, _, _, Nat.zero_le _, rfl, rfl, rfl, rfl, rfl, rfl, by simp, by exact Nat.zero_le _, K1.out.alloc _⟩
  case round =>
    obtain ⟨k, bs, az, hk, rfl, rfl, rfl, rfl, hbs, has, hsz, hal, hK⟩ := hrel
    have hin := H.out.keeps hK
    have HK := Lib.hid hK
    have HBS := Lib.hid hbs
    have HAS := Lib.hid has
    have HSZ := Lib.hid hsz
    have HAL := Lib.hid hal
    clear hK hbs has hsz
    have hkn : k ≤ n := by rw [← L.out]; exact hk
    have hn12 := HN.out
    by_cases hlt : k < n
    · have hx : k < xs.length := by rw [L.out]; exact hlt
      obtain ⟨b1, f1, rfl, g1⟩ := hin.get hlt hx
      have htk : xs.take (k + 1) = xs.take k ++ [xs[k]] := List.take_succ_eq_append_getElem hx
      have HTK := Lib.hid htk
      have hki : (k : Int) < (n : Int) := by omega
      generalize xs[k] = s at g1 HTK
      clear hin htk
      by_cases hbig : 100 < s.size
      · have hbI : (100 : Int) < (s.size : Int) := by omega
        go_wp2_with fail
        go_ret
        exact ⟨rfl, HK.out⟩
      have hbI : ¬ (100 : Int) < (s.size : Int) := by omega
      have hws : IntKind.u64.wrap (s.size : Int) = s.size := by simp [IntKind.wrap, IntKind.bits, IntKind.signed]; omega
      have HHD := Lib.hid (fun W => head_any 3 s.size (by omega) (by omega) W)
      have HVD := Lib.hid (fun W => refValid_any s W (by omega))
      have hbsz : bs.size ≤ 2000 := by
        have e : bs.size = bs.data.toList.length := by rw [Array.length_toList]; rfl
        have h3 := chBytes_len true ((xs.take k).map fun x => x.data.toList) (fun t ht => by
          obtain ⟨x, hx, rfl⟩ := List.mem_map.1 ht
          have := HSZ.out x hx
          rw [Array.length_toList]; exact this)
        rw [e, HBS.out, List.length_cons]
        rw [List.length_map, List.length_take] at h3
        omega
      have hh9 : (bytesOf (headB 3 s.size)).size ≤ 9 := by rw [bytesOf_size']; exact (headB_len 3 s.size).2
      have hal2 : az.size ≤ 1200 := by omega
      obtain ⟨hd, hhd⟩ : ∃ hd, bytesOf (headB 3 s.size) = hd := ⟨_, rfl⟩
      rw [hhd] at hh9
      have HHDE := Lib.hid hhd
      obtain ⟨q, hq⟩ : ∃ q, chWant true 0 ((xs.take k).map fun x => x.data.toList) = q := ⟨_, rfl⟩
      rw [hq]
      have HQ := Lib.hid hq
      clear hq hhd
      have hnext : ∀ (q2 : Int) (wr2 : World), Keeps [] w wr2 → q2 = (if q ≠ 0 then q else if 200 < az.size + s.size then 5 else if true = true ∧ utf8 s.data.toList = false then 9 else 0) → ChRel true xs w (.string (bs ++ (hd ++ s))) (.string (az ++ s)) (.int .i64 q2) (.int .i64 ((k + 1 : Nat) : Int)) wr2 := by
        intro q2 wr2 hk2 hq2
        have hm : (xs.take (k + 1)).map (fun x => x.data.toList) = (xs.take k).map (fun x => x.data.toList) ++ [s.data.toList] := by rw [HTK.out]; simp
        have hfl : ((xs.take k).map fun x => x.data.toList).flatten.length = az.size := by rw [← HAS.out, Array.length_toList]; rfl
        have hsl : s.data.toList.length = s.size := by rw [Array.length_toList]; rfl
        refine ⟨k + 1, _, _, by omega, rfl, rfl, rfl, ?_, ?_, ?_, ?_, ?_, hk2⟩
        · rw [hm, chWant_snoc, HQ.out, hfl, hsl, hq2, Nat.zero_add]
        · rw [hm, chBytes_snoc, cat_list', cat_list', HBS.out, ← HHDE.out, bytesOf_list', hsl]; rfl
        · rw [hm, cat_list', HAS.out]; simp
        · rw [HTK.out]
          intro x hx
          rcases List.mem_append.1 hx with hx | hx
          · exact HSZ.out x hx
          · rw [List.mem_singleton] at hx; subst hx; omega
        · rw [ByteArray.size_append]; omega
      have HNEXT := Lib.hid hnext
      clear hnext
      go_wp2_with fail
      refine (HHD.out wr).mono ?_
      rintro e w2 ⟨rfl, k2⟩
      rw [HHDE.out]
      have K2 := Lib.hid (HK.out.trans k2)
      clear k2
      by_cases hq0 : q = 0
      · subst hq0
        by_cases h2 : 200 < az.size + s.size
        · have h2I : (200 : Int) < (az.size : Int) + (s.size : Int) := by omega
          go_wp2_with fail
          go_roundw
          case rel => exact HNEXT.out 5 _ K2.out (by rw [if_neg (by simp), if_pos h2])
          case measure => simp [intOf]; omega
        · have h2I : ¬ (200 : Int) < (az.size : Int) + (s.size : Int) := by omega
          go_wp2_with fail
          refine (HVD.out w2).mono ?_
          rintro e w3 ⟨rfl, rfl⟩
          cases hu : utf8 s.data.toList
          · have HU := Lib.hid hu
            clear hu
            go_wp2_with fail
            go_roundw
            case rel => exact HNEXT.out 9 _ K2.out (by rw [if_neg (by simp), if_neg h2, if_pos (by first | exact ⟨rfl, HU.out⟩ | exact ⟨trivial, HU.out⟩)])
            case measure => simp [intOf]; omega
          · have HU := Lib.hid hu
            clear hu
            go_wp2_with fail
            go_roundw
            case rel => exact HNEXT.out 0 _ K2.out (by rw [if_neg (by simp), if_neg h2, if_neg (fun h => absurd h.2 (by rw [HU.out]; decide))])
            case measure => simp [intOf]; omega
      · have hqb : (q == 0) = false := by simp; exact hq0
        go_wp2_with fail
        go_roundw
        case rel => exact HNEXT.out q _ K2.out (by rw [if_pos hq0])
        case measure => simp [intOf]; omega
    · obtain rfl : k = n := by omega
      have hge : ¬ (k : Int) < (k : Int) := by omega
      have hall : xs.take k = xs := List.take_of_length_le (by rw [L.out]; exact Nat.le_refl _)
      have hbs := HBS.out
      have has := HAS.out
      have hsz := HSZ.out
      obtain ⟨q, hq⟩ : ∃ q, chWant true 0 ((xs.take k).map fun x => x.data.toList) = q := ⟨_, rfl⟩
      rw [hq]
      rw [hall] at hbs has hsz hq
      obtain ⟨cs, hcs⟩ : ∃ cs, xs.map (fun x => x.data.toList) = cs := ⟨_, rfl⟩
      rw [hcs] at hbs has hq
      have hcl : ∀ t ∈ cs, t.length ≤ 100 := by
        intro t ht
        rw [← hcs] at ht
        obtain ⟨x, hx, rfl⟩ := List.mem_map.1 ht
        have := hsz x hx
        rw [Array.length_toList]; exact this
      have hbsz : bs.size ≤ 2000 := by
        have e : bs.size = bs.data.toList.length := by rw [Array.length_toList]; rfl
        have h3 := chBytes_len true cs hcl
        have h4 : cs.length = k := by rw [← hcs, List.length_map, L.out]
        rw [e, hbs, List.length_cons]
        omega
      obtain ⟨c1, c2⟩ := chunks_all true cs hcl
      have hb1 : (bs ++ ⟨#[255]⟩ : ByteArray).data.toList = UInt8.ofNat (32 * chMajor true + 31) :: (chBytes true cs ++ [255]) := by rw [cat_list', hbs]; rfl
      have hb2 : bs.data.toList = UInt8.ofNat (32 * chMajor true + 31) :: (chBytes true cs ++ []) := by rw [hbs, List.append_nil]
      have hsz1 : (bs ++ ⟨#[255]⟩ : ByteArray).size ≤ 1000000 := by rw [ByteArray.size_append]; show bs.size + 1 ≤ _; omega
      clear hall hsz hcl hin
      by_cases hq0 : q = 0
      · obtain ⟨d1, d2⟩ := c2 (hq.trans hq0)
        have haz : az = bytesOf cs.flatten := by
          apply ByteArray.ext
          rw [← Array.toList_inj, has, bytesOf_list']
        rw [← hb1] at d1
        rw [← hb2] at d2
        have H1 := Lib.hid (fun W => cborAll_one (s := bs ++ ⟨#[255]⟩) (d := 2) (W := W) hsz1 d1)
        have H2 := fun W => cborAll_any bs 2 W (by omega)
        rw [d2] at H2
        have H2 := Lib.hid H2
        have heq : ∀ W, (binOp .eql 36 (.agg #[.int .i64 3, .bool false, .int .u64 0, .string az, .int .i64 0]) (.agg #[.int .i64 3, .bool false, .int .u64 0, .string az, .int .i64 0])).run Try.prog W = .ok (.bool true) W := fun W => by
          have := eql_ev (evText az) (evText az) W
          rw [show (evText az).same (evText az) = true from same_iff.2 rfl] at this
          exact this
        subst hq0
        have HAZ := Lib.hid haz
        clear c1 c2 d1 d2 hb1 hb2 hbs has hq haz hcs hal
        go_wp2_with fail
        refine (H1.out wr).mono ?_
        rintro e w2 ⟨b2, o2, cc, rfl, ⟨q0, q1, q2, q3, q4⟩, hc, k2⟩
        simp only [wordEv, if_true, evText] at q0 q1 q2 q3 q4
        rw [← HAZ.out] at q3
        have K2 := Lib.hid (HK.out.trans k2)
        have Q0 := Lib.hid q0
        have Q1 := Lib.hid q1
        have Q2 := Lib.hid q2
        have Q3 := Lib.hid q3
        have Q4 := Lib.hid q4
        clear k2 q0 q1 q2 q3 q4
        go_wp2_with fail
        refine (H2.out w2).mono ?_
        rintro e w3 ⟨v3, rfl, hown, k3⟩
        obtain ⟨a3, c3, rfl⟩ := hown.shape
        have q0 := k3.cell Q0.out (by simp)
        have q1 := k3.cell Q1.out (by simp)
        have q2 := k3.cell Q2.out (by simp)
        have q3 := k3.cell Q3.out (by simp)
        have q4 := k3.cell Q4.out (by simp)
        have K3 := Lib.hid (K2.out.trans k3)
        clear hown k3
        go_wp2_with fail
        go_ret
        exact ⟨rfl, K3.out⟩
      · have d1 := c1 (by rw [hq]; exact hq0) [255]
        have d2 := c1 (by rw [hq]; exact hq0) []
        rw [← hb1, hq] at d1
        rw [← hb2, hq] at d2
        have H1 := fun W => cborAll_any (bs ++ ⟨#[255]⟩) 2 W hsz1
        have H2 := fun W => cborAll_any bs 2 W (by omega)
        rw [d1] at H1
        rw [d2] at H2
        have H1 := Lib.hid H1
        have H2 := Lib.hid H2
        have hqb : (q != 0) = true := by simpa using hq0
        have hqq : (q == q) = true := by simp
        clear c1 c2 d1 d2 hb1 hb2 hbs has hq hcs hal hq0
        go_wp2_with fail
        refine (H1.out wr).mono ?_
        rintro e w2 ⟨v2, rfl, hown, k2⟩
        obtain ⟨a2, c2, rfl⟩ := hown.shape
        have K2 := Lib.hid (HK.out.trans k2)
        clear k2 hown
        go_wp2_with fail
        refine (H2.out w2).mono ?_
        rintro e w3 ⟨v3, rfl, hown, k3⟩
        obtain ⟨a3, c3, rfl⟩ := hown.shape
        have K3 := Lib.hid (K2.out.trans k3)
        clear hown k3
        go_wp2_with fail
        go_ret
        exact ⟨rfl, K3.out⟩

set_option maxHeartbeats 3200000 in
set_option maxRecDepth 100000 in
theorem chunks_true (o : Option Addr) (n c : Nat) (xs : List ByteArray) (w : World) (h : StrsIn w o n c xs) (hn : n ≤ 12) :
    Calls Try.prog 6 #[.slice o n c, .bool true] w fun r w' => r = .returned (.bool true) ∧ Keeps [] w w' := by
  have hl := h.len
  have h12 : ¬ 12 < (n : Int) := by omega
  have hconv := fun (W : World) (n : Nat) (hn : n = W.heap.size) => run_bytes_lit (P := Try.prog) 41 9 5 Try.underlying41 Try.underlying5 Try.underlying9 [95] W n hn
  simp only [List.length_cons, List.length_nil, List.map_cons, List.map_nil, Nat.zero_add] at hconv
  have hwc : IntKind.u8.wrap 95 = 95 := by decide
  have H := Lib.hid h
  have L := Lib.hid hl
  have HN := Lib.hid hn
  clear h hl hn
  go_enter Try.func6, Try.ntmps6
  go_wp2_with fail
  refine (calive_any w).mono ?_
  rintro e w1 ⟨rfl, k1⟩
  have K1 := Lib.hid k1
  have hc1 := hconv w1 w1.heap.size rfl
  clear k1 hconv
  go_wp2_with fail
  clear hc1 hwc
  go_loopw [7, 8, 9, 33] (fun b all want i wr => ChRel false xs w b all want i wr) (fun _ _ _ i _ => 20 - (intOf i).toNat)
  case atStart => exact ⟨0, _, _, Nat.zero_le _, rfl, rfl, rfl, rfl, rfl, rfl, by simp, by exact Nat.zero_le _, K1.out.alloc _⟩
  case round =>
    obtain ⟨k, bs, az, hk, rfl, rfl, rfl, rfl, hbs, has, hsz, hal, hK⟩ := hrel
    have hin := H.out.keeps hK
    have HK := Lib.hid hK
    have HBS := Lib.hid hbs
    have HAS := Lib.hid has
    have HSZ := Lib.hid hsz
    have HAL := Lib.hid hal
    clear hK hbs has hsz
    have hkn : k ≤ n := by rw [← L.out]; exact hk
    have hn12 := HN.out
    by_cases hlt : k < n
    · have hx : k < xs.length := by rw [L.out]; exact hlt
      obtain ⟨b1, f1, rfl, g1⟩ := hin.get hlt hx
      have htk : xs.take (k + 1) = xs.take k ++ [xs[k]] := List.take_succ_eq_append_getElem hx
      have HTK := Lib.hid htk
      have hki : (k : Int) < (n : Int) := by omega
      generalize xs[k] = s at g1 HTK
      clear hin htk
      by_cases hbig : 100 < s.size
      · have hbI : (100 : Int) < (s.size : Int) := by omega
        go_wp2_with fail
        go_ret
        exact ⟨rfl, HK.out⟩
      have hbI : ¬ (100 : Int) < (s.size : Int) := by omega
      have hws : IntKind.u64.wrap (s.size : Int) = s.size := by simp [IntKind.wrap, IntKind.bits, IntKind.signed]; omega
      have HHD := Lib.hid (fun W => head_any 2 s.size (by omega) (by omega) W)
      have HVD := Lib.hid (fun W => refValid_any s W (by omega))
      have hbsz : bs.size ≤ 2000 := by
        have e : bs.size = bs.data.toList.length := by rw [Array.length_toList]; rfl
        have h3 := chBytes_len false ((xs.take k).map fun x => x.data.toList) (fun t ht => by
          obtain ⟨x, hx, rfl⟩ := List.mem_map.1 ht
          have := HSZ.out x hx
          rw [Array.length_toList]; exact this)
        rw [e, HBS.out, List.length_cons]
        rw [List.length_map, List.length_take] at h3
        omega
      have hh9 : (bytesOf (headB 2 s.size)).size ≤ 9 := by rw [bytesOf_size']; exact (headB_len 2 s.size).2
      have hal2 : az.size ≤ 1200 := by omega
      obtain ⟨hd, hhd⟩ : ∃ hd, bytesOf (headB 2 s.size) = hd := ⟨_, rfl⟩
      rw [hhd] at hh9
      have HHDE := Lib.hid hhd
      obtain ⟨q, hq⟩ : ∃ q, chWant false 0 ((xs.take k).map fun x => x.data.toList) = q := ⟨_, rfl⟩
      rw [hq]
      have HQ := Lib.hid hq
      clear hq hhd
      have hnext : ∀ (q2 : Int) (wr2 : World), Keeps [] w wr2 → q2 = (if q ≠ 0 then q else if 200 < az.size + s.size then 5 else if false = true ∧ utf8 s.data.toList = false then 9 else 0) → ChRel false xs w (.string (bs ++ (hd ++ s))) (.string (az ++ s)) (.int .i64 q2) (.int .i64 ((k + 1 : Nat) : Int)) wr2 := by
        intro q2 wr2 hk2 hq2
        have hm : (xs.take (k + 1)).map (fun x => x.data.toList) = (xs.take k).map (fun x => x.data.toList) ++ [s.data.toList] := by rw [HTK.out]; simp
        have hfl : ((xs.take k).map fun x => x.data.toList).flatten.length = az.size := by rw [← HAS.out, Array.length_toList]; rfl
        have hsl : s.data.toList.length = s.size := by rw [Array.length_toList]; rfl
        refine ⟨k + 1, _, _, by omega, rfl, rfl, rfl, ?_, ?_, ?_, ?_, ?_, hk2⟩
        · rw [hm, chWant_snoc, HQ.out, hfl, hsl, hq2, Nat.zero_add]
        · rw [hm, chBytes_snoc, cat_list', cat_list', HBS.out, ← HHDE.out, bytesOf_list', hsl]; rfl
        · rw [hm, cat_list', HAS.out]; simp
        · rw [HTK.out]
          intro x hx
          rcases List.mem_append.1 hx with hx | hx
          · exact HSZ.out x hx
          · rw [List.mem_singleton] at hx; subst hx; omega
        · rw [ByteArray.size_append]; omega
      have HNEXT := Lib.hid hnext
      clear hnext
      go_wp2_with fail
      refine (HHD.out wr).mono ?_
      rintro e w2 ⟨rfl, k2⟩
      rw [HHDE.out]
      have K2 := Lib.hid (HK.out.trans k2)
      clear k2
      by_cases hq0 : q = 0
      · subst hq0
        by_cases h2 : 200 < az.size + s.size
        · have h2I : (200 : Int) < (az.size : Int) + (s.size : Int) := by omega
          go_wp2_with fail
          go_roundw
          case rel => exact HNEXT.out 5 _ K2.out (by rw [if_neg (by simp), if_pos h2])
          case measure => simp [intOf]; omega
        · have h2I : ¬ (200 : Int) < (az.size : Int) + (s.size : Int) := by omega
          go_wp2_with fail
          go_roundw
          case rel => exact HNEXT.out 0 _ K2.out (by rw [if_neg (by simp), if_neg h2, if_neg (by simp)])
          case measure => simp [intOf]; omega
      · have hqb : (q == 0) = false := by simp; exact hq0
        go_wp2_with fail
        go_roundw
        case rel => exact HNEXT.out q _ K2.out (by rw [if_pos hq0])
        case measure => simp [intOf]; omega
    · obtain rfl : k = n := by omega
      have hge : ¬ (k : Int) < (k : Int) := by omega
      have hall : xs.take k = xs := List.take_of_length_le (by rw [L.out]; exact Nat.le_refl _)
      have hbs := HBS.out
      have has := HAS.out
      have hsz := HSZ.out
      obtain ⟨q, hq⟩ : ∃ q, chWant false 0 ((xs.take k).map fun x => x.data.toList) = q := ⟨_, rfl⟩
      rw [hq]
      rw [hall] at hbs has hsz hq
      obtain ⟨cs, hcs⟩ : ∃ cs, xs.map (fun x => x.data.toList) = cs := ⟨_, rfl⟩
      rw [hcs] at hbs has hq
      have hcl : ∀ t ∈ cs, t.length ≤ 100 := by
        intro t ht
        rw [← hcs] at ht
        obtain ⟨x, hx, rfl⟩ := List.mem_map.1 ht
        have := hsz x hx
        rw [Array.length_toList]; exact this
      have hbsz : bs.size ≤ 2000 := by
        have e : bs.size = bs.data.toList.length := by rw [Array.length_toList]; rfl
        have h3 := chBytes_len false cs hcl
        have h4 : cs.length = k := by rw [← hcs, List.length_map, L.out]
        rw [e, hbs, List.length_cons]
        omega
      obtain ⟨c1, c2⟩ := chunks_all false cs hcl
      have hb1 : (bs ++ ⟨#[255]⟩ : ByteArray).data.toList = UInt8.ofNat (32 * chMajor false + 31) :: (chBytes false cs ++ [255]) := by rw [cat_list', hbs]; rfl
      have hb2 : bs.data.toList = UInt8.ofNat (32 * chMajor false + 31) :: (chBytes false cs ++ []) := by rw [hbs, List.append_nil]
      have hsz1 : (bs ++ ⟨#[255]⟩ : ByteArray).size ≤ 1000000 := by rw [ByteArray.size_append]; show bs.size + 1 ≤ _; omega
      clear hall hsz hcl hin
      by_cases hq0 : q = 0
      · obtain ⟨d1, d2⟩ := c2 (hq.trans hq0)
        have haz : az = bytesOf cs.flatten := by
          apply ByteArray.ext
          rw [← Array.toList_inj, has, bytesOf_list']
        rw [← hb1] at d1
        rw [← hb2] at d2
        have H1 := Lib.hid (fun W => cborAll_one (s := bs ++ ⟨#[255]⟩) (d := 2) (W := W) hsz1 d1)
        have H2 := fun W => cborAll_any bs 2 W (by omega)
        rw [d2] at H2
        have H2 := Lib.hid H2
        have heq : ∀ W, (binOp .eql 36 (.agg #[.int .i64 4, .bool false, .int .u64 0, .string az, .int .i64 0]) (.agg #[.int .i64 4, .bool false, .int .u64 0, .string az, .int .i64 0])).run Try.prog W = .ok (.bool true) W := fun W => by
          have := eql_ev (evBytes az) (evBytes az) W
          rw [show (evBytes az).same (evBytes az) = true from same_iff.2 rfl] at this
          exact this
        subst hq0
        have HAZ := Lib.hid haz
        clear c1 c2 d1 d2 hb1 hb2 hbs has hq haz hcs hal
        go_wp2_with fail
        refine (H1.out wr).mono ?_
        rintro e w2 ⟨b2, o2, cc, rfl, ⟨q0, q1, q2, q3, q4⟩, hc, k2⟩
        simp only [wordEv, if_false, Bool.false_eq_true, evBytes] at q0 q1 q2 q3 q4
        rw [← HAZ.out] at q3
        have K2 := Lib.hid (HK.out.trans k2)
        have Q0 := Lib.hid q0
        have Q1 := Lib.hid q1
        have Q2 := Lib.hid q2
        have Q3 := Lib.hid q3
        have Q4 := Lib.hid q4
        clear k2 q0 q1 q2 q3 q4
        go_wp2_with fail
        refine (H2.out w2).mono ?_
        rintro e w3 ⟨v3, rfl, hown, k3⟩
        obtain ⟨a3, c3, rfl⟩ := hown.shape
        have q0 := k3.cell Q0.out (by simp)
        have q1 := k3.cell Q1.out (by simp)
        have q2 := k3.cell Q2.out (by simp)
        have q3 := k3.cell Q3.out (by simp)
        have q4 := k3.cell Q4.out (by simp)
        have K3 := Lib.hid (K2.out.trans k3)
        clear hown k3
        go_wp2_with fail
        go_ret
        exact ⟨rfl, K3.out⟩
      · have d1 := c1 (by rw [hq]; exact hq0) [255]
        have d2 := c1 (by rw [hq]; exact hq0) []
        rw [← hb1, hq] at d1
        rw [← hb2, hq] at d2
        have H1 := fun W => cborAll_any (bs ++ ⟨#[255]⟩) 2 W hsz1
        have H2 := fun W => cborAll_any bs 2 W (by omega)
        rw [d1] at H1
        rw [d2] at H2
        have H1 := Lib.hid H1
        have H2 := Lib.hid H2
        have hqb : (q != 0) = true := by simpa using hq0
        have hqq : (q == q) = true := by simp
        clear c1 c2 d1 d2 hb1 hb2 hbs has hq hcs hal hq0
        go_wp2_with fail
        refine (H1.out wr).mono ?_
        rintro e w2 ⟨v2, rfl, hown, k2⟩
        obtain ⟨a2, c2, rfl⟩ := hown.shape
        have K2 := Lib.hid (HK.out.trans k2)
        clear k2 hown
        go_wp2_with fail
        refine (H2.out w2).mono ?_
        rintro e w3 ⟨v3, rfl, hown, k3⟩
        obtain ⟨a3, c3, rfl⟩ := hown.shape
        have K3 := Lib.hid (K2.out.trans k3)
        clear hown k3
        go_wp2_with fail
        go_ret
        exact ⟨rfl, K3.out⟩

set_option maxHeartbeats 1600000 in
set_option maxRecDepth 100000 in
theorem cborinChunks_walk (o : Option Addr) (n c : Nat) (xs : List ByteArray) (by_ : Bool) (w : World) (h : StrsIn w o n c xs) :
    Calls Try.prog 6 #[.slice o n c, .bool by_] w fun r w' => r = .returned (.bool true) ∧ Below w.heap.size w w' := by
  refine Calls.mono (R := fun r w' => r = .returned (.bool true) ∧ Keeps [] w w') ?_ (fun r w' h => ⟨h.1, h.2.all⟩)
  by_cases hn : n ≤ 12
  · cases by_
    · exact chunks_false o n c xs w h hn
    · exact chunks_true o n c xs w h hn
  · have h12 : (12 : Int) < (n : Int) := by omega
    clear h hn
    go_enter Try.func6, Try.ntmps6
    go_wp2_with fail
    refine (calive_any w).mono ?_
    rintro e w1 ⟨rfl, k1⟩
    have K1 := Lib.hid k1
    clear k1
    go_wp2_with fail
    go_ret
    exact ⟨rfl, K1.out⟩
end Go.Proofs.Ytepajbimhpmpjaa
