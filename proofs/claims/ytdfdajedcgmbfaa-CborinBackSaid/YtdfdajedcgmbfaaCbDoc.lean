/-
  truchmanbook.Doc as plain data.
  x & (2^i - 1), of ints.
  truchmanbook.text: its contract.
  truchmanbook.Doc in memory; its function next.
  truchmanbook.Doc's function item: a part that is no container.
  truchmanbook.Doc's function item: an array.
  truchmanbook.Doc's function item: a number, a text.
  truchmanbook.Doc's function item: a map.
  truchmanbook.Doc: its contract.
  The same part with a count that is not known (where XDocBal does not fit).
  truchmanbook.Open: its contract.
-/
import Derived.Test.YtdfdajedcgmbfaaEvMore
import Derived.Test.YtdfdajedcgmbfaaTru
import Derived.Laws.BitsLemmas
import Derived.Test.YtdfdajedcgmbfaaEvRow
import Derived.Test.YtdfdajedcgmbfaaAnys
import Derived.Test.YtdfdajedcgmbfaaCborAll
import Derived.Deep.RegionLaw
import Derived.Laws.EntriesVeiled
import Derived.Test.YtdfdajedcgmbfaaStack

namespace Go.Tru

/-- the next number -/
def nx : List Int → Nat × List Int
  | [] => (0, [])
  | x :: r => ((x % 65536).toNat, r)

theorem nx_small (l : List Int) : (nx l).1 < 65536 := by
  cases l with
  | nil => simp [nx]
  | cons x r => simp only [nx]; omega

theorem nx_len {l : List Int} : (nx l).2.length ≤ l.length := by cases l <;> simp [nx]
theorem nx_used {l : List Int} (h : (nx l).1 ≠ 0) : (nx l).2.length + 1 = l.length := by cases l <;> simp [nx] at *

def docTab : Nat → List UInt8
  | 0 => [97]
  | 1 => [34]
  | 2 => [92]
  | 3 => [10]
  | 4 => [195, 169]
  | 5 => [1]
  | 6 => [240, 157, 132, 158]
  | _ => [122]

def textGo (x : Nat) : Nat → List UInt8
  | 0 => []
  | k + 1 => docTab (x >>> (k + 1) % 8) ++ textGo x k

def docText (x : Nat) : ByteArray := ⟨(textGo x (x % 8)).toArray⟩

theorem docTab_len (n : Nat) : (docTab n).length ≤ 4 := by unfold docTab; split <;> simp
theorem textGo_len (x : Nat) : ∀ k, (textGo x k).length ≤ 4 * k
  | 0 => by simp [textGo]
  | k + 1 => by
    have h1 := textGo_len x k
    have h2 := docTab_len (x >>> (k + 1) % 8)
    simp only [textGo, List.length_append]
    omega
theorem docText_size (x : Nat) : (docText x).size ≤ 28 := by
  have := textGo_len x (x % 8)
  have e : (docText x).size = (textGo x (x % 8)).length := by unfold docText; simp [ByteArray.size]
  omega

/-- so many items, one behind the other -/
def rep (f : List Int → List Ev × List Int) : Nat → List Int → List Ev × List Int
  | 0, l => ([], l)
  | n + 1, l => ((f l).1 ++ (rep f n (f l).2).1, (rep f n (f l).2).2)

/-- a key and an item -/
def docPair (f : List Int → List Ev × List Int) (l : List Int) : List Ev × List Int :=
  (evText (docText (nx l).1) :: (f (nx l).2).1, (f (nx l).2).2)

def docLeaf (x : Nat) : List Ev :=
  if x % 8 = 0 then [evNull]
  else if x % 8 = 1 then [evBool (decide (x / 8 % 2 = 1))]
  else if x % 8 = 2 ∨ x % 8 = 3 then [evInt (decide (x / 8 % 2 = 1)) (((x * x) >>> (x % 8) : Nat) : Int)]
  else if x % 8 = 4 then [evText (docText x)]
  else if x % 8 = 5 then [evText noText]
  else [evInt false x]

/-- an item, so many containers deep at most -/
def docItem : Nat → List Int → List Ev × List Int
  | 0, l => (docLeaf (nx l).1, (nx l).2)
  | k + 1, l =>
    if (nx l).1 % 8 < 5 then (docLeaf (nx l).1, (nx l).2)
    else if (nx l).1 % 8 = 5 then
      let r := rep (docItem k) ((nx l).1 / 8 % 4) (nx l).2
      (evArr (((nx l).1 / 8 % 4 : Nat) : Int) :: r.1 ++ [evEnd], r.2)
    else
      let r := rep (docPair (docItem k)) ((nx l).1 / 8 % 3) (nx l).2
      (evMap (((nx l).1 / 8 % 3 : Nat) : Int) :: r.1 ++ [evEnd], r.2)

def doc (l : List Int) (depth : Nat) : List Ev := (docItem depth l).1

theorem docLeaf_len (x : Nat) : (docLeaf x).length = 1 := by
  unfold docLeaf
  repeat' split
  all_goals rfl

theorem rep_len {f : List Int → List Ev × List Int} {a : Nat} (h : ∀ l, (f l).1.length + 8 * (f l).2.length ≤ a + 8 * l.length) : ∀ n l, (rep f n l).1.length + 8 * (rep f n l).2.length ≤ a * n + 8 * l.length
  | 0, l => by simp [rep]
  | n + 1, l => by
    have h1 := h l
    have h2 := rep_len h n (f l).2
    simp only [rep, List.length_append, Nat.mul_add, Nat.mul_one]
    omega

theorem docItem_len : ∀ k l, (docItem k l).1.length + 8 * (docItem k l).2.length ≤ 1 + 8 * l.length
  | 0, l => by
    have := nx_len (l := l)
    simp only [docItem, docLeaf_len]
    omega
  | k + 1, l => by
    have h0 := nx_len (l := l)
    have ih := docItem_len k
    unfold docItem
    by_cases h5 : (nx l).1 % 8 < 5
    · rw [if_pos h5]; simp only [docLeaf_len]; omega
    rw [if_neg h5]
    have hu := nx_used (l := l) (by intro e; rw [e] at h5; simp at h5)
    by_cases h6 : (nx l).1 % 8 = 5
    · rw [if_pos h6]
      have h1 := rep_len ih ((nx l).1 / 8 % 4) (nx l).2
      simp only [List.length_cons, List.length_append, List.length_nil]
      omega
    · rw [if_neg h6]
      have h2 : ∀ l, (docPair (docItem k) l).1.length + 8 * (docPair (docItem k) l).2.length ≤ 2 + 8 * l.length := fun l => by
        have h3 := ih (nx l).2
        have h4 := nx_len (l := l)
        simp only [docPair, List.length_cons]
        omega
      have h1 := rep_len h2 ((nx l).1 / 8 % 3) (nx l).2
      simp only [List.length_cons, List.length_append, List.length_nil]
      omega

/-! ### what its parts are -/
/-- a part with no loose count -/
def DocPart (p : Ev) : Prop := Clear p ∧ ((p.kind = 5 ∨ p.kind = 6) → 0 ≤ p.count) ∧ p.text.size ≤ 28

theorem part_leaf (x : Nat) : ∀ p ∈ docLeaf x, DocPart p := by
  intro p hp
  have h0 : noText.size = 0 := rfl
  unfold docLeaf at hp
  repeat' split at hp
  all_goals
    rw [List.mem_singleton] at hp
    subst hp
  · exact ⟨Or.inl rfl, by decide, by simp [evNull, h0]⟩
  · exact ⟨Or.inr (Or.inl ⟨_, rfl⟩), by simp [evBool], by simp [evBool, h0]⟩
  · exact ⟨Or.inr (Or.inr (Or.inl ⟨_, _, rfl⟩)), by simp [evInt], by simp [evInt, h0]⟩
  · exact ⟨Or.inr (Or.inr (Or.inr (Or.inl ⟨_, rfl⟩))), by simp [evText], by simpa [evText] using docText_size x⟩
  · exact ⟨Or.inr (Or.inr (Or.inr (Or.inl ⟨_, rfl⟩))), by simp [evText], by simp [evText, h0]⟩
  · exact ⟨Or.inr (Or.inr (Or.inl ⟨_, _, rfl⟩)), by simp [evInt], by simp [evInt, h0]⟩

theorem rep_parts {f : List Int → List Ev × List Int} {P : Ev → Prop} (h : ∀ l, ∀ p ∈ (f l).1, P p) : ∀ n l, ∀ p ∈ (rep f n l).1, P p
  | 0, l => by simp [rep]
  | n + 1, l => by
    intro p hp
    simp only [rep, List.mem_append] at hp
    rcases hp with hp | hp
    · exact h l p hp
    · exact rep_parts h n _ p hp

theorem doc_parts : ∀ k l, ∀ p ∈ (docItem k l).1, DocPart p
  | 0, l => part_leaf _
  | k + 1, l => by
    have h0 : noText.size = 0 := rfl
    intro p hp
    unfold docItem at hp
    by_cases h5 : (nx l).1 % 8 < 5
    · rw [if_pos h5] at hp; exact part_leaf _ p hp
    rw [if_neg h5] at hp
    by_cases h6 : (nx l).1 % 8 = 5
    · rw [if_pos h6] at hp
      simp only [List.cons_append, List.mem_cons, List.mem_append, List.not_mem_nil, or_false] at hp
      rcases hp with rfl | hp | rfl
      · exact ⟨Or.inr (Or.inr (Or.inr (Or.inr (Or.inr (Or.inl ⟨_, by omega, rfl⟩))))), by simp [evArr]; omega, by simp [evArr, h0]⟩
      · exact rep_parts (fun l => doc_parts k l) _ _ p hp
      · exact ⟨Or.inr (Or.inr (Or.inr (Or.inr (Or.inr (Or.inr (Or.inr rfl)))))), by simp [evEnd], by simp [evEnd, h0]⟩
    · rw [if_neg h6] at hp
      simp only [List.cons_append, List.mem_cons, List.mem_append, List.not_mem_nil, or_false] at hp
      rcases hp with rfl | hp | rfl
      · exact ⟨Or.inr (Or.inr (Or.inr (Or.inr (Or.inr (Or.inr (Or.inl ⟨_, by omega, rfl⟩)))))), by simp [evMap]; omega, by simp [evMap, h0]⟩
      · refine rep_parts (P := DocPart) (fun l q hq => ?_) _ _ p hp
        simp only [docPair, List.mem_cons] at hq
        rcases hq with rfl | hq
        · exact ⟨Or.inr (Or.inr (Or.inr (Or.inl ⟨_, rfl⟩))), by simp [evText], by simpa [evText] using docText_size _⟩
        · exact doc_parts k _ q hq
      · exact ⟨Or.inr (Or.inr (Or.inr (Or.inr (Or.inr (Or.inr (Or.inr rfl)))))), by simp [evEnd], by simp [evEnd, h0]⟩
end Go.Tru

namespace Go.Tru
theorem i64_mask (i : Nat) (hi : i ≤ 63) (n : Int) : bits .and .i64 n ((2 ^ i - 1 : Nat) : Int) = n % ((2 ^ i : Nat) : Int) := by
  have hp : 2 ^ i ≤ 2 ^ 63 := Nat.pow_le_pow_right (by decide) hi
  have hp0 : 0 < 2 ^ i := Nat.two_pow_pos i
  have hm : (BitVec.ofInt 64 ((2 ^ i - 1 : Nat) : Int)).toNat = 2 ^ i - 1 := by
    rw [BitVec.toNat_ofInt]
    omega
  have key : (BitVec.ofInt 64 n &&& BitVec.ofInt 64 ((2 ^ i - 1 : Nat) : Int)).toNat = (n % ((2 ^ 64 : Nat) : Int)).toNat % 2 ^ i := by
    rw [BitVec.toNat_and, BitVec.toNat_ofInt, hm, Nat.and_two_pow_sub_one_eq_mod]
  show IntKind.i64.wrap ((BitVec.ofInt 64 n &&& BitVec.ofInt 64 ((2 ^ i - 1 : Nat) : Int)).toNat : Nat) = n % ((2 ^ i : Nat) : Int)
  have h64 : (2 : Nat) ^ 64 = 2 ^ i * 2 ^ (64 - i) := by rw [← Nat.pow_add]; congr 1; omega
  have e1 : (((n % ((2 ^ 64 : Nat) : Int)).toNat % 2 ^ i : Nat) : Int) = n % ((2 ^ i : Nat) : Int) := by
    rw [Int.natCast_emod, Int.toNat_of_nonneg (Int.emod_nonneg _ (by decide)), h64, Int.natCast_mul, Int.emod_emod_of_dvd _ (Int.dvd_mul_right ..)]
  rw [key, e1, IntKind.wrap_i64]
  have h1 := Int.emod_nonneg n (b := ((2 ^ i : Nat) : Int)) (by omega)
  have h2 := Int.emod_lt_of_pos n (b := ((2 ^ i : Nat) : Int)) (by omega)
  omega
end Go.Tru

namespace Go.Tru
theorem i64_and7 (n : Int) : bits .and .i64 n 7 = n % 8 := i64_mask 3 (by decide) n
theorem i64_and65535 (n : Int) : bits .and .i64 n 65535 = n % 65536 := i64_mask 16 (by decide) n

theorem tab_ways (x k : Nat) (hk : k ≤ 7) : bits .and .i64 ((x : Int) / 2 ^ (k % 8)) 7 = 0 ∧ docTab (x >>> k % 8) = [97] ∨ bits .and .i64 ((x : Int) / 2 ^ (k % 8)) 7 = 1 ∧ docTab (x >>> k % 8) = [34] ∨ bits .and .i64 ((x : Int) / 2 ^ (k % 8)) 7 = 2 ∧ docTab (x >>> k % 8) = [92] ∨ bits .and .i64 ((x : Int) / 2 ^ (k % 8)) 7 = 3 ∧ docTab (x >>> k % 8) = [10] ∨ bits .and .i64 ((x : Int) / 2 ^ (k % 8)) 7 = 4 ∧ docTab (x >>> k % 8) = [195, 169] ∨ bits .and .i64 ((x : Int) / 2 ^ (k % 8)) 7 = 5 ∧ docTab (x >>> k % 8) = [1] ∨ bits .and .i64 ((x : Int) / 2 ^ (k % 8)) 7 = 6 ∧ docTab (x >>> k % 8) = [240, 157, 132, 158] ∨ bits .and .i64 ((x : Int) / 2 ^ (k % 8)) 7 = 7 ∧ docTab (x >>> k % 8) = [122] := by
  have e : ((x : Int) / 2 ^ (k % 8)) = ((x >>> k : Nat) : Int) := by
    rw [Nat.mod_eq_of_lt (by omega), Nat.shiftRight_eq_div_pow, Int.natCast_ediv, Int.natCast_pow]; rfl
  rw [i64_and7, e]
  have hj : x >>> k % 8 < 8 := Nat.mod_lt _ (by decide)
  have e2 : ((x >>> k : Nat) : Int) % 8 = ((x >>> k % 8 : Nat) : Int) := by omega
  rw [e2]
  generalize x >>> k % 8 = j at hj
  match j, hj with
  | 0, _ => exact Or.inl ⟨rfl, rfl⟩
  | 1, _ => exact Or.inr (Or.inl ⟨rfl, rfl⟩)
  | 2, _ => exact Or.inr (Or.inr (Or.inl ⟨rfl, rfl⟩))
  | 3, _ => exact Or.inr (Or.inr (Or.inr (Or.inl ⟨rfl, rfl⟩)))
  | 4, _ => exact Or.inr (Or.inr (Or.inr (Or.inr (Or.inl ⟨rfl, rfl⟩))))
  | 5, _ => exact Or.inr (Or.inr (Or.inr (Or.inr (Or.inr (Or.inl ⟨rfl, rfl⟩)))))
  | 6, _ => exact Or.inr (Or.inr (Or.inr (Or.inr (Or.inr (Or.inr (Or.inl ⟨rfl, rfl⟩))))))
  | 7, _ => exact Or.inr (Or.inr (Or.inr (Or.inr (Or.inr (Or.inr (Or.inr ⟨rfl, rfl⟩))))))
end Go.Tru
namespace Go.Proofs.Ytdfdajedcgmbfaa
open Go.RowKit Go.Tru

def TextRel (x : Nat) (w : World) (v i : Value) (wr : World) : Prop :=
  ∃ (k : Nat) (t : ByteArray), k ≤ x % 8 ∧ i = .int .i64 k ∧ v = .string t ∧ t.data.toList ++ textGo x k = textGo x (x % 8) ∧ t.size ≤ 28 ∧ Keeps [] w wr

theorem text_size {x k : Nat} {t : ByteArray} (h : t.data.toList ++ textGo x k = textGo x (x % 8)) : t.size ≤ 28 := by
  have h1 := congrArg List.length h
  have h2 := textGo_len x (x % 8)
  rw [List.length_append, Array.length_toList] at h1
  have h3 : t.size = t.data.size := rfl
  omega

set_option maxHeartbeats 800000 in
theorem docText_any (x : Nat) (w : World) :
    Calls Try.prog 13 #[.int .i64 x] w fun e w' => e = .returned (.string (docText x)) ∧ Keeps [] w w' := by
  have h7 : bits .and .i64 (x : Int) 7 = ((x % 8 : Nat) : Int) := by rw [i64_and7]; omega
  go_enter Try.func13, Try.ntmps13
  go_wp2_with fail
  go_loopw [3, 4] (fun v i wr => TextRel x w v i wr) (fun _ i _ => (intOf i).toNat)
  case atStart => exact ⟨x % 8, ⟨#[]⟩, Nat.le_refl _, by first | rfl | (simp; done) | (rw [h7]), rfl, by simp, by simp [ByteArray.size], Keeps.refl _ _⟩
  case round =>
    obtain ⟨k, t, hk, rfl, rfl, ht, hz, hK⟩ := hrel
    by_cases h0 : 0 < k
    · obtain ⟨k', rfl⟩ : ∃ k', k = k' + 1 := ⟨k - 1, by omega⟩
      have htab := tab_ways x (k' + 1) (by omega)
      have HT := Lib.hid ht
      have HK := Lib.hid hK
      clear ht hK h7
      rcases htab with ⟨hb, hd⟩ | ⟨hb, hd⟩ | ⟨hb, hd⟩ | ⟨hb, hd⟩ | ⟨hb, hd⟩ | ⟨hb, hd⟩ | ⟨hb, hd⟩ | ⟨hb, hd⟩
      all_goals
        have HD := Lib.hid hd
        clear hd
        go_wp2_with fail
        go_roundw
        case rel =>
          have hcat : (t ++ ⟨(docTab (x >>> (k' + 1) % 8)).toArray⟩).data.toList ++ textGo x k' = textGo x (x % 8) := by
            rw [← HT.out]
            simp [textGo]
          have hsz := text_size hcat
          rw [HD.out] at hcat hsz
          exact ⟨k', _, by omega, by go_num, rfl, hcat, hsz, HK.out.alloc _⟩
        case measure => simp [intOf]
    · obtain rfl : k = 0 := by omega
      have hdt : t = docText x := by
        unfold docText
        rw [← ht]
        cases t
        simp [textGo]
      have HD := Lib.hid hdt
      have HK := Lib.hid hK
      clear hdt hK ht h7
      go_wp2_with fail
      go_ret
      exact ⟨by rw [← HD.out]; rfl, HK.out⟩
end Go.Proofs.Ytdfdajedcgmbfaa

namespace Go.Tru

/-- the blocks of Doc's variables, one behind the other -/
structure DocLay (w0 : World) (bL bD bO bA bN bI : Nat) : Prop where
  h0 : w0.heap.size ≤ bL
  h1 : bL < bD
  h2 : bD < bO
  h3 : bO < bA
  h4 : bA < bN
  h5 : bN < bI

/-- Doc's variables: the numbers, the depth, what is out, how many numbers were asked for, the two functions. -/
structure DocIn (w0 w : World) (bL bD bO bA bN bI : Nat) (o : Option Addr) (n c : Nat) (xs : List Int) (dep : Int) (at_ : Nat) (es : List Ev) (v : Value) : Prop where
  lay : DocLay w0 bL bD bO bA bN bI
  l : Has w bL [.slice o n c] 22
  d : Has w bD [.int .i64 dep] 3
  out : Has w bO [v] 24
  own : OwnsEvs w (bI + 1) v es
  a : Has w bA [.int .i64 at_] 3
  nx : Has w bN [.func (.func 11) #[] #[.pointer (some ⟨bA, 0, none⟩), .pointer (some ⟨bL, 0, none⟩)]] 43
  it : Has w bI [.func (.func 12) #[] #[.pointer (some ⟨bN, 0, none⟩), .pointer (some ⟨bO, 0, none⟩), .pointer (some ⟨bD, 0, none⟩), .pointer (some ⟨bI, 0, none⟩)]] 44
  ints : IntsIn w0 o n c xs
  keep : Keeps [] w0 w

theorem DocIn.blk {w0 w : World} {bL bD bO bA bN bI : Nat} {o : Option Addr} {n c : Nat} {xs : List Int} {dep : Int} {at_ : Nat} {es : List Ev} {v : Value} (h : DocIn w0 w bL bD bO bA bN bI o n c xs dep at_ es v) : ∀ i ∈ blks v, bI < i := by
  intro i hi
  have := (World.ownsRow.lt h.own i (mem_blks.1 hi)).1
  omega

theorem DocIn.keep0 {w0 w w' : World} {bL bD bO bA bN bI : Nat} {o : Option Addr} {n c : Nat} {xs : List Int} {dep : Int} {at_ : Nat} {es : List Ev} {v : Value} (h : DocIn w0 w bL bD bO bA bN bI o n c xs dep at_ es v) (k : Keeps [] w w') :
    DocIn w0 w' bL bD bO bA bN bI o n c xs dep at_ es v :=
  ⟨h.lay, h.l.keeps k (by simp), h.d.keeps k (by simp), h.out.keeps k (by simp), ownsRow_keeps h.own k (by simp), h.a.keeps k (by simp), h.nx.keeps k (by simp), h.it.keeps k (by simp), h.ints, h.keep.trans k⟩

theorem DocIn.setAt {w0 w : World} {bL bD bO bA bN bI : Nat} {o : Option Addr} {n c : Nat} {xs : List Int} {dep : Int} {at_ : Nat} {es : List Ev} {v : Value} (h : DocIn w0 w bL bD bO bA bN bI o n c xs dep at_ es v) (m : Nat) {x : Int} (hx : x = m) :
    DocIn w0 (w.setCell ⟨bA, 0, none⟩ (.int .i64 x)) bL bD bO bA bN bI o n c xs dep m es v := by
  subst hx
  obtain ⟨h0, h1, h2, h3, h4, h5⟩ := h.lay
  have hset : Keeps [bA] w (w.setCell ⟨bA, 0, none⟩ (.int .i64 (m : Int))) := (Keeps.refl _ _).set1 _
  exact ⟨h.lay, h.l.keeps hset (by simp; omega), h.d.keeps hset (by simp; omega), h.out.keeps hset (by simp; omega), ownsRow_keeps h.own hset (fun i hi hm => by rw [List.mem_singleton] at hm; have := h.blk i (mem_blks.2 hi); omega), h.a.set 0 _, h.nx.keeps hset (by simp; omega), h.it.keeps hset (by simp; omega), h.ints, h.keep.trans' hset (by intro i hi; rw [List.mem_singleton] at hi; right; omega)⟩

theorem DocIn.push {w0 w w2 : World} {bL bD bO bA bN bI : Nat} {o : Option Addr} {n c : Nat} {xs : List Int} {dep : Int} {at_ : Nat} {es es2 : List Ev} {v v2 : Value} (h : DocIn w0 w bL bD bO bA bN bI o n c xs dep at_ es v) (hown : OwnsEvs w2 (bI + 1) v2 es2) (k : Keeps (blks v) w w2) :
    DocIn w0 (w2.setCell ⟨bO, 0, none⟩ v2) bL bD bO bA bN bI o n c xs dep at_ es2 v2 := by
  obtain ⟨h0, h1, h2, h3, h4, h5⟩ := h.lay
  have hb := h.blk
  have hset : Keeps [bO] w2 (w2.setCell ⟨bO, 0, none⟩ v2) := (Keeps.refl _ _).set1 _
  have hk : ∀ b, b ≤ bI → b ∉ blks v := fun b hb2 hm => by have := hb b hm; omega
  exact ⟨h.lay, (h.l.keeps k (hk _ (by omega))).keeps hset (by simp; omega), (h.d.keeps k (hk _ (by omega))).keeps hset (by simp; omega), (h.out.keeps k (hk _ (by omega))).set 0 _,
    ownsRow_keeps hown hset (fun i hi hm => by rw [List.mem_singleton] at hm; have := (World.ownsRow.lt hown i hi).1; omega), (h.a.keeps k (hk _ (by omega))).keeps hset (by simp; omega), (h.nx.keeps k (hk _ (by omega))).keeps hset (by simp; omega), (h.it.keeps k (hk _ (by omega))).keeps hset (by simp; omega), h.ints,
    (h.keep.trans' k (fun i hi => Or.inr (by have := hb i hi; omega))).trans' hset (by intro i hi; rw [List.mem_singleton] at hi; right; omega)⟩
end Go.Tru
namespace Go.Proofs.Ytdfdajedcgmbfaa
open Go.RowKit Go.Tru

theorem docNext_any {w0 w : World} {bL bD bO bA bN bI : Nat} {o : Option Addr} {n c : Nat} {xs : List Int} {dep : Int} {at_ : Nat} {es : List Ev} {v : Value} (h : DocIn w0 w bL bD bO bA bN bI o n c xs dep at_ es v) (hat : at_ ≤ 1000000) :
    Calls Try.prog 11 #[.pointer (some ⟨bA, 0, none⟩), .pointer (some ⟨bL, 0, none⟩)] w fun e w' =>
      e = .returned (.int .i64 (Go.Tru.nx (xs.drop at_)).1) ∧ DocIn w0 w' bL bD bO bA bN bI o n c xs dep (at_ + 1) es v ∧ (Go.Tru.nx (xs.drop at_)).2 = xs.drop (at_ + 1) := by
  have H := Lib.hid h
  have hl := h.ints.len
  have hr := h.ints.room
  have hm := h.ints.most
  unfold maxLen at hm
  have g0 : w.cell? ⟨bA, 0, none⟩ = some (.int .i64 at_) := h.a.cell 0
  have f0 := h.a.free 0
  have g1 : w.cell? ⟨bL, 0, none⟩ = some (.slice o n c) := h.l.cell 0
  have hne1 : bA ≠ bL := by have := h.lay.h1; have := h.lay.h2; have := h.lay.h3; omega
  have hne2 : bL ≠ bA := fun e => hne1 e.symm
  have hend : at_ < n ∨ n ≤ at_ := by omega
  have HS := Lib.hid (h.setAt (at_ + 1) (x := (at_ : Int) + 1) (by simp))
  have L := Lib.hid hl
  rcases hend with hlt | hge
  · have hx : at_ < xs.length := by omega
    obtain ⟨b1, f1, rfl, g2⟩ := (h.ints.keeps h.keep).get hlt hx
    have hdr : xs.drop at_ = xs[at_] :: xs.drop (at_ + 1) := List.drop_eq_getElem_cons hx
    have hb1 : b1 ≠ bA := by
      intro e
      rcases h.ints.at_ with h0 | ⟨b, off, e1, e2, _⟩
      · omega
      · simp only [Option.some.injEq, Addr.mk.injEq, and_true] at e1
        have := h.lay.h0; have := h.lay.h1; have := h.lay.h2; have := h.lay.h3
        omega
    have hb2 : bA ≠ b1 := fun e => hb1 e.symm
    have hand : bits .and .i64 xs[at_] 65535 = ((nx (xs.drop at_)).1 : Int) := by
      rw [i64_and65535, hdr]; simp only [nx]; omega
    have h2 : (nx (xs.drop at_)).2 = xs.drop (at_ + 1) := by rw [hdr]; rfl
    have H2 := Lib.hid h2
    generalize (nx (xs.drop at_)).1 = y at hand ⊢
    clear h hl hdr h2
    go_enter Try.func11, Try.ntmps11
    go_wp2_with fail
    go_ret
    exact ⟨rfl, HS.out, H2.out⟩
  · have h1 : nx (xs.drop at_) = (0, []) := by rw [List.drop_of_length_le (by omega)]; rfl
    have h2 : xs.drop (at_ + 1) = [] := List.drop_of_length_le (by omega)
    rw [h1, h2]
    clear h hl h1 h2
    go_enter Try.func11, Try.ntmps11
    go_wp2_with fail
    go_ret
    exact ⟨rfl, HS.out, by first | trivial | rfl⟩
end Go.Proofs.Ytdfdajedcgmbfaa

namespace Go.Proofs.Ytdfdajedcgmbfaa
open Go.RowKit Go.Tru

/-- what item leaves -/
def ItemPost (w0 : World) (bL bD bO bA bN bI : Nat) (o : Option Addr) (n c : Nat) (xs : List Int) (dep : Int) (es : List Ev) (r : List Ev × List Int) (e : Ending) (w' : World) : Prop :=
  e = .returned (.tuple #[]) ∧ ∃ (at' : Nat) (v' : Value), xs.drop at' = r.2 ∧ at' ≤ (es ++ r.1).length ∧ DocIn w0 w' bL bD bO bA bN bI o n c xs dep at' (es ++ r.1) v'

theorem doc_facts {w0 w : World} {bL bD bO bA bN bI : Nat} {o : Option Addr} {n c : Nat} {xs : List Int} {dep : Int} {at_ : Nat} {es : List Ev} {v : Value} (h : DocIn w0 w bL bD bO bA bN bI o n c xs dep at_ es v) :
    w.cell? ⟨bD, 0, none⟩ = some (.int .i64 dep) ∧ w.cell? ⟨bO, 0, none⟩ = some v ∧ w.frozen? ⟨bO, 0, none⟩ = false ∧
    w.cell? ⟨bN, 0, none⟩ = some (.func (.func 11) #[] #[.pointer (some ⟨bA, 0, none⟩), .pointer (some ⟨bL, 0, none⟩)]) ∧
    w.cell? ⟨bI, 0, none⟩ = some (.func (.func 12) #[] #[.pointer (some ⟨bN, 0, none⟩), .pointer (some ⟨bO, 0, none⟩), .pointer (some ⟨bD, 0, none⟩), .pointer (some ⟨bI, 0, none⟩)]) ∧
    bO < w.heap.size ∧ bI + 1 ≤ w.heap.size :=
  ⟨h.d.cell 0, h.out.cell 0, h.out.free 0, h.nx.cell 0, h.it.cell 0, h.out.lt, h.it.lt⟩

theorem and8 (x : Nat) (hx : x < 65536) : (bits .and .i64 (x : Int) 8 != 0) = decide (x / 8 % 2 = 1) := by
  have h1 : bits .and .i64 (x : Int) 8 = ((x &&& 8 : Nat) : Int) :=
    (bits_nat .i64 63 (by decide) (fun n h0 h1 => by rw [IntKind.wrap_i64]; omega) x 8 (by omega) (by decide)).1
  have h2 : x &&& 8 = if x.testBit 3 then 8 else 0 := by
    apply Nat.eq_of_testBit_eq
    intro i
    have h8 : (8 : Nat).testBit i = decide (3 = i) := Nat.testBit_two_pow (n := 3) (m := i)
    rw [Nat.testBit_and, h8]
    by_cases e : 3 = i
    · subst e
      cases x.testBit 3 <;> rfl
    · have h9 : (if x.testBit 3 = true then 8 else 0).testBit i = false := by
        split
        · rw [h8]; simp [e]
        · simp
      rw [h9]; simp [e]
  rw [h1, h2, Nat.testBit_eq_decide_div_mod_eq]
  have h3 : x / 2 ^ 3 = x / 8 := rfl
  rw [h3]
  cases h : decide (x / 8 % 2 = 1) <;> simp

set_option maxHeartbeats 800000 in
set_option maxRecDepth 100000 in
theorem ditem_null {w0 w : World} {bL bD bO bA bN bI : Nat} {o : Option Addr} {n c : Nat} {xs : List Int} {dep : Int} {at_ : Nat} {es : List Ev} {v : Value} (d : Int) (h : DocIn w0 w bL bD bO bA bN bI o n c xs dep at_ es v) (hat : at_ ≤ es.length) (hes : es.length ≤ 5000)
    (x : Nat) (hx : (nx (xs.drop at_)).1 = x) (h8 : x % 8 = 0) :
    Calls Try.prog 12 #[.int .i64 d, .pointer (some ⟨bN, 0, none⟩), .pointer (some ⟨bO, 0, none⟩), .pointer (some ⟨bD, 0, none⟩), .pointer (some ⟨bI, 0, none⟩)] w (ItemPost w0 bL bD bO bA bN bI o n c xs dep es ([evNull], (nx (xs.drop at_)).2)) := by
  obtain ⟨q1, q2, q3, q4, q5, q6, q7⟩ := doc_facts h
  have hnext := docNext_any h (by omega)
  rw [hx] at hnext
  have HN := Lib.hid hnext
  have h8' : (x : Int) % 8 = 0 := by omega
  clear h hx h8 hnext
  go_enter Try.func12, Try.ntmps12
  go_wp2_with fail
  refine HN.out.mono ?_
  rintro e w1 ⟨rfl, h1, hdr⟩
  obtain ⟨q1, q2, q3, q4, q5, q6, q7⟩ := doc_facts h1
  have H1 := Lib.hid h1
  have HDR := Lib.hid hdr
  clear h1 hdr
  go_wp2_with (at_builtin; go_must (refine app_evs rfl _ _ rfl (bI + 1) _ es rfl (ownsRow_keeps H1.out.own ((Keeps.refl [] _).alloc _) (by simp)) ⟨_, 0, none⟩ 1 1 [evNull] rfl rfl (new_evc evNull rfl) (by omega) (by simp; omega) ?_))
  intro v2 w2 hown2 hk2 _hnil _hb
  obtain ⟨o2, c2, hv2⟩ := hown2.shape
  rw [List.length_append, List.length_singleton] at hv2
  subst hv2
  have hpush := H1.out.push hown2 (((Keeps.refl _ _).alloc _).trans hk2)
  have hq2 := (H1.out.out.alloc _).keeps hk2 (fun hm => by have := H1.out.blk _ hm; have := H1.out.lay.h3; have := H1.out.lay.h4; have := H1.out.lay.h5; omega)
  have q2' := hq2.cell 0
  have q3' := hq2.free 0
  have HP := Lib.hid hpush
  clear hpush hown2 hk2 _hnil _hb hq2 q2 q3
  go_wp2_with fail
  go_end0
  exact ⟨rfl, at_ + 1, _, HDR.out.symm, by simp; omega, HP.out⟩
set_option maxHeartbeats 800000 in
set_option maxRecDepth 100000 in
theorem ditem_bool {w0 w : World} {bL bD bO bA bN bI : Nat} {o : Option Addr} {n c : Nat} {xs : List Int} {dep : Int} {at_ : Nat} {es : List Ev} {v : Value} (d : Int) (h : DocIn w0 w bL bD bO bA bN bI o n c xs dep at_ es v) (hat : at_ ≤ es.length) (hes : es.length ≤ 5000)
    (x : Nat) (hx : (nx (xs.drop at_)).1 = x) (h8 : x % 8 = 1) :
    Calls Try.prog 12 #[.int .i64 d, .pointer (some ⟨bN, 0, none⟩), .pointer (some ⟨bO, 0, none⟩), .pointer (some ⟨bD, 0, none⟩), .pointer (some ⟨bI, 0, none⟩)] w (ItemPost w0 bL bD bO bA bN bI o n c xs dep es ([evBool (decide (x / 8 % 2 = 1))], (nx (xs.drop at_)).2)) := by
  obtain ⟨q1, q2, q3, q4, q5, q6, q7⟩ := doc_facts h
  have hnext := docNext_any h (by omega)
  rw [hx] at hnext
  have HN := Lib.hid hnext
  have h8' : (x : Int) % 8 = 1 := by omega
  have hyes : (bits .and .i64 (x : Int) 8 != 0) = decide (x / 8 % 2 = 1) := and8 x (by have := nx_small (xs.drop at_); omega)
  generalize decide (x / 8 % 2 = 1) = y at hyes ⊢
  clear h hx h8 hnext
  go_enter Try.func12, Try.ntmps12
  go_wp2_with fail
  refine HN.out.mono ?_
  rintro e w1 ⟨rfl, h1, hdr⟩
  obtain ⟨q1, q2, q3, q4, q5, q6, q7⟩ := doc_facts h1
  have H1 := Lib.hid h1
  have HDR := Lib.hid hdr
  clear h1 hdr
  go_wp2_with (at_builtin; go_must (refine app_evs rfl _ _ rfl (bI + 1) _ es rfl (ownsRow_keeps H1.out.own ((Keeps.refl [] _).alloc _) (by simp)) ⟨_, 0, none⟩ 1 1 [evBool y] rfl rfl (new_evc (evBool y) rfl) (by omega) (by simp; omega) ?_))
  intro v2 w2 hown2 hk2 _hnil _hb
  obtain ⟨o2, c2, hv2⟩ := hown2.shape
  rw [List.length_append, List.length_singleton] at hv2
  subst hv2
  have hpush := H1.out.push hown2 (((Keeps.refl _ _).alloc _).trans hk2)
  have hq2 := (H1.out.out.alloc _).keeps hk2 (fun hm => by have := H1.out.blk _ hm; have := H1.out.lay.h3; have := H1.out.lay.h4; have := H1.out.lay.h5; omega)
  have q2' := hq2.cell 0
  have q3' := hq2.free 0
  have HP := Lib.hid hpush
  clear hpush hown2 hk2 _hnil _hb hq2 q2 q3
  go_wp2_with fail
  go_end0
  exact ⟨rfl, at_ + 1, _, HDR.out.symm, by simp; omega, HP.out⟩
set_option maxHeartbeats 800000 in
set_option maxRecDepth 100000 in
theorem ditem_text0 {w0 w : World} {bL bD bO bA bN bI : Nat} {o : Option Addr} {n c : Nat} {xs : List Int} {dep : Int} {at_ : Nat} {es : List Ev} {v : Value} (d : Int) (h : DocIn w0 w bL bD bO bA bN bI o n c xs dep at_ es v) (hat : at_ ≤ es.length) (hes : es.length ≤ 5000)
    (x : Nat) (hx : (nx (xs.drop at_)).1 = x) (h8 : x % 8 = 5) (hd : dep ≤ d) :
    Calls Try.prog 12 #[.int .i64 d, .pointer (some ⟨bN, 0, none⟩), .pointer (some ⟨bO, 0, none⟩), .pointer (some ⟨bD, 0, none⟩), .pointer (some ⟨bI, 0, none⟩)] w (ItemPost w0 bL bD bO bA bN bI o n c xs dep es ([evText noText], (nx (xs.drop at_)).2)) := by
  obtain ⟨q1, q2, q3, q4, q5, q6, q7⟩ := doc_facts h
  have hnext := docNext_any h (by omega)
  rw [hx] at hnext
  have HN := Lib.hid hnext
  have h8' : (x : Int) % 8 = 5 := by omega
  clear h hx h8 hnext
  go_enter Try.func12, Try.ntmps12
  go_wp2_with fail
  refine HN.out.mono ?_
  rintro e w1 ⟨rfl, h1, hdr⟩
  obtain ⟨q1, q2, q3, q4, q5, q6, q7⟩ := doc_facts h1
  have H1 := Lib.hid h1
  have HDR := Lib.hid hdr
  clear h1 hdr
  go_wp2_with (at_builtin; go_must (refine app_evs rfl _ _ rfl (bI + 1) _ es rfl (ownsRow_keeps H1.out.own ((Keeps.refl [] _).alloc _) (by simp)) ⟨_, 0, none⟩ 1 1 [evText noText] rfl rfl (new_evc (evText noText) rfl) (by omega) (by simp; omega) ?_))
  intro v2 w2 hown2 hk2 _hnil _hb
  obtain ⟨o2, c2, hv2⟩ := hown2.shape
  rw [List.length_append, List.length_singleton] at hv2
  subst hv2
  have hpush := H1.out.push hown2 (((Keeps.refl _ _).alloc _).trans hk2)
  have hq2 := (H1.out.out.alloc _).keeps hk2 (fun hm => by have := H1.out.blk _ hm; have := H1.out.lay.h3; have := H1.out.lay.h4; have := H1.out.lay.h5; omega)
  have q2' := hq2.cell 0
  have q3' := hq2.free 0
  have HP := Lib.hid hpush
  clear hpush hown2 hk2 _hnil _hb hq2 q2 q3
  go_wp2_with fail
  go_end0
  exact ⟨rfl, at_ + 1, _, HDR.out.symm, by simp; omega, HP.out⟩
set_option maxHeartbeats 800000 in
set_option maxRecDepth 100000 in
theorem ditem_int0 {w0 w : World} {bL bD bO bA bN bI : Nat} {o : Option Addr} {n c : Nat} {xs : List Int} {dep : Int} {at_ : Nat} {es : List Ev} {v : Value} (d : Int) (h : DocIn w0 w bL bD bO bA bN bI o n c xs dep at_ es v) (hat : at_ ≤ es.length) (hes : es.length ≤ 5000)
    (x : Nat) (hx : (nx (xs.drop at_)).1 = x) (h8 : x % 8 = 6 ∨ x % 8 = 7) (hd : dep ≤ d) :
    Calls Try.prog 12 #[.int .i64 d, .pointer (some ⟨bN, 0, none⟩), .pointer (some ⟨bO, 0, none⟩), .pointer (some ⟨bD, 0, none⟩), .pointer (some ⟨bI, 0, none⟩)] w (ItemPost w0 bL bD bO bA bN bI o n c xs dep es ([evInt false x], (nx (xs.drop at_)).2)) := by
  obtain ⟨q1, q2, q3, q4, q5, q6, q7⟩ := doc_facts h
  have hnext := docNext_any h (by omega)
  rw [hx] at hnext
  have HN := Lib.hid hnext
  have hxs : x < 65536 := by have := nx_small (xs.drop at_); omega
  have hwr : IntKind.u64.wrap (x : Int) = (x : Int) := by rw [IntKind.wrap_u64]; omega
  have h8' : (x : Int) % 8 = 6 ∨ (x : Int) % 8 = 7 := by omega
  clear h hx h8 hnext
  rcases h8' with h8' | h8'
  all_goals
    go_enter Try.func12, Try.ntmps12
    go_wp2_with fail
    refine HN.out.mono ?_
    rintro e w1 ⟨rfl, h1, hdr⟩
    obtain ⟨q1, q2, q3, q4, q5, q6, q7⟩ := doc_facts h1
    have H1 := Lib.hid h1
    have HDR := Lib.hid hdr
    clear h1 hdr
    go_wp2_with (at_builtin; go_must (refine app_evs rfl _ _ rfl (bI + 1) _ es rfl (ownsRow_keeps H1.out.own ((Keeps.refl [] _).alloc _) (by simp)) ⟨_, 0, none⟩ 1 1 [evInt false x] rfl rfl (new_evc (evInt false x) rfl) (by omega) (by simp; omega) ?_))
    intro v2 w2 hown2 hk2 _hnil _hb
    obtain ⟨o2, c2, hv2⟩ := hown2.shape
    rw [List.length_append, List.length_singleton] at hv2
    subst hv2
    have hpush := H1.out.push hown2 (((Keeps.refl _ _).alloc _).trans hk2)
    have hq2 := (H1.out.out.alloc _).keeps hk2 (fun hm => by have := H1.out.blk _ hm; have := H1.out.lay.h3; have := H1.out.lay.h4; have := H1.out.lay.h5; omega)
    have q2' := hq2.cell 0
    have q3' := hq2.free 0
    have HP := Lib.hid hpush
    clear hpush hown2 hk2 _hnil _hb hq2 q2 q3
    go_wp2_with fail
    go_end0
    exact ⟨rfl, at_ + 1, _, HDR.out.symm, by simp; omega, HP.out⟩
end Go.Proofs.Ytdfdajedcgmbfaa

namespace Go.Tru
theorem rep_snoc (f : List Int → List Ev × List Int) : ∀ n l, rep f (n + 1) l = ((rep f n l).1 ++ (f (rep f n l).2).1, (f (rep f n l).2).2)
  | 0, l => by simp [rep]
  | n + 1, l => by
    have ih := rep_snoc f n (f l).2
    rw [rep, ih]
    simp [rep]
end Go.Tru
namespace Go.Proofs.Ytdfdajedcgmbfaa
open Go.RowKit Go.Tru

/-- what is known of item at one depth -/
def ItemAt (w0 : World) (bL bD bO bA bN bI : Nat) (o : Option Addr) (n c : Nat) (xs : List Int) (dep : Int) (k : Nat) : Prop :=
  ∀ (d : Int) (w : World) (at_ : Nat) (es : List Ev) (v : Value), d + k = dep → 0 ≤ d → DocIn w0 w bL bD bO bA bN bI o n c xs dep at_ es v → at_ ≤ es.length → es.length + 1 + 8 * (xs.drop at_).length ≤ 2000 →
    Calls Try.prog 12 #[.int .i64 d, .pointer (some ⟨bN, 0, none⟩), .pointer (some ⟨bO, 0, none⟩), .pointer (some ⟨bD, 0, none⟩), .pointer (some ⟨bI, 0, none⟩)] w (ItemPost w0 bL bD bO bA bN bI o n c xs dep es (docItem k (xs.drop at_)))

def ArrRel (w0 : World) (bL bD bO bA bN bI : Nat) (o : Option Addr) (n c : Nat) (xs : List Int) (dep : Int) (f : List Int → List Ev × List Int) (nn : Nat) (es1 : List Ev) (l1 : List Int) (i : Value) (wr : World) : Prop :=
  ∃ (j at' : Nat) (v' : Value), j ≤ nn ∧ i = .int .i64 j ∧ xs.drop at' = (rep f j l1).2 ∧ at' ≤ (es1 ++ (rep f j l1).1).length ∧ DocIn w0 wr bL bD bO bA bN bI o n c xs dep at' (es1 ++ (rep f j l1).1) v'

set_option maxHeartbeats 3200000 in
set_option maxRecDepth 100000 in
theorem ditem_arr {w0 w : World} {bL bD bO bA bN bI : Nat} {o : Option Addr} {n c : Nat} {xs : List Int} {dep : Int} {at_ : Nat} {es : List Ev} {v : Value} (d : Int) (h : DocIn w0 w bL bD bO bA bN bI o n c xs dep at_ es v) (hat : at_ ≤ es.length)
    (k : Nat) (hdk : d + ((k + 1 : Nat) : Int) = dep) (hd0 : 0 ≤ d) (hdep : dep ≤ 1000) (hpot : es.length + 1 + 8 * (xs.drop at_).length ≤ 2000) (ih : ItemAt w0 bL bD bO bA bN bI o n c xs dep k)
    (x : Nat) (hx : (nx (xs.drop at_)).1 = x) (h8 : x % 8 = 5) :
    Calls Try.prog 12 #[.int .i64 d, .pointer (some ⟨bN, 0, none⟩), .pointer (some ⟨bO, 0, none⟩), .pointer (some ⟨bD, 0, none⟩), .pointer (some ⟨bI, 0, none⟩)] w (ItemPost w0 bL bD bO bA bN bI o n c xs dep es (evArr ((x / 8 % 4 : Nat) : Int) :: (rep (docItem k) (x / 8 % 4) (nx (xs.drop at_)).2).1 ++ [evEnd], (rep (docItem k) (x / 8 % 4) (nx (xs.drop at_)).2).2)) := by
  obtain ⟨q1, q2, q3, q4, q5, q6, q7⟩ := doc_facts h
  have hnext := docNext_any h (by omega)
  have hused := nx_used (l := xs.drop at_) (by rw [hx]; omega)
  rw [hx] at hnext
  have HN := Lib.hid hnext
  have HIH := Lib.hid ih
  have HDK := Lib.hid hdk
  have hnd : ¬ dep ≤ d := by omega
  have h8' : (x : Int) % 8 = 5 := by omega
  have hn4 : (x : Int) / 8 % 4 = ((x / 8 % 4 : Nat) : Int) := by omega
  have hn3 : x / 8 % 4 ≤ 3 := by omega
  generalize x / 8 % 4 = nn at hn4 hn3 ⊢
  have HPOT := Lib.hid hpot
  have HLEN := Lib.hid (show es.length ≤ 2000 by omega)
  generalize hl1 : (nx (xs.drop at_)).2 = l1 at hused hnext HN ⊢
  have HL1 := Lib.hid hl1
  have HUSED := Lib.hid hused
  clear h hx h8 hnext ih hdk hpot hl1 hused
  go_enter Try.func12, Try.ntmps12
  go_wp2_with fail
  refine HN.out.mono ?_
  rintro e w1 ⟨rfl, h1, hdr⟩
  obtain ⟨q1, q2, q3, q4, q5, q6, q7⟩ := doc_facts h1
  have H1 := Lib.hid h1
  have HDR := Lib.hid hdr
  clear h1 hdr
  go_wp2_with (at_builtin; go_must (refine app_evs rfl _ _ rfl (bI + 1) _ _ rfl (ownsRow_keeps H1.out.own ((Keeps.refl [] _).alloc _) (by simp)) ⟨_, 0, none⟩ 1 1 [evArr (nn : Int)] rfl rfl (new_evc (evArr (nn : Int)) rfl) (by have := HLEN.out; omega) (by simp; omega) ?_))
  intro v2 w2 hown2 hk2 _hnil _hb
  obtain ⟨o2, c2, hv2⟩ := hown2.shape
  rw [List.length_append, List.length_singleton] at hv2
  subst hv2
  have hpush := H1.out.push hown2 (((Keeps.refl _ _).alloc _).trans hk2)
  have hq2 := (H1.out.out.alloc _).keeps hk2 (fun hm => by have := H1.out.blk _ hm; have := H1.out.lay.h3; have := H1.out.lay.h4; have := H1.out.lay.h5; omega)
  have q2' := hq2.cell 0
  have q3' := hq2.free 0
  have HP := Lib.hid hpush
  clear hpush hown2 hk2 _hnil _hb hq2 q2 q3
  obtain ⟨f, hf⟩ : ∃ f, f = docItem k := ⟨_, rfl⟩
  have HFF := Lib.hid hf
  have hlen := rep_len (f := docItem k) (a := 1) (docItem_len k)
  rw [← hf] at hlen ⊢
  have HRL := Lib.hid hlen
  clear hf hlen
  go_wp2_with fail
  go_loopw [8] (fun i wr => ArrRel w0 bL bD bO bA bN bI o n c xs dep f nn (es ++ [evArr (nn : Int)]) l1 i wr) (fun i _ => nn - (intOf i).toNat)
  case atStart => exact ⟨0, at_ + 1, _, Nat.zero_le _, rfl, HDR.out.symm, by simp [rep]; omega, by simpa [rep] using HP.out⟩
  case round =>
    obtain ⟨j, at', v', hj, rfl, hdrop, hat2, hD⟩ := hrel
    obtain ⟨q1, q2, q3, q4, q5, q6, q7⟩ := doc_facts hD
    have H4 := Lib.hid hD
    have hl4 := HRL.out j l1
    have hp4 := HPOT.out
    have hu4 := HUSED.out
    have HDROP := Lib.hid hdrop
    have HAT := Lib.hid hat2
    have hD' := hD
    clear hD hdrop hat2
    by_cases hlt : j < nn
    · have hcall := HIH.out (d + 1) wr at' _ v' (by have := HDK.out; omega) (by omega) hD' HAT.out (by rw [HDROP.out, List.length_append, List.length_append, List.length_singleton]; omega)
      rw [HDROP.out, ← HFF.out] at hcall
      have HCALL := Lib.hid hcall
      clear hcall hD' hl4 hp4 hu4
      go_wp2_with fail
      refine HCALL.out.mono ?_
      rintro e w5 ⟨rfl, at2, v5, hd5, ha5, h5⟩
      have HD5 := Lib.hid hd5
      have HA5 := Lib.hid ha5
      have H5 := Lib.hid h5
      clear hd5 ha5 h5
      go_wp2_with fail
      go_roundw
      case rel =>
        refine ⟨j + 1, at2, v5, by omega, by go_num, ?_, ?_, ?_⟩
        · rw [HD5.out, rep_snoc]
        · have := HA5.out; rw [rep_snoc]; simpa using this
        · have := H5.out; rw [rep_snoc]; simpa using this
      case measure => simp [intOf]; omega
    · obtain rfl : j = nn := by omega
      have hle : (es ++ [evArr (j : Int)] ++ (rep f j l1).1).length ≤ 5000 := by
        rw [List.length_append, List.length_append, List.length_singleton]; omega
      have HLE := Lib.hid hle
      clear hD' hl4 hp4 hu4 hle
      go_wp2_with (at_builtin; go_must (refine app_evs rfl _ _ rfl (bI + 1) _ _ rfl (ownsRow_keeps H4.out.own ((Keeps.refl [] _).alloc _) (by simp)) ⟨_, 0, none⟩ 1 1 [evEnd] rfl rfl (new_evc evEnd rfl) (by have := HLE.out; omega) (by simp; omega) ?_))
      intro v2 w2 hown2 hk2 _hnil _hb
      obtain ⟨o2, c2, rfl⟩ := hown2.shape
      have hpush := H4.out.push hown2 (((Keeps.refl _ _).alloc _).trans hk2)
      have hq2 := (H4.out.out.alloc _).keeps hk2 (fun hm => by have := H4.out.blk _ hm; have := H4.out.lay.h3; have := H4.out.lay.h4; have := H4.out.lay.h5; omega)
      have q2' := hq2.cell 0
      have q3' := hq2.free 0
      have HP4 := Lib.hid hpush
      clear hpush hown2 hk2 _hnil _hb hq2 q2 q3
      go_wp2_with fail
      go_end0
      have hf := HFF.out
      subst hf
      refine ⟨rfl, at', .slice o2 (es.length + ((rep (docItem k) j l1).1.length + 1 + 1)) c2, HDROP.out, ?_, ?_⟩
      · have := HAT.out
        simp only [List.length_append, List.length_cons, List.length_nil] at this ⊢
        omega
      · simpa using HP4.out
end Go.Proofs.Ytdfdajedcgmbfaa

namespace Go.Proofs.Ytdfdajedcgmbfaa
open Go.RowKit Go.Tru

/-- append of one part, within a region that draws its order -/
theorem wp_append_evs {o : Oper} {a : Act} {w : World} {K : Act → World → Prop} {Q : Exit → Act → World → Prop} (s x : Operand)
    (ho : o.op = .call { callee := .builtin .append, args := #[s, x], argTypes := #[24, 24] })
    (base : Nat) (v : Value) (es : List Ev) (hs : a.eval s = v) (hown : OwnsEvs w base v es) (ad : Addr) (e : Ev) (hx : a.eval x = .slice (some ad) 1 1)
    (hnews : ∀ (j : Nat) (u : Value), ([e].flatMap Ev.cells)[j]? = some u → w.cell? (ad.add j) = some u) (hlen : es.length ≤ 1000000) (hbase : base ≤ w.heap.size)
    (h : ∀ v' w', OwnsEvs w' base v' (es ++ [e]) → Keeps (blks v) w w' → (v'.ownBlock = v.ownBlock ∨ v'.ownBlock = some w.heap.size) → K (a.put o.dst v') w') : Oper.wp Try.prog o a w K Q := by
  obtain ⟨i0, hi, hz0, hz1, hz2⟩ := info_parts info_ev
  obtain ⟨v', w', hr, h2, h3, _, h5⟩ := run_append_own_at (P := Try.prog) w base 24 o.type 36 i0 (.agg #[.int .i64 0, .bool false, .int .u64 0, .string ⟨#[]⟩, .int .i64 0]) 5 48 Try.underlying24 hi hz0 hz1 hz2 rfl (by decide) v es.length (es.flatMap Ev.cells) hown ad 1 1 ([e].flatMap Ev.cells) rfl hnews (ev_one [e]) (by unfold maxLen; omega) (by omega) hbase
  unfold Oper.wp execOp
  simp only [ho, resolve, invoke, builtin, Sem.run_bind, Sem.run_pure, Result.andThen_ok, List.map_toArray, List.map_cons, List.map_nil, hs, hx, hr]
  refine h v' w' ?_ (keeps_grown h3) h5
  unfold OwnsEvs
  rw [List.length_append, List.flatMap_append]
  exact h2

set_option maxHeartbeats 1600000 in
set_option maxRecDepth 100000 in
theorem ditem_int {w0 w : World} {bL bD bO bA bN bI : Nat} {o : Option Addr} {n c : Nat} {xs : List Int} {dep : Int} {at_ : Nat} {es : List Ev} {v : Value} (d : Int) (h : DocIn w0 w bL bD bO bA bN bI o n c xs dep at_ es v) (hat : at_ ≤ es.length) (hes : es.length ≤ 5000)
    (x : Nat) (hx : (nx (xs.drop at_)).1 = x) (h8 : x % 8 = 2 ∨ x % 8 = 3) :
    Calls Try.prog 12 #[.int .i64 d, .pointer (some ⟨bN, 0, none⟩), .pointer (some ⟨bO, 0, none⟩), .pointer (some ⟨bD, 0, none⟩), .pointer (some ⟨bI, 0, none⟩)] w (ItemPost w0 bL bD bO bA bN bI o n c xs dep es ([evInt (decide (x / 8 % 2 = 1)) (((x * x) >>> (x % 8) : Nat) : Int)], (nx (xs.drop at_)).2)) := by
  obtain ⟨q1, q2, q3, q4, q5, q6, q7⟩ := doc_facts h
  have hnext := docNext_any h (by omega)
  rw [hx] at hnext
  have HN := Lib.hid hnext
  have hxs : x < 65536 := by have := nx_small (xs.drop at_); omega
  have hyes : (bits .and .i64 (x : Int) 8 != 0) = decide (x / 8 % 2 = 1) := and8 x hxs
  have h7 : bits .and .i64 (x : Int) 7 = ((x % 8 : Nat) : Int) := by rw [i64_and7]; omega
  have hwr : IntKind.u64.wrap (x : Int) = (x : Int) := by rw [IntKind.wrap_u64]; omega
  have hxx : x * x < 4294967296 := Nat.mul_lt_mul'' hxs hxs
  have hxx2 : (x : Int) * (x : Int) = ((x * x : Nat) : Int) := by simp
  have hwr2 : IntKind.u64.wrap ((x : Int) * (x : Int)) = ((x * x : Nat) : Int) := by rw [hxx2, IntKind.wrap_u64]; omega
  have hm : (((x * x) >>> (x % 8) : Nat) : Int) = ((x * x : Nat) : Int) / ((2 ^ (x % 8) : Nat) : Int) := by
    rw [Nat.shiftRight_eq_div_pow, Int.natCast_ediv]
  have hb7 : x % 8 ≤ 7 := by omega
  rw [hm]
  generalize decide (x / 8 % 2 = 1) = y at hyes ⊢
  rcases h8 with h8 | h8
  · have h8' : (x : Int) % 8 = 2 := by omega
    rw [h8]
    rw [show ((2 ^ 2 : Nat) : Int) = 4 from rfl]
    generalize x * x = xx at hwr2 hxx ⊢
    have HXX := Lib.hid hxx
    clear h hx h8 hnext hxx hxx2 hm
    go_enter Try.func12, Try.ntmps12
    go_wp2_with fail
    refine HN.out.mono ?_
    rintro e w1 ⟨rfl, h1, hdr⟩
    obtain ⟨q1, q2, q3, q4, q5, q6, q7⟩ := doc_facts h1
    have H1 := Lib.hid h1
    have HDR := Lib.hid hdr
    clear h1 hdr
    go_wp2_with fail
    go_region_law (rw [if_pos (by rfl)]; refine wp_append_evs _ _ rfl (bI + 1) v es rfl (ownsRow_keeps H1.out.own (((Keeps.refl [] _).drew).alloc _) (by simp)) ⟨_, 0, none⟩ (evInt y (↑xx / 4)) rfl (new_evc (evInt y (↑xx / 4)) (by simp)) (by omega) (by simp; omega) ?_; intro v2 w2 hown2 hk2 _hb; obtain ⟨o2, c2, hv2⟩ := hown2.shape; rw [List.length_append, List.length_singleton] at hv2; subst hv2; have hpush := H1.out.push hown2 ((((Keeps.refl _ _).drew).alloc _).trans hk2); have hq2 := (H1.out.out.keeps (((Keeps.refl [] _).drew).alloc _) (by simp)).keeps hk2 (fun hm => by have := H1.out.blk _ hm; have := H1.out.lay.h3; have := H1.out.lay.h4; have := H1.out.lay.h5; omega); have q2 := hq2.cell 0; have q3 := hq2.free 0; have HP := Lib.hid hpush; clear hpush hown2 hk2 _hb hq2)
    all_goals
      go_wp2_with fail
      go_end0
      exact ⟨rfl, at_ + 1, _, HDR.out.symm, by simp; omega, HP.out⟩
  · have h8' : (x : Int) % 8 = 3 := by omega
    rw [h8]
    rw [show ((2 ^ 3 : Nat) : Int) = 8 from rfl]
    generalize x * x = xx at hwr2 hxx ⊢
    have HXX := Lib.hid hxx
    clear h hx h8 hnext hxx hxx2 hm
    go_enter Try.func12, Try.ntmps12
    go_wp2_with fail
    refine HN.out.mono ?_
    rintro e w1 ⟨rfl, h1, hdr⟩
    obtain ⟨q1, q2, q3, q4, q5, q6, q7⟩ := doc_facts h1
    have H1 := Lib.hid h1
    have HDR := Lib.hid hdr
    clear h1 hdr
    go_wp2_with fail
    go_region_law (rw [if_pos (by rfl)]; refine wp_append_evs _ _ rfl (bI + 1) v es rfl (ownsRow_keeps H1.out.own (((Keeps.refl [] _).drew).alloc _) (by simp)) ⟨_, 0, none⟩ (evInt y (↑xx / 8)) rfl (new_evc (evInt y (↑xx / 8)) (by simp)) (by omega) (by simp; omega) ?_; intro v2 w2 hown2 hk2 _hb; obtain ⟨o2, c2, hv2⟩ := hown2.shape; rw [List.length_append, List.length_singleton] at hv2; subst hv2; have hpush := H1.out.push hown2 ((((Keeps.refl _ _).drew).alloc _).trans hk2); have hq2 := (H1.out.out.keeps (((Keeps.refl [] _).drew).alloc _) (by simp)).keeps hk2 (fun hm => by have := H1.out.blk _ hm; have := H1.out.lay.h3; have := H1.out.lay.h4; have := H1.out.lay.h5; omega); have q2 := hq2.cell 0; have q3 := hq2.free 0; have HP := Lib.hid hpush; clear hpush hown2 hk2 _hb hq2)
    all_goals
      go_wp2_with fail
      go_end0
      exact ⟨rfl, at_ + 1, _, HDR.out.symm, by simp; omega, HP.out⟩

set_option maxHeartbeats 1600000 in
set_option maxRecDepth 100000 in
theorem ditem_text {w0 w : World} {bL bD bO bA bN bI : Nat} {o : Option Addr} {n c : Nat} {xs : List Int} {dep : Int} {at_ : Nat} {es : List Ev} {v : Value} (d : Int) (h : DocIn w0 w bL bD bO bA bN bI o n c xs dep at_ es v) (hat : at_ ≤ es.length) (hes : es.length ≤ 5000)
    (x : Nat) (hx : (nx (xs.drop at_)).1 = x) (h8 : x % 8 = 4) :
    Calls Try.prog 12 #[.int .i64 d, .pointer (some ⟨bN, 0, none⟩), .pointer (some ⟨bO, 0, none⟩), .pointer (some ⟨bD, 0, none⟩), .pointer (some ⟨bI, 0, none⟩)] w (ItemPost w0 bL bD bO bA bN bI o n c xs dep es ([evText (docText x)], (nx (xs.drop at_)).2)) := by
  obtain ⟨q1, q2, q3, q4, q5, q6, q7⟩ := doc_facts h
  have hnext := docNext_any h (by omega)
  rw [hx] at hnext
  have HN := Lib.hid hnext
  have h8' : (x : Int) % 8 = 4 := by omega
  clear h hx h8 hnext
  go_enter Try.func12, Try.ntmps12
  go_wp2_with fail
  refine HN.out.mono ?_
  rintro e w1 ⟨rfl, h1, hdr⟩
  obtain ⟨q1, q2, q3, q4, q5, q6, q7⟩ := doc_facts h1
  have H1 := Lib.hid h1
  have HDR := Lib.hid hdr
  clear h1 hdr
  go_wp2_with fail
  go_region_law (first | (rw [if_pos (by rfl)]; refine wp_append_evs _ _ rfl (bI + 1) v es rfl (ownsRow_keeps H3.out.own ((Keeps.refl [] _).alloc _) (by simp)) ⟨_, 0, none⟩ (evText (docText x)) rfl (new_evc (evText (docText x)) (by simp)) (by omega) (by simp; omega) ?_; intro v2 w2 hown2 hk2 _hb; obtain ⟨o2, c2, hv2⟩ := hown2.shape; rw [List.length_append, List.length_singleton] at hv2; subst hv2; have hpush := H3.out.push hown2 (((Keeps.refl _ _).alloc _).trans hk2); have hq2 := (H3.out.out.keeps ((Keeps.refl [] _).alloc _) (by simp)).keeps hk2 (fun hm => by have := H3.out.blk _ hm; have := H3.out.lay.h3; have := H3.out.lay.h4; have := H3.out.lay.h5; omega); have q2 := hq2.cell 0; have q3 := hq2.free 0; have HP := Lib.hid hpush; clear hpush hown2 hk2 _hb hq2) | (go_simp; go_at_call 13; refine (docText_any x _).mono ?_; rintro e w3 ⟨rfl, k3⟩; have H3 := Lib.hid (H1.out.keep0 (((Keeps.refl [] _).drew).trans k3)); obtain ⟨q1, q2, q3, q4, q5, q6, q7⟩ := doc_facts H3.out; clear k3; try go_simp))
  all_goals
    go_wp2_with fail
    go_end0
    exact ⟨rfl, at_ + 1, _, HDR.out.symm, by simp; omega, HP.out⟩
end Go.Proofs.Ytdfdajedcgmbfaa

namespace Go.Proofs.Ytdfdajedcgmbfaa
open Go.RowKit Go.Tru

theorem shape3 {w : World} {base : Nat} {v : Value} {es : List Ev} (h : OwnsEvs w base v es) : ∃ a l cap, v = .slice a l cap := by
  obtain ⟨a, cap, h⟩ := h.shape
  exact ⟨a, _, cap, h⟩

theorem docPair_len (k : Nat) (l : List Int) : (docPair (docItem k) l).1.length + 8 * (docPair (docItem k) l).2.length ≤ 2 + 8 * l.length := by
  have h3 := docItem_len k (nx l).2
  have h4 := nx_len (l := l)
  simp only [docPair, List.length_cons]
  omega

set_option maxHeartbeats 3200000 in
set_option maxRecDepth 100000 in
theorem ditem_map {w0 w : World} {bL bD bO bA bN bI : Nat} {o : Option Addr} {n c : Nat} {xs : List Int} {dep : Int} {at_ : Nat} {es : List Ev} {v : Value} (d : Int) (h : DocIn w0 w bL bD bO bA bN bI o n c xs dep at_ es v) (hat : at_ ≤ es.length)
    (k : Nat) (hdk : d + ((k + 1 : Nat) : Int) = dep) (hd0 : 0 ≤ d) (hdep : dep ≤ 1000) (hpot : es.length + 1 + 8 * (xs.drop at_).length ≤ 2000) (ih : ItemAt w0 bL bD bO bA bN bI o n c xs dep k)
    (x : Nat) (hx : (nx (xs.drop at_)).1 = x) (h8 : x % 8 = 6 ∨ x % 8 = 7) :
    Calls Try.prog 12 #[.int .i64 d, .pointer (some ⟨bN, 0, none⟩), .pointer (some ⟨bO, 0, none⟩), .pointer (some ⟨bD, 0, none⟩), .pointer (some ⟨bI, 0, none⟩)] w (ItemPost w0 bL bD bO bA bN bI o n c xs dep es (evMap ((x / 8 % 3 : Nat) : Int) :: (rep (docPair (docItem k)) (x / 8 % 3) (nx (xs.drop at_)).2).1 ++ [evEnd], (rep (docPair (docItem k)) (x / 8 % 3) (nx (xs.drop at_)).2).2)) := by
  obtain ⟨q1, q2, q3, q4, q5, q6, q7⟩ := doc_facts h
  have hnext := docNext_any h (by omega)
  have hused := nx_used (l := xs.drop at_) (by rw [hx]; omega)
  rw [hx] at hnext
  have HN := Lib.hid hnext
  have HIH := Lib.hid ih
  have HDK := Lib.hid hdk
  have hnd : ¬ dep ≤ d := by omega
  have hb0 : ((x : Int) % 8 == 0) = false := by rw [beq_eq_false_iff_ne]; omega
  have hb1 : ((x : Int) % 8 == 1) = false := by rw [beq_eq_false_iff_ne]; omega
  have hb2 : ((x : Int) % 8 == 2) = false := by rw [beq_eq_false_iff_ne]; omega
  have hb3 : ((x : Int) % 8 == 3) = false := by rw [beq_eq_false_iff_ne]; omega
  have hb4 : ((x : Int) % 8 == 4) = false := by rw [beq_eq_false_iff_ne]; omega
  have hb5 : ((x : Int) % 8 == 5) = false := by rw [beq_eq_false_iff_ne]; omega
  have hn4 : (x : Int) / 8 % 3 = ((x / 8 % 3 : Nat) : Int) := by omega
  have hn3 : x / 8 % 3 ≤ 2 := by omega
  generalize x / 8 % 3 = nn at hn4 hn3 ⊢
  have HPOT := Lib.hid hpot
  have HLEN := Lib.hid (show es.length ≤ 2000 by omega)
  generalize hl1 : (nx (xs.drop at_)).2 = l1 at hused hnext HN ⊢
  have HL1 := Lib.hid hl1
  have HUSED := Lib.hid hused
  clear h hx h8 hnext ih hdk hpot hl1 hused
  go_enter Try.func12, Try.ntmps12
  go_wp2_with fail
  refine HN.out.mono ?_
  rintro e w1 ⟨rfl, h1, hdr⟩
  obtain ⟨q1, q2, q3, q4, q5, q6, q7⟩ := doc_facts h1
  have H1 := Lib.hid h1
  have HDR := Lib.hid hdr
  clear h1 hdr
  go_wp2_with (at_builtin; go_must (refine app_evs rfl _ _ rfl (bI + 1) _ _ rfl (ownsRow_keeps H1.out.own ((Keeps.refl [] _).alloc _) (by simp)) ⟨_, 0, none⟩ 1 1 [evMap (nn : Int)] rfl rfl (new_evc (evMap (nn : Int)) rfl) (by have := HLEN.out; omega) (by simp; omega) ?_))
  intro v2 w2 hown2 hk2 _hnil _hb
  obtain ⟨o2, c2, hv2⟩ := hown2.shape
  rw [List.length_append, List.length_singleton] at hv2
  subst hv2
  have hpush := H1.out.push hown2 (((Keeps.refl _ _).alloc _).trans hk2)
  have hq2 := (H1.out.out.alloc _).keeps hk2 (fun hm => by have := H1.out.blk _ hm; have := H1.out.lay.h3; have := H1.out.lay.h4; have := H1.out.lay.h5; omega)
  have q2' := hq2.cell 0
  have q3' := hq2.free 0
  have HP := Lib.hid hpush
  clear hpush hown2 hk2 _hnil _hb hq2 q2 q3
  obtain ⟨f, hf⟩ : ∃ f, f = docPair (docItem k) := ⟨_, rfl⟩
  have HFF := Lib.hid hf
  have hlen := rep_len (f := docPair (docItem k)) (a := 2) (docPair_len k)
  rw [← hf] at hlen ⊢
  have HRL := Lib.hid hlen
  clear hf hlen
  go_wp2_with fail
  go_loopw [10] (fun i wr => ArrRel w0 bL bD bO bA bN bI o n c xs dep f nn (es ++ [evMap (nn : Int)]) l1 i wr) (fun i _ => nn - (intOf i).toNat)
  case atStart => exact ⟨0, at_ + 1, _, Nat.zero_le _, rfl, HDR.out.symm, by simp [rep]; omega, by simpa [rep] using HP.out⟩
  case round =>
    obtain ⟨j, at', v', hj, rfl, hdrop, hat2, hD⟩ := hrel
    obtain ⟨q1, q2, q3, q4, q5, q6, q7⟩ := doc_facts hD
    have H4 := Lib.hid hD
    have hl4 := HRL.out j l1
    have hp4 := HPOT.out
    have hu4 := HUSED.out
    have HDROP := Lib.hid hdrop
    have HAT := Lib.hid hat2
    have hD' := hD
    clear hD hdrop hat2
    have hle : (es ++ [evMap (nn : Int)] ++ (rep f j l1).1).length ≤ 5000 := by
      rw [List.length_append, List.length_append, List.length_singleton]; omega
    have HLE := Lib.hid hle
    by_cases hlt : j < nn
    · have hnx := docNext_any (H4.out.keep0 ((Keeps.refl [] _).drew)) (by have := HAT.out; omega)
      obtain ⟨y, hy⟩ : ∃ y, (nx (xs.drop at')).1 = y := ⟨_, rfl⟩
      rw [hy] at hnx
      have HN4 := Lib.hid hnx
      have HY := Lib.hid hy
      have hnl := nx_len (l := xs.drop at')
      have hdl : (xs.drop at').length = (rep f j l1).2.length := by rw [HDROP.out]
      have HB : Hid ((es ++ [evMap (nn : Int)] ++ (rep f j l1).1 ++ [evText (docText y)]).length + 1 + 8 * (nx (xs.drop at')).2.length ≤ 2000) := Lib.hid (by
        rw [List.length_append, List.length_append, List.length_append, List.length_singleton, List.length_singleton]; omega)
      have HAT2 : Hid (at' + 1 ≤ (es ++ [evMap (nn : Int)] ++ (rep f j l1).1 ++ [evText (docText y)]).length) := Lib.hid (by
        have := HAT.out
        rw [List.length_append, List.length_singleton]; omega)
      clear hD' hl4 hp4 hu4 hle hnx hy hnl hdl
      go_wp2_with fail
      go_region_law (first | (rw [if_pos (by rfl)]; refine wp_append_evs _ _ rfl (bI + 1) v' _ rfl (ownsRow_keeps H6.out.own ((Keeps.refl [] _).alloc _) (by simp)) ⟨_, 0, none⟩ (evText (docText y)) rfl (new_evc (evText (docText y)) (by simp)) (by have := HLE.out; omega) (by simp; omega) ?_; intro v2 w2 hown2 hk2 _hb; obtain ⟨o2, l2, c2, rfl⟩ := shape3 hown2; have hpush := H6.out.push hown2 (((Keeps.refl _ _).alloc _).trans hk2); have hq2 := (H6.out.out.keeps ((Keeps.refl [] _).alloc _) (by simp)).keeps hk2 (fun hm => by have := H6.out.blk _ hm; have := H6.out.lay.h3; have := H6.out.lay.h4; have := H6.out.lay.h5; omega); have q2 := hq2.cell 0; have q3 := hq2.free 0; have HP6 := Lib.hid hpush; clear hpush hown2 hk2 _hb hq2) | (go_simp; go_at_call 13; refine (docText_any y _).mono ?_; rintro e w6 ⟨rfl, k6⟩; have H6 := Lib.hid (H5.out.keep0 k6); obtain ⟨q1, q2, q3, q4, q5, q6, q7⟩ := doc_facts H6.out; clear k6; try go_simp) | (go_simp; go_at_call 11; refine HN4.out.mono ?_; rintro e w5 ⟨rfl, h5, hdr5⟩; have H5 := Lib.hid h5; have HDR5 := Lib.hid hdr5; obtain ⟨q1, q2, q3, q4, q5, q6, q7⟩ := doc_facts H5.out; clear h5 hdr5; try go_simp))
      all_goals
        have hcall := HIH.out (d + 1) _ (at' + 1) _ _ (by have := HDK.out; omega) (by omega) HP6.out HAT2.out (by rw [← HDR5.out]; exact HB.out)
        rw [← HDR5.out] at hcall
        obtain ⟨q1, q2', q3', q4, q5, q6, q7⟩ := doc_facts HP6.out
        have HCALL := Lib.hid hcall
        clear hcall
        go_wp2_with fail
        refine HCALL.out.mono ?_
        rintro e w7 ⟨rfl, at2, v7, hd7, ha7, h7⟩
        have HD7 := Lib.hid hd7
        have HA7 := Lib.hid ha7
        have H7 := Lib.hid h7
        clear hd7 ha7 h7
        go_wp2_with fail
        go_roundw
        case rel =>
          have hff : (f (rep f j l1).2).1 = evText (docText y) :: (docItem k (nx (xs.drop at')).2).1 ∧ (f (rep f j l1).2).2 = (docItem k (nx (xs.drop at')).2).2 := by
            rw [HFF.out]
            rw [HFF.out] at HDROP
            rw [← HDROP.out]
            simp [docPair, HY.out]
          refine ⟨j + 1, at2, v7, by omega, by go_num, ?_, ?_, ?_⟩
          · rw [HD7.out, rep_snoc, hff.2]
          · have := HA7.out; rw [rep_snoc, hff.1]; simpa using this
          · have := H7.out; rw [rep_snoc, hff.1]; simpa using this
        case measure => simp [intOf]; omega
    · obtain rfl : j = nn := by omega
      clear hD' hl4 hp4 hu4 hle
      go_wp2_with (at_builtin; go_must (refine app_evs rfl _ _ rfl (bI + 1) _ _ rfl (ownsRow_keeps H4.out.own ((Keeps.refl [] _).alloc _) (by simp)) ⟨_, 0, none⟩ 1 1 [evEnd] rfl rfl (new_evc evEnd rfl) (by have := HLE.out; omega) (by simp; omega) ?_))
      intro v2 w2 hown2 hk2 _hnil _hb
      obtain ⟨o2, c2, rfl⟩ := hown2.shape
      have hpush := H4.out.push hown2 (((Keeps.refl _ _).alloc _).trans hk2)
      have hq2 := (H4.out.out.alloc _).keeps hk2 (fun hm => by have := H4.out.blk _ hm; have := H4.out.lay.h3; have := H4.out.lay.h4; have := H4.out.lay.h5; omega)
      have q2' := hq2.cell 0
      have q3' := hq2.free 0
      have HP4 := Lib.hid hpush
      clear hpush hown2 hk2 _hnil _hb hq2 q2 q3
      go_wp2_with fail
      go_end0
      have hf := HFF.out
      subst hf
      refine ⟨rfl, at', .slice o2 (es.length + ((rep (docPair (docItem k)) j l1).1.length + 1 + 1)) c2, HDROP.out, ?_, ?_⟩
      · have := HAT.out
        simp only [List.length_append, List.length_cons, List.length_nil] at this ⊢
        omega
      · simpa using HP4.out
end Go.Proofs.Ytdfdajedcgmbfaa

namespace Go.Proofs.Ytdfdajedcgmbfaa
open Go.RowKit Go.Tru

theorem ditem_at {w0 : World} {bL bD bO bA bN bI : Nat} {o : Option Addr} {n c : Nat} {xs : List Int} {dep : Int} (hdep : dep ≤ 1000) : ∀ k, ItemAt w0 bL bD bO bA bN bI o n c xs dep k := by
  intro k
  induction k with
  | zero =>
    intro d w at_ es v hdk hd0 h hat hpot
    have hes : es.length ≤ 5000 := by omega
    obtain ⟨x, hx⟩ : ∃ x, (nx (xs.drop at_)).1 = x := ⟨_, rfl⟩
    have hi : docItem 0 (xs.drop at_) = (docLeaf x, (nx (xs.drop at_)).2) := by rw [← hx]; rfl
    rw [hi]
    have hd : dep ≤ d := by omega
    rcases (show x % 8 = 0 ∨ x % 8 = 1 ∨ (x % 8 = 2 ∨ x % 8 = 3) ∨ x % 8 = 4 ∨ x % 8 = 5 ∨ (x % 8 = 6 ∨ x % 8 = 7) by omega) with h8 | h8 | h8 | h8 | h8 | h8
    · rw [show docLeaf x = [evNull] by simp [docLeaf, h8]]; exact ditem_null d h hat hes x hx h8
    · rw [show docLeaf x = [evBool (decide (x / 8 % 2 = 1))] by simp [docLeaf, h8]]; exact ditem_bool d h hat hes x hx h8
    · rw [show docLeaf x = [evInt (decide (x / 8 % 2 = 1)) (((x * x) >>> (x % 8) : Nat) : Int)] by
        unfold docLeaf; rw [if_neg (by omega), if_neg (by omega), if_pos h8]]
      exact ditem_int d h hat hes x hx h8
    · rw [show docLeaf x = [evText (docText x)] by simp [docLeaf, h8]]; exact ditem_text d h hat hes x hx h8
    · rw [show docLeaf x = [evText noText] by simp [docLeaf, h8]]; exact ditem_text0 d h hat hes x hx h8 hd
    · rw [show docLeaf x = [evInt false x] by
        unfold docLeaf; rw [if_neg (by omega), if_neg (by omega), if_neg (by omega), if_neg (by omega), if_neg (by omega)]]
      exact ditem_int0 d h hat hes x hx h8 hd
  | succ k ih =>
    intro d w at_ es v hdk hd0 h hat hpot
    have hes : es.length ≤ 5000 := by omega
    obtain ⟨x, hx⟩ : ∃ x, (nx (xs.drop at_)).1 = x := ⟨_, rfl⟩
    rcases (show x % 8 = 0 ∨ x % 8 = 1 ∨ (x % 8 = 2 ∨ x % 8 = 3) ∨ x % 8 = 4 ∨ x % 8 = 5 ∨ (x % 8 = 6 ∨ x % 8 = 7) by omega) with h8 | h8 | h8 | h8 | h8 | h8
    · have hi : docItem (k + 1) (xs.drop at_) = ([evNull], (nx (xs.drop at_)).2) := by
        unfold docItem; rw [hx, if_pos (by omega)]; simp [docLeaf, h8]
      rw [hi]; exact ditem_null d h hat hes x hx h8
    · have hi : docItem (k + 1) (xs.drop at_) = ([evBool (decide (x / 8 % 2 = 1))], (nx (xs.drop at_)).2) := by
        unfold docItem; rw [hx, if_pos (by omega)]; simp [docLeaf, h8]
      rw [hi]; exact ditem_bool d h hat hes x hx h8
    · have hi : docItem (k + 1) (xs.drop at_) = ([evInt (decide (x / 8 % 2 = 1)) (((x * x) >>> (x % 8) : Nat) : Int)], (nx (xs.drop at_)).2) := by
        unfold docItem; rw [hx, if_pos (by omega)]; unfold docLeaf; rw [if_neg (by omega), if_neg (by omega), if_pos h8]
      rw [hi]; exact ditem_int d h hat hes x hx h8
    · have hi : docItem (k + 1) (xs.drop at_) = ([evText (docText x)], (nx (xs.drop at_)).2) := by
        unfold docItem; rw [hx, if_pos (by omega)]; simp [docLeaf, h8]
      rw [hi]; exact ditem_text d h hat hes x hx h8
    · have hi : docItem (k + 1) (xs.drop at_) = (evArr ((x / 8 % 4 : Nat) : Int) :: (rep (docItem k) (x / 8 % 4) (nx (xs.drop at_)).2).1 ++ [evEnd], (rep (docItem k) (x / 8 % 4) (nx (xs.drop at_)).2).2) := by
        rw [docItem, hx, if_neg (by omega), if_pos h8]
      rw [hi]; exact ditem_arr d h hat k hdk hd0 hdep hpot ih x hx h8
    · have hi : docItem (k + 1) (xs.drop at_) = (evMap ((x / 8 % 3 : Nat) : Int) :: (rep (docPair (docItem k)) (x / 8 % 3) (nx (xs.drop at_)).2).1 ++ [evEnd], (rep (docPair (docItem k)) (x / 8 % 3) (nx (xs.drop at_)).2).2) := by
        rw [docItem, hx, if_neg (by omega), if_neg (by omega)]
      rw [hi]; exact ditem_map d h hat k hdk hd0 hdep hpot ih x hx h8

set_option maxHeartbeats 1600000 in
set_option maxRecDepth 100000 in
theorem doc_any (o : Option Addr) (n c : Nat) (xs : List Int) (dep : Nat) (hdep : dep ≤ 100) (hn : n ≤ 100) (w : World) (h : IntsIn w o n c xs) :
    Calls Try.prog 6 #[.slice o n c, .int .i64 dep] w fun e w' => ∃ v, e = .returned v ∧ OwnsEvs w' w.heap.size v (doc xs dep) ∧ Keeps [] w w' := by
  have hmf : ∀ (fn : Fn) (first cap : Array Value) (w : World), (Instr.makeFunc fn first cap).run Try.prog w = .ok (.func fn first cap) w := fun _ _ _ _ => rfl
  have hit := ditem_at (w0 := w) (bL := w.heap.size) (bD := w.heap.size + 1) (bO := w.heap.size + 1 + 1) (bA := w.heap.size + 1 + 1 + 1) (bN := w.heap.size + 1 + 1 + 1 + 1) (bI := w.heap.size + 1 + 1 + 1 + 1 + 1) (o := o) (n := n) (c := c) (xs := xs) (dep := (dep : Int)) (by omega) dep
  have HIT := Lib.hid hit
  clear hit
  have H := Lib.hid h
  have L := Lib.hid h.len
  clear h
  go_enter Try.func6, Try.ntmps6
  go_wp2_with fail
  refine (HIT.out 0 _ 0 [] (.slice none 0 0) (by omega) (by omega) ⟨⟨Nat.le_refl _, by omega, by omega, by omega, by omega, by omega⟩,
    ((((((Has.new' w _ _ rfl).alloc _).alloc _).alloc _).alloc _).alloc _),
    (((((Has.new' (w.alloc _) _ _ (by simp)).alloc _).alloc _).alloc _).alloc _),
    ((((Has.new' ((w.alloc _).alloc _) _ _ (by simp)).alloc _).alloc _).alloc _), OwnsEvs.nil _ _,
    (((Has.new' (((w.alloc _).alloc _).alloc _) _ _ (by simp)).alloc _).alloc _),
    ((Has.new' ((((w.alloc _).alloc _).alloc _).alloc _) _ _ (by simp)).alloc _),
    (Has.new' (((((w.alloc _).alloc _).alloc _).alloc _).alloc _) _ _ (by simp)), H.out,
    ((((((Keeps.refl [] w).alloc _).alloc _).alloc _).alloc _).alloc _).alloc _⟩ (by simp) (by have := L.out; simp; omega)).mono ?_
  rintro e w1 ⟨rfl, at', v', hdrop, hat', hD⟩
  have q2 := hD.out.cell 0
  simp only [List.getElem?_cons_zero, List.drop_zero, List.nil_append] at q2 hD
  obtain ⟨ov, cv, rfl⟩ := hD.own.shape
  have HD := Lib.hid hD
  clear hD hdrop hat'
  go_wp2_with fail
  go_ret
  exact ⟨_, rfl, ownsRow_base HD.out.own (by omega), HD.out.keep⟩
end Go.Proofs.Ytdfdajedcgmbfaa

namespace Go.Tru
def openEv (p : Ev) : Ev := if p.kind = 5 ∨ p.kind = 6 then { p with count := -1 } else p
theorem openEv_end : openEv evEnd = evEnd := rfl
end Go.Tru

namespace Go.Proofs.Ytdfdajedcgmbfaa
open Go.RowKit Go.Tru

theorem boNewEvc (e : Ev) {w : World} {t : TypeId} {g : Nat} (hg : g = w.heap.size) : ∀ (j : Nat) (u : Value), ([e].flatMap Ev.cells)[j]? = some u → (w.alloc (.cells #[.int .i64 e.kind, .bool e.yes, .int .u64 e.mag, .string e.text, .int .i64 e.count] t)).cell? ((⟨g, 0, none⟩ : Addr).add j) = some u :=
  cells_new ([e].flatMap Ev.cells) hg

theorem boc_facts {w : World} {b : Nat} {e : Ev} {t : TypeId} (h : Has w b e.cells t) :
    w.cell? ⟨b, 0, none⟩ = some (.int .i64 e.kind) ∧ w.cell? ⟨b, 1, none⟩ = some (.bool e.yes) ∧ w.cell? ⟨b, 2, none⟩ = some (.int .u64 e.mag) ∧ w.cell? ⟨b, 3, none⟩ = some (.string e.text) ∧ w.cell? ⟨b, 4, none⟩ = some (.int .i64 e.count) :=
  ⟨h.cell 0, h.cell 1, h.cell 2, h.cell 3, h.cell 4⟩

def OpenRelC (n : Nat) (es : List Ev) (w : World) (v i : Value) (wr : World) : Prop :=
  ∃ k : Nat, k ≤ n ∧ i = .int .i64 k ∧ OwnsEvs wr w.heap.size v ((es.take k).map openEv) ∧ Keeps [] w wr

set_option maxHeartbeats 1600000 in
theorem bookOpen_any (o : Option Addr) (n c : Nat) (es : List Ev) (w : World) (h : EvsIn w o n c es) (hn : n ≤ 1000000) :
    Calls Try.prog 7 #[.slice o n c] w fun e w' => ∃ v, e = .returned v ∧ OwnsEvs w' w.heap.size v (es.map openEv) ∧ Keeps [] w w' := by
  have hl := h.len
  have H := Lib.hid h
  have L := Lib.hid hl
  clear h hl
  go_enter Try.func7, Try.ntmps7
  go_wp2_with fail
  go_loopw [3, 8] (fun v i wr => OpenRelC n es w v i wr) (fun _ i _ => n - (intOf i).toNat)
  case atStart => exact ⟨0, Nat.zero_le _, rfl, OwnsEvs.nil _ _, Keeps.refl _ _⟩
  case round =>
    obtain ⟨k, hk, rfl, hown, hK⟩ := hrel
    have hts := hown.lt
    by_cases hlt : k < n
    · have hx : k < es.length := by rw [L.out]; exact hlt
      obtain ⟨b1, f1, rfl, g0, g1, g2, g3, g4⟩ := (H.out.keeps hK).get hlt hx
      have HTS := Lib.hid (show (es.take (k + 1)).map openEv = (es.take k).map openEv ++ [openEv es[k]] by rw [List.take_succ_eq_append_getElem hx, List.map_append]; rfl)
      have HK := Lib.hid hK
      have HO := Lib.hid hown
      clear hK hown
      generalize es[k] = a at g0 g1 g2 g3 g4 HTS
      by_cases hc : a.kind = 5 ∨ a.kind = 6
      · have HE := Lib.hid (show openEv a = ⟨a.kind, a.yes, a.mag, a.text, -1⟩ by unfold openEv; rw [if_pos hc])
        obtain ⟨k', y', m', t', c'⟩ := a
        simp only at hc g0 g1 g2 g3 g4 HE
        rcases hc with rfl | rfl
        · skip
          go_wp2_with (at_builtin; go_must (refine app_evs rfl _ _ rfl w.heap.size _ ((es.take k).map openEv) rfl (ownsRow_keeps HO.out (((Keeps.refl [] _).alloc _).alloc _) (by simp)) ⟨_, 0, none⟩ 1 1 [⟨5, y', m', t', -1⟩] rfl rfl (boNewEvc ⟨5, y', m', t', -1⟩ (by simp)) (by rw [List.length_map, List.length_take]; omega) (by have := HK.out.size; simp; omega) ?_))
          intro v2 w2 hown2 hk2 _hnil _hb
          have hlo := World.ownsRow.lt HO.out
          have HO2 := Lib.hid hown2
          have HK2 := Lib.hid hk2
          clear hown2 hk2 _hnil _hb
          go_wp2_with fail
          go_roundw
          case rel => exact ⟨k + 1, by omega, by go_num, by rw [HTS.out, HE.out, List.map_take]; exact HO2.out, (((HK.out.alloc _).alloc _).trans' HK2.out (fun i hi => Or.inr (hlo i (mem_blks.1 hi)).1))⟩
          case measure => simp [intOf]; omega
        · skip
          go_wp2_with (at_builtin; go_must (refine app_evs rfl _ _ rfl w.heap.size _ ((es.take k).map openEv) rfl (ownsRow_keeps HO.out (((Keeps.refl [] _).alloc _).alloc _) (by simp)) ⟨_, 0, none⟩ 1 1 [⟨6, y', m', t', -1⟩] rfl rfl (boNewEvc ⟨6, y', m', t', -1⟩ (by simp)) (by rw [List.length_map, List.length_take]; omega) (by have := HK.out.size; simp; omega) ?_))
          intro v2 w2 hown2 hk2 _hnil _hb
          have hlo := World.ownsRow.lt HO.out
          have HO2 := Lib.hid hown2
          have HK2 := Lib.hid hk2
          clear hown2 hk2 _hnil _hb
          go_wp2_with fail
          go_roundw
          case rel => exact ⟨k + 1, by omega, by go_num, by rw [HTS.out, HE.out, List.map_take]; exact HO2.out, (((HK.out.alloc _).alloc _).trans' HK2.out (fun i hi => Or.inr (hlo i (mem_blks.1 hi)).1))⟩
          case measure => simp [intOf]; omega
      · have HE := Lib.hid (show openEv a = a by unfold openEv; rw [if_neg hc])
        have h5 : (a.kind == 5) = false := by simp; omega
        have h6 : (a.kind == 6) = false := by simp; omega
        clear hc
        go_wp2_with (at_builtin; go_must (refine app_evs rfl _ _ rfl w.heap.size _ ((es.take k).map openEv) rfl (ownsRow_keeps HO.out (((Keeps.refl [] _).alloc _).alloc _) (by simp)) ⟨_, 0, none⟩ 1 1 [a] rfl rfl (boNewEvc a (by simp)) (by rw [List.length_map, List.length_take]; omega) (by have := HK.out.size; simp; omega) ?_))
        intro v2 w2 hown2 hk2 _hnil _hb
        have hlo := World.ownsRow.lt HO.out
        have HO2 := Lib.hid hown2
        have HK2 := Lib.hid hk2
        clear hown2 hk2 _hnil _hb
        go_wp2_with fail
        go_roundw
        case rel => exact ⟨k + 1, by omega, by go_num, by rw [HTS.out, HE.out, List.map_take]; exact HO2.out, (((HK.out.alloc _).alloc _).trans' HK2.out (fun i hi => Or.inr (hlo i (mem_blks.1 hi)).1))⟩
        case measure => simp [intOf]; omega
    · obtain rfl : k = n := by omega
      rw [List.take_of_length_le (by rw [L.out]; omega)] at hown
      have HO := Lib.hid hown
      have HK := Lib.hid hK
      clear hown hK
      go_wp2_with fail
      go_ret
      exact ⟨_, rfl, HO.out, HK.out⟩
end Go.Proofs.Ytdfdajedcgmbfaa
