/-
  truchmanbook.Doc: its contract.
-/
import Derived.Test.YtdfdajedcgmbfaaDocMap
import Derived.Laws.EntriesVeiled
namespace Go.Proofs.Ytdfdajedcgmbfaa
open Go.RowKit Go.Tru

theorem ditem_at {w0 : World} {bL bD bO bA bN bI : Nat} {o : Option Addr} {n c : Nat} {xs : List Int} {dep : Int} (hdep : dep ≤ 1000) : ∀ k, ItemAt w0 bL bD bO bA bN bI o n c xs dep k := by
  intro k
  induction k with
  | zero =>
    intro d w at_ es v hdk hd0 h hat hpot
    have hes : es.length ≤ 5000 := by omega
    obtain ⟨x, hx⟩ : ∃ x, (nx (xs.drop at_)).1 = x := ⟨_, rfl⟩
    have hi : docItem 0 (xs.drop at_) = (docLeaf x, (nx (xs.drop at_)).2) := by rw [← hx]; rfl
    rw [hi]
    have hd : dep ≤ d := by omega
    rcases (show x % 8 = 0 ∨ x % 8 = 1 ∨ (x % 8 = 2 ∨ x % 8 = 3) ∨ x % 8 = 4 ∨ x % 8 = 5 ∨ (x % 8 = 6 ∨ x % 8 = 7) by omega) with h8 | h8 | h8 | h8 | h8 | h8
    · rw [show docLeaf x = [evNull] by simp [docLeaf, h8]]; exact ditem_null d h hat hes x hx h8
    · rw [show docLeaf x = [evBool (decide (x / 8 % 2 = 1))] by simp [docLeaf, h8]]; exact ditem_bool d h hat hes x hx h8
    · rw [show docLeaf x = [evInt (decide (x / 8 % 2 = 1)) (((x * x) >>> (x % 8) : Nat) : Int)] by
        unfold docLeaf; rw [if_neg (by omega), if_neg (by omega), if_pos h8]]
      exact ditem_int d h hat hes x hx h8
    · rw [show docLeaf x = [evText (docText x)] by simp [docLeaf, h8]]; exact ditem_text d h hat hes x hx h8
    · rw [show docLeaf x = [evText noText] by simp [docLeaf, h8]]; exact ditem_text0 d h hat hes x hx h8 hd
    · rw [show docLeaf x = [evInt false x] by
        unfold docLeaf; rw [if_neg (by omega), if_neg (by omega), if_neg (by omega), if_neg (by omega), if_neg (by omega)]]
      exact ditem_int0 d h hat hes x hx h8 hd
  | succ k ih =>
    intro d w at_ es v hdk hd0 h hat hpot
    have hes : es.length ≤ 5000 := by omega
    obtain ⟨x, hx⟩ : ∃ x, (nx (xs.drop at_)).1 = x := ⟨_, rfl⟩
    rcases (show x % 8 = 0 ∨ x % 8 = 1 ∨ (x % 8 = 2 ∨ x % 8 = 3) ∨ x % 8 = 4 ∨ x % 8 = 5 ∨ (x % 8 = 6 ∨ x % 8 = 7) by omega) with h8 | h8 | h8 | h8 | h8 | h8
    · have hi : docItem (k + 1) (xs.drop at_) = ([evNull], (nx (xs.drop at_)).2) := by
        unfold docItem; rw [hx, if_pos (by omega)]; simp [docLeaf, h8]
      rw [hi]; exact ditem_null d h hat hes x hx h8
    · have hi : docItem (k + 1) (xs.drop at_) = ([evBool (decide (x / 8 % 2 = 1))], (nx (xs.drop at_)).2) := by
        unfold docItem; rw [hx, if_pos (by omega)]; simp [docLeaf, h8]
      rw [hi]; exact ditem_bool d h hat hes x hx h8
    · have hi : docItem (k + 1) (xs.drop at_) = ([evInt (decide (x / 8 % 2 = 1)) (((x * x) >>> (x % 8) : Nat) : Int)], (nx (xs.drop at_)).2) := by
        unfold docItem; rw [hx, if_pos (by omega)]; unfold docLeaf; rw [if_neg (by omega), if_neg (by omega), if_pos h8]
      rw [hi]; exact ditem_int d h hat hes x hx h8
    · have hi : docItem (k + 1) (xs.drop at_) = ([evText (docText x)], (nx (xs.drop at_)).2) := by
        unfold docItem; rw [hx, if_pos (by omega)]; simp [docLeaf, h8]
      rw [hi]; exact ditem_text d h hat hes x hx h8
    · have hi : docItem (k + 1) (xs.drop at_) = (evArr ((x / 8 % 4 : Nat) : Int) :: (rep (docItem k) (x / 8 % 4) (nx (xs.drop at_)).2).1 ++ [evEnd], (rep (docItem k) (x / 8 % 4) (nx (xs.drop at_)).2).2) := by
        rw [docItem, hx, if_neg (by omega), if_pos h8]
      rw [hi]; exact ditem_arr d h hat k hdk hd0 hdep hpot ih x hx h8
    · have hi : docItem (k + 1) (xs.drop at_) = (evMap ((x / 8 % 3 : Nat) : Int) :: (rep (docPair (docItem k)) (x / 8 % 3) (nx (xs.drop at_)).2).1 ++ [evEnd], (rep (docPair (docItem k)) (x / 8 % 3) (nx (xs.drop at_)).2).2) := by
        rw [docItem, hx, if_neg (by omega), if_neg (by omega)]
      rw [hi]; exact ditem_map d h hat k hdk hd0 hdep hpot ih x hx h8

set_option maxHeartbeats 1600000 in
set_option maxRecDepth 100000 in
theorem doc_any (o : Option Addr) (n c : Nat) (xs : List Int) (dep : Nat) (hdep : dep ≤ 100) (hn : n ≤ 100) (w : World) (h : IntsIn w o n c xs) :
    Calls Try.prog 6 #[.slice o n c, .int .i64 dep] w fun e w' => ∃ v, e = .returned v ∧ OwnsEvs w' w.heap.size v (doc xs dep) ∧ Keeps [] w w' := by
  have hmf : ∀ (fn : Fn) (first cap : Array Value) (w : World), (Instr.makeFunc fn first cap).run Try.prog w = .ok (.func fn first cap) w := fun _ _ _ _ => rfl
  have hit := ditem_at (w0 := w) (bL := w.heap.size) (bD := w.heap.size + 1) (bO := w.heap.size + 1 + 1) (bA := w.heap.size + 1 + 1 + 1) (bN := w.heap.size + 1 + 1 + 1 + 1) (bI := w.heap.size + 1 + 1 + 1 + 1 + 1) (o := o) (n := n) (c := c) (xs := xs) (dep := (dep : Int)) (by omega) dep
  have HIT := Lib.hid hit
  clear hit
  have H := Lib.hid h
  have L := Lib.hid h.len
  clear h
  go_enter Try.func6, Try.ntmps6
  go_wp2_with fail
  refine (HIT.out 0 _ 0 [] (.slice none 0 0) (by omega) (by omega) ⟨⟨Nat.le_refl _, by omega, by omega, by omega, by omega, by omega⟩,
    ((((((Has.new' w _ _ rfl).alloc _).alloc _).alloc _).alloc _).alloc _),
    (((((Has.new' (w.alloc _) _ _ (by simp)).alloc _).alloc _).alloc _).alloc _),
    ((((Has.new' ((w.alloc _).alloc _) _ _ (by simp)).alloc _).alloc _).alloc _), OwnsEvs.nil _ _,
    (((Has.new' (((w.alloc _).alloc _).alloc _) _ _ (by simp)).alloc _).alloc _),
    ((Has.new' ((((w.alloc _).alloc _).alloc _).alloc _) _ _ (by simp)).alloc _),
    (Has.new' (((((w.alloc _).alloc _).alloc _).alloc _).alloc _) _ _ (by simp)), H.out,
    ((((((Keeps.refl [] w).alloc _).alloc _).alloc _).alloc _).alloc _).alloc _⟩ (by simp) (by have := L.out; simp; omega)).mono ?_
  rintro e w1 ⟨rfl, at', v', hdrop, hat', hD⟩
  have q2 := hD.out.cell 0
  simp only [List.getElem?_cons_zero, List.drop_zero, List.nil_append] at q2 hD
  obtain ⟨ov, cv, rfl⟩ := hD.own.shape
  have HD := Lib.hid hD
  clear hD hdrop hat'
  go_wp2_with fail
  go_ret
  exact ⟨_, rfl, ownsRow_base HD.out.own (by omega), HD.out.keep⟩
end Go.Proofs.Ytdfdajedcgmbfaa
