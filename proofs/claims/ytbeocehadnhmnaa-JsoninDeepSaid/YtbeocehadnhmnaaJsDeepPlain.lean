/-
  Containers in one another: what jsonin.All tells.
-/
import Derived.Test.YtbeocehadnhmnaaJsModel
namespace Go.Tru

def deepL (n : Nat) (m : Bool) : List UInt8 := (List.replicate n (if m then [123, 34, 97, 34, 58] else [91])).flatten
def deepR (n : Nat) (m : Bool) : List UInt8 := List.replicate n (if m then 125 else 93)

def deepGood (n d : Nat) (m : Bool) : Bool :=
  if n = 0 ∨ d = 0 then true
  else
    let r := jsAll (deepL n m ++ [49] ++ deepR n m) d
    if d < n then decide (r.2 = 4) && decide (d ≤ r.1.length) else decide (r.2 = 0) && decide (r.1.getLast?.map Ev.kind = some 7)

theorem deep_arrs : ∀ n : Fin 21, ∀ d : Fin 17, deepGood n.1 d.1 false = true := by decide +kernel
theorem deep_maps : ∀ n : Fin 21, ∀ d : Fin 17, deepGood n.1 d.1 true = true := by decide +kernel

theorem deep_told {n d : Nat} (m : Bool) (hn : 1 ≤ n) (hn2 : n ≤ 20) (hd : 1 ≤ d) (hd2 : d ≤ 16) :
    if d < n then (jsAll (deepL n m ++ [49] ++ deepR n m) d).2 = 4 ∧ d ≤ (jsAll (deepL n m ++ [49] ++ deepR n m) d).1.length
    else (jsAll (deepL n m ++ [49] ++ deepR n m) d).2 = 0 ∧ (jsAll (deepL n m ++ [49] ++ deepR n m) d).1.getLast?.map Ev.kind = some 7 := by
  have h : deepGood n d m = true := by
    cases m
    · exact deep_arrs ⟨n, by omega⟩ ⟨d, by omega⟩
    · exact deep_maps ⟨n, by omega⟩ ⟨d, by omega⟩
  unfold deepGood at h
  rw [if_neg (by omega)] at h
  simp only [] at h
  split
  · rename_i hlt
    rw [if_pos hlt] at h
    simpa using h
  · rename_i hlt
    rw [if_neg hlt] at h
    simpa using h

end Go.Tru
