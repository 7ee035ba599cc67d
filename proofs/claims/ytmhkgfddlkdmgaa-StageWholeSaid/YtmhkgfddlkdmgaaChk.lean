/-
  utf.Check: what its methods compute, as plain functions on numbers.
-/
import Derived.Test.YtmhkgfddlkdmgaaTru
namespace Go.Tru

/-- what a Check holds -/
structure Chk where
  lack : Int
  low : Int
  high : Int
  bad : Bool

def Chk.cells (c : Chk) : List Value := [.int .i64 c.lack, .int .u8 c.low, .int .u8 c.high, .bool c.bad]
def Chk.zero : Chk := ⟨0, 0, 0, false⟩

def leadLack (k b : Int) : Int := if b < 128 then k else if b < 194 then k else if b ≤ 223 then 1 else if b ≤ 239 then 2 else if b ≤ 244 then 3 else k
def leadOk (b : Int) : Bool := decide (b < 128 ∨ (194 ≤ b ∧ b ≤ 244))
def leadLow (b : Int) : Int := if b = 224 then 160 else if b = 240 then 144 else 128
def leadHigh (b : Int) : Int := if b = 237 then 159 else if b = 244 then 143 else 191
def Chk.begin (c : Chk) (b : Int) : Chk := { c with lack := leadLack c.lack b, low := leadLow b, high := leadHigh b }

def Chk.step (c : Chk) (b : Int) : Chk :=
  if c.bad then c
  else if c.lack = 0 then { c.begin b with bad := !leadOk b }
  else if b < c.low ∨ c.high < b then { c with bad := true }
  else { lack := c.lack - 1, low := 128, high := 191, bad := false }

/-- the bounds that a Check keeps -/
def Chk.Fit (c : Chk) : Prop := 0 ≤ c.lack ∧ c.lack ≤ 3

theorem Chk.fit_zero : Chk.zero.Fit := by simp [Chk.Fit, Chk.zero]
theorem Chk.fit_step {c : Chk} (h : c.Fit) (b : Int) : (c.step b).Fit := by
  unfold Chk.Fit at *
  unfold Chk.step Chk.begin leadLack
  split
  · exact h
  split
  · simp only []; repeat (first | omega | split)
  split
  · exact h
  · simp only []; omega

/-- so many bytes, one behind the other -/
def Chk.run (c : Chk) (l : List UInt8) : Chk := l.foldl (fun c b => c.step b.toNat) c

theorem Chk.run_nil (c : Chk) : c.run [] = c := rfl
theorem Chk.run_cons (c : Chk) (b : UInt8) (l : List UInt8) : c.run (b :: l) = (c.step b.toNat).run l := rfl
theorem Chk.run_append (c : Chk) (l m : List UInt8) : c.run (l ++ m) = (c.run l).run m := by simp [Chk.run]
theorem Chk.fit_run {c : Chk} (h : c.Fit) (l : List UInt8) : (c.run l).Fit := by
  induction l generalizing c with
  | nil => exact h
  | cons b l ih => exact ih (c.fit_step h _)
theorem Chk.step_bad {c : Chk} (h : c.bad = true) (b : Int) : c.step b = c := by simp [Chk.step, h]
theorem Chk.run_bad {c : Chk} (h : c.bad = true) (l : List UInt8) : c.run l = c := by
  induction l with
  | nil => rfl
  | cons b l ih => rw [Chk.run_cons, Chk.step_bad h, ih]

def Chk.whole (c : Chk) : Bool := !c.bad && decide (c.lack = 0)
/-- is a text UTF-8? -/
def utf8 (l : List UInt8) : Bool := (Chk.zero.run l).whole

end Go.Tru
