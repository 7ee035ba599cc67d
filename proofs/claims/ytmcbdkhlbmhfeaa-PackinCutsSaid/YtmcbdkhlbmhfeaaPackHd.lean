/-
  The head of a text, or of bytes, in MessagePack, plain.
-/
import Derived.Test.YtmcbdkhlbmhfeaaBig
namespace Go.Tru
/-- how many bytes of a length follow the first byte (text, or bytes) -/
def pMore (text : Bool) (n : Nat) : Nat := if text = true ∧ n < 32 then 0 else if n < 256 then 1 else 2
/-- the head of a text, or of bytes, in MessagePack -/
def pHead (text : Bool) (n : Nat) : List UInt8 :=
  if text = true ∧ n < 32 then [UInt8.ofNat (160 + n)]
  else if n < 256 then (if text then 217 else 196) :: bigB n 1
  else (if text then 218 else 197) :: bigB n 2
end Go.Tru
