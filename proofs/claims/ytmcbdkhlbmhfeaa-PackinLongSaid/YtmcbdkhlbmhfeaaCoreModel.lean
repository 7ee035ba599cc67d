/-
  cborin.Core as plain data: what readers of items with lengths have in common.
-/
import Derived.Test.YtmcbdkhlbmhfeaaEv
import Derived.Test.YtmcbdkhlbmhfeaaChk
import Derived.Test.YtmcbdkhlbmhfeaaStack
namespace Go.Tru

def Cont.met (c : Cont) : Bool := if c.pairs then decide (c.parts % 2 = 0 ∧ c.parts / 2 = c.count) else decide (c.parts = c.count)

structure Core where
  depth : Int
  open_ : List Cont
  done : Bool
  e : Int
  word : Bool
  chunks : Bool
  lack : Int
  s : List UInt8
  c : Chk

def Core.new (depth : Int) : Core := ⟨depth, [], false, 0, false, false, 0, [], Chk.zero⟩

/-- an item is at its end: the ends that come with it, the containers that stay open, is the document at its end? -/
def closeUp : List Cont → List Ev × List Cont × Bool
  | [] => ([], [], true)
  | c :: r => if ({ c with parts := c.parts + 1 } : Cont).met then let t := closeUp r; (evEnd :: t.1, t.2.1, t.2.2) else ([], { c with parts := c.parts + 1 } :: r, false)

def Core.fail (k : Core) (e : Int) : List Ev × Core := ([], { k with e := e })

def Core.value (k : Core) (p : Ev) : List Ev × Core :=
  let t := closeUp k.open_
  (p :: t.1, { k with open_ := t.2.1, done := k.done || t.2.2 })

def beginEv (pairs : Bool) (count : Int) : Ev := if pairs then evMap count else evArr count

def Core.begin (k : Core) (pairs : Bool) (count : Int) : List Ev × Core :=
  if count = 0 then let t := k.value evEnd; (beginEv pairs count :: t.1, t.2)
  else ([beginEv pairs count], { k with open_ := ⟨pairs, count, 0⟩ :: k.open_ })

def Core.brk (k : Core) : List Ev × Core :=
  match k.open_ with
  | [] => k.fail 2
  | c :: r => if 0 ≤ c.count ∨ c.pairs = true ∧ 0 < c.parts % 2 then k.fail 2 else Core.value { k with open_ := r } evEnd

def bytesOf (l : List UInt8) : ByteArray := ⟨l.toArray⟩
def wordEv (word : Bool) (l : List UInt8) : Ev := if word then evText (bytesOf l) else evBytes (bytesOf l)

def Core.text (k : Core) : List Ev × Core := Core.value { k with s := [], chunks := false } (wordEv k.word k.s)

def Core.length (k : Core) (word : Bool) (n : Int) : List Ev × Core :=
  if (200 - (k.s.length : Int)) < n then k.fail 5
  else
    let k' := { k with word := word, lack := n, c := Chk.zero }
    if 0 < n ∨ k'.chunks = true then ([], k') else k'.text

def Core.byte (k : Core) (b : Int) : List Ev × Core :=
  let c' := if k.word then k.c.step b else k.c
  let k' := { k with s := k.s ++ [UInt8.ofNat b.toNat], lack := k.lack - 1, c := c' }
  if k.word = true ∧ (c'.bad = true ∨ k.lack - 1 = 0 ∧ c'.whole = false) then k'.fail 9
  else if 0 < k.lack - 1 ∨ k.chunks = true then ([], k')
  else k'.text

def Core.over (k : Core) : Int := if k.e = 0 ∧ k.done = false then 3 else k.e
def Core.held (k : Core) : Int := if k.e ≠ 0 then 0 else (k.s.length : Int) + k.open_.length
def Core.atKey (k : Core) : Bool := match k.open_ with | [] => false | c :: _ => c.pairs && decide (c.parts % 2 = 0)
def Core.full (k : Core) : Bool := decide (k.depth ≤ (k.open_.length : Int))

/-- what holds of every Core that was made and stepped N times -/
structure Core.Fit (N : Int) (k : Core) : Prop where
  depth : 1 ≤ k.depth ∧ k.depth ≤ 16
  opens : (k.open_.length : Int) ≤ k.depth
  parts : ∀ c ∈ k.open_, 0 ≤ c.parts ∧ c.parts ≤ N ∧ -1 ≤ c.count ∧ c.count ≤ 1000000
  lack : 0 ≤ k.lack ∧ k.lack + k.s.length ≤ 200
  chk : k.c.Fit

theorem Core.Fit.mono {N M : Int} {k : Core} (h : k.Fit N) (hm : N ≤ M) : k.Fit M :=
  ⟨h.depth, h.opens, fun c hc => by obtain ⟨h1, h2, h3⟩ := h.parts c hc; exact ⟨h1, by omega, h3⟩, h.lack, h.chk⟩

theorem Core.fit_new {d N : Int} (h : 1 ≤ d ∧ d ≤ 16) : (Core.new d).Fit N :=
  ⟨h, by simp [Core.new]; omega, by simp [Core.new], by simp [Core.new], Chk.fit_zero⟩

theorem closeUp_fit {N : Int} : ∀ {l : List Cont}, (∀ c ∈ l, 0 ≤ c.parts ∧ c.parts ≤ N ∧ -1 ≤ c.count ∧ c.count ≤ 1000000) →
    (closeUp l).2.1.length ≤ l.length ∧ ∀ c ∈ (closeUp l).2.1, 0 ≤ c.parts ∧ c.parts ≤ N + 1 ∧ -1 ≤ c.count ∧ c.count ≤ 1000000
  | [], _ => by simp [closeUp]
  | c :: r, h => by
    have hc := h c (List.mem_cons_self ..)
    have hr : ∀ c ∈ r, 0 ≤ c.parts ∧ c.parts ≤ N ∧ -1 ≤ c.count ∧ c.count ≤ 1000000 := fun x hx => h x (List.mem_cons_of_mem _ hx)
    unfold closeUp
    split
    · obtain ⟨h1, h2⟩ := closeUp_fit hr
      exact ⟨by simp only [List.length_cons]; omega, h2⟩
    · refine ⟨by simp, fun x hx => ?_⟩
      rcases List.mem_cons.1 hx with rfl | hx
      · simp only []; omega
      · obtain ⟨h1, h2, h3⟩ := hr x hx
        exact ⟨h1, by omega, h3⟩

theorem Core.fit_fail {N : Int} {k : Core} (h : k.Fit N) (e : Int) : (k.fail e).2.Fit N := ⟨h.depth, h.opens, h.parts, h.lack, h.chk⟩

theorem Core.fit_value {N : Int} {k : Core} (h : k.Fit N) (p : Ev) : (k.value p).2.Fit (N + 1) := by
  obtain ⟨h1, h2⟩ := closeUp_fit h.parts
  have := h.opens
  exact ⟨h.depth, by simp only [Core.value]; omega, h2, h.lack, h.chk⟩

theorem Core.fit_begin {N : Int} {k : Core} (h : k.Fit N) (hf : k.full = false) (hN : 0 ≤ N) (pairs : Bool) {count : Int} (hc : -1 ≤ count ∧ count ≤ 1000000) : (k.begin pairs count).2.Fit (N + 1) := by
  unfold Core.begin
  split
  · exact Core.fit_value h evEnd
  · have := h.opens
    unfold Core.full at hf
    simp only [decide_eq_false_iff_not] at hf
    refine ⟨h.depth, by simp only [List.length_cons]; omega, fun c hc' => ?_, h.lack, h.chk⟩
    simp only [] at hc'
    rcases List.mem_cons.1 hc' with rfl | hx
    · simp only []; omega
    · obtain ⟨h1, h2, h3⟩ := h.parts c hx
      exact ⟨h1, by omega, h3⟩

theorem Core.fit_brk {N : Int} {k : Core} (h : k.Fit N) : k.brk.2.Fit (N + 1) := by
  unfold Core.brk
  split
  · exact (Core.fit_fail h 2).mono (by omega)
  · rename_i c r ho
    split
    · exact (Core.fit_fail h 2).mono (by omega)
    · have h2 : Core.Fit N { k with open_ := r } := by
        refine ⟨h.depth, ?_, fun x hx => h.parts x (by rw [ho]; exact List.mem_cons_of_mem c hx), h.lack, h.chk⟩
        have := h.opens
        rw [ho] at this
        simp only [List.length_cons] at this ⊢
        omega
      exact Core.fit_value h2 evEnd

theorem Core.fit_text {N : Int} {k : Core} (h : k.Fit N) : k.text.2.Fit (N + 1) := by
  have hk : Core.Fit N { k with s := [], chunks := false } := ⟨h.depth, h.opens, h.parts, by have := h.lack; simp only [List.length_nil]; omega, h.chk⟩
  exact Core.fit_value hk (wordEv k.word k.s)

theorem Core.fit_length {N : Int} {k : Core} (h : k.Fit N) (word : Bool) {n : Int} (hn : 0 ≤ n) : (k.length word n).2.Fit (N + 1) := by
  unfold Core.length
  split
  · exact (Core.fit_fail h 5).mono (by omega)
  · have hk : Core.Fit N { k with word := word, lack := n, c := Chk.zero } := ⟨h.depth, h.opens, h.parts, by simp only []; omega, Chk.fit_zero⟩
    simp only []
    split
    · exact hk.mono (by omega)
    · exact Core.fit_text hk

theorem Core.fit_byte {N : Int} {k : Core} (h : k.Fit N) (hl : 0 < k.lack) (b : Int) : (k.byte b).2.Fit (N + 1) := by
  unfold Core.byte
  have hc : (if k.word then k.c.step b else k.c).Fit := by
    split
    · exact Chk.fit_step h.chk b
    · exact h.chk
  generalize (if k.word then k.c.step b else k.c) = c' at hc
  have hk : Core.Fit N { k with s := k.s ++ [UInt8.ofNat b.toNat], lack := k.lack - 1, c := c' } :=
    ⟨h.depth, h.opens, h.parts, by have := h.lack; simp only [List.length_append, List.length_singleton]; omega, hc⟩
  simp only []
  split
  · exact (Core.fit_fail hk 9).mono (by omega)
  · split
    · exact hk.mono (by omega)
    · exact Core.fit_text hk
end Go.Tru
