/-
  cborin's Parser as plain data.
-/
import Derived.Test.YtdfdajedcgmbfaaCoreModel
namespace Go.Tru

/-- head.Head -/
structure Hd where
  begun : Bool
  end_ : Bool
  open_ : Bool
  major : Int
  lack : Int
  v : Int
  e : Int

def Hd.zero : Hd := ⟨false, false, false, 0, 0, 0, 0⟩
def Hd.cells (h : Hd) : List Value := [.bool h.begun, .bool h.end_, .bool h.open_, .int .i64 h.major, .int .i64 h.lack, .int .u64 h.v, .int .i64 h.e]

structure Cb where
  c : Core
  h : Hd
  begun : Bool

def Cb.new (depth : Int) : Cb := ⟨Core.new depth, Hd.zero, false⟩
def Cb.put (p : Cb) (t : List Ev × Core) : List Ev × Cb := (t.1, { p with c := t.2 })

/-- a head is at its end -/
def Cb.told (p : Cb) (major v : Int) (without : Bool) : List Ev × Cb :=
  if major = 0 ∨ major = 1 then p.put (p.c.value (evInt (decide (major = 1)) v))
  else if major = 2 ∨ major = 3 then
    (if without then ([], { p with c := { p.c with chunks := true, word := decide (major = 3) } }) else p.put (p.c.length (decide (major = 3)) v))
  else if without then p.put (p.c.begin (decide (major = 5)) (-1))
  else if 1000000 < v then p.put (p.c.fail 7)
  else p.put (p.c.begin (decide (major = 5)) v)

/-- the first byte of a head -/
def Cb.first (p : Cb) (b : Int) : List Ev × Cb :=
  if b % 32 < 24 then Cb.told { p with h := Hd.zero, begun := false } (b / 32) (b % 32) false
  else if b % 32 < 28 then ([], { p with h := ⟨true, false, false, b / 32, 2 ^ (b % 32 - 24).toNat, 0, 0⟩, begun := true })
  else if b % 32 = 31 then Cb.told { p with h := Hd.zero, begun := false } (b / 32) 0 true
  else Cb.put { p with h := ⟨true, false, false, b / 32, 0, 0, 2⟩, begun := true } (p.c.fail 2)

/-- one more -/
def Cb.more (p : Cb) (b : Int) : List Ev × Cb :=
  if 0 < p.h.lack - 1 then ([], { p with h := { p.h with v := p.h.v * 256 + b, lack := p.h.lack - 1 }, begun := true })
  else Cb.told { p with h := Hd.zero, begun := false } p.h.major (p.h.v * 256 + b) false

def Cb.head (p : Cb) (b : Int) : List Ev × Cb := if p.begun then p.more b else p.first b

def Cb.chunk (p : Cb) (b : Int) : List Ev × Cb :=
  if b = 255 then p.put p.c.text
  else if b / 32 ≠ (if p.c.word then 3 else 2) ∨ b % 32 = 31 then p.put (p.c.fail 2)
  else p.first b

def Cb.simple (p : Cb) (low : Int) : List Ev × Cb :=
  if low = 20 ∨ low = 21 then p.put (p.c.value (evBool (decide (low = 21))))
  else if low = 22 then p.put (p.c.value evNull)
  else if low = 25 ∨ low = 26 ∨ low = 27 then p.put (p.c.fail 6)
  else p.put (p.c.fail 8)

def Cb.item (p : Cb) (b : Int) : List Ev × Cb :=
  if p.c.done = true then p.put (p.c.fail 2)
  else if 28 ≤ b % 32 ∧ b % 32 < 31 ∨ b % 32 = 31 ∧ (b / 32 ≤ 1 ∨ b / 32 = 6) then p.put (p.c.fail 2)
  else if b = 255 then p.put p.c.brk
  else if p.c.atKey = true ∧ b / 32 ≠ 3 ∨ b / 32 = 6 then p.put (p.c.fail 8)
  else if b / 32 = 7 then p.simple (b % 32)
  else if (b / 32 = 4 ∨ b / 32 = 5) ∧ p.c.full = true then p.put (p.c.fail 4)
  else p.first b

def Cb.step (p : Cb) (b : Int) : List Ev × Cb :=
  if p.c.e ≠ 0 then ([], p)
  else if 0 < p.c.lack then p.put (p.c.byte b)
  else if p.begun = true then p.more b
  else if p.c.chunks = true then p.chunk b
  else p.item b

/-- all parts of bytes -/
def Cb.run : Cb → List UInt8 → List Ev × Int
  | p, [] => ([], p.c.over)
  | p, b :: r =>
    if (p.step b.toNat).2.c.e ≠ 0 then ((p.step b.toNat).1, (p.step b.toNat).2.c.e)
    else ((p.step b.toNat).1 ++ (Cb.run (p.step b.toNat).2 r).1, (Cb.run (p.step b.toNat).2 r).2)

def cborAll (s : List UInt8) (depth : Int) : List Ev × Int := if depth < 1 ∨ 16 < depth then ([], 1) else (Cb.new depth).run s

/-- a head that is begun -/
structure Hd.Fit (h : Hd) : Prop where
  begun : h.begun = true
  end_ : h.end_ = false
  open_ : h.open_ = false
  e : h.e = 0
  major : 0 ≤ h.major ∧ h.major ≤ 7
  lack : 1 ≤ h.lack ∧ h.lack ≤ 8
  v : 0 ≤ h.v ∧ h.v < 256 ^ (8 - h.lack).toNat

structure Cb.Fit (N : Int) (p : Cb) : Prop where
  core : p.c.Fit N
  none_ : p.c.e = 0 → p.begun = false → p.h = Hd.zero
  head : p.c.e = 0 → p.begun = true → p.h.Fit ∧ p.h.major ≤ 5
  room : p.c.e = 0 → p.begun = true → (p.h.major = 4 ∨ p.h.major = 5) → p.c.full = false
  sep : p.c.e = 0 → 0 < p.c.lack → p.begun = false

theorem Cb.fit_new {d N : Int} (h : 1 ≤ d ∧ d ≤ 16) : (Cb.new d).Fit N := ⟨Core.fit_new h, fun _ _ => rfl, fun _ h => Bool.noConfusion h, fun _ h => Bool.noConfusion h, fun _ _ => rfl⟩

theorem Cb.fit_put {N : Int} {p : Cb} {t : List Ev × Core} (hb : p.begun = false) (hh : p.h = Hd.zero) (h : t.2.Fit N) : (p.put t).2.Fit N :=
  ⟨h, fun _ _ => hh, fun _ h => (by simp only [Cb.put] at h; rw [hb] at h; cases h), fun _ h => (by simp only [Cb.put] at h; rw [hb] at h; cases h), fun _ _ => hb⟩

theorem Cb.fit_fail {N : Int} {p : Cb} {e : Int} (he : e ≠ 0) (h : p.c.Fit N) : (p.put (p.c.fail e)).2.Fit N :=
  ⟨Core.fit_fail h e, fun h => absurd h he, fun h => absurd h he, fun h => absurd h he, fun h => absurd h he⟩

theorem Cb.fit_told {N : Int} (hN : 0 ≤ N) {p : Cb} (hb : p.begun = false) (hh : p.h = Hd.zero) (h : p.c.Fit N) {major v : Int} (hv : 0 ≤ v) (hr : major ≠ 0 ∧ major ≠ 1 ∧ major ≠ 2 ∧ major ≠ 3 → p.c.full = false) (without : Bool) : (p.told major v without).2.Fit (N + 1) := by
  unfold Cb.told
  split
  · exact Cb.fit_put hb hh (Core.fit_value h _)
  split
  · split
    · exact ⟨⟨h.depth, h.opens, fun c hc => by obtain ⟨h1, h2, h3⟩ := h.parts c hc; exact ⟨h1, by omega, h3⟩, h.lack, h.chk⟩, fun _ _ => hh, fun _ h => (by simp only [] at h; rw [hb] at h; cases h), fun _ h => (by simp only [] at h; rw [hb] at h; cases h), fun _ _ => hb⟩
    · exact Cb.fit_put hb hh (Core.fit_length h _ hv)
  rename_i h1 h2
  have hf := hr (by omega)
  split
  · exact Cb.fit_put hb hh (Core.fit_begin h hf hN _ (by omega))
  split
  · exact Cb.fit_fail (by decide) (h.mono (by omega))
  · exact Cb.fit_put hb hh (Core.fit_begin h hf hN _ (by omega))

theorem Cb.fit_first {N : Int} (hN : 0 ≤ N) {p : Cb} (h : p.c.Fit N) (hl : ¬ 0 < p.c.lack) {b : Int} (hb0 : 0 ≤ b ∧ b ≤ 255) (h5 : b / 32 ≤ 5) (hr : b / 32 = 4 ∨ b / 32 = 5 → p.c.full = false) : (p.first b).2.Fit (N + 1) := by
  unfold Cb.first
  split
  · exact Cb.fit_told (p := { p with h := Hd.zero, begun := false }) hN rfl rfl h (by omega) (fun h9 => hr (by omega)) _
  split
  · refine ⟨h.mono (by omega), fun _ h9 => Bool.noConfusion h9, fun _ _ => ⟨⟨rfl, rfl, rfl, rfl, by simp only []; omega, ?_, by simp only []; exact ⟨by decide, Int.pow_pos (by decide)⟩⟩, h5⟩, fun _ _ => hr, fun _ h9 => absurd h9 hl⟩
    simp only []
    rcases (show b % 32 = 24 ∨ b % 32 = 25 ∨ b % 32 = 26 ∨ b % 32 = 27 by omega) with e | e | e | e <;> rw [e] <;> decide
  split
  · exact Cb.fit_told (p := { p with h := Hd.zero, begun := false }) hN rfl rfl h (by omega) (fun h9 => hr (by omega)) _
  · exact Cb.fit_fail (p := { p with h := ⟨true, false, false, b / 32, 0, 0, 2⟩, begun := true }) (by decide) (h.mono (by omega))

theorem Cb.fit_more {N : Int} (hN : 0 ≤ N) {p : Cb} (he : p.c.e = 0) (hb : p.begun = true) (h : p.Fit N) {b : Int} (hb0 : 0 ≤ b ∧ b ≤ 255) : (p.more b).2.Fit (N + 1) := by
  obtain ⟨hf, hm⟩ := h.head he hb
  have hl := hf.lack
  have hv := hf.v
  unfold Cb.more
  split
  · have e : (8 - (p.h.lack - 1)).toNat = (8 - p.h.lack).toNat + 1 := by omega
    refine ⟨h.core.mono (by omega), fun _ h9 => Bool.noConfusion h9, fun _ _ => ⟨⟨hf.begun, hf.end_, hf.open_, hf.e, hf.major, by simp only []; omega, ?_⟩, hm⟩, fun _ _ => h.room he hb, fun h8 h9 => absurd (h.sep h8 h9) (by rw [hb]; simp)⟩
    simp only []
    rw [e, Int.pow_succ]
    omega
  · exact Cb.fit_told (p := { p with h := Hd.zero, begun := false }) hN rfl rfl h.core (by omega) (fun h9 => h.room he hb (by have := hf.major; omega)) _

theorem Cb.fit_step {N : Int} (hN : 0 ≤ N) {p : Cb} (h : p.Fit N) {b : Int} (hb : 0 ≤ b ∧ b ≤ 255) : (p.step b).2.Fit (N + 1) := by
  unfold Cb.step
  by_cases he : p.c.e ≠ 0
  · rw [if_pos he]
    exact ⟨h.core.mono (by omega), h.none_, h.head, h.room, h.sep⟩
  rw [if_neg he]
  have he0 : p.c.e = 0 := by omega
  by_cases hl : 0 < p.c.lack
  · rw [if_pos hl]
    have hbg := h.sep he0 hl
    exact Cb.fit_put hbg (h.none_ he0 hbg) (Core.fit_byte h.core hl b)
  rw [if_neg hl]
  by_cases hbg : p.begun = true
  · rw [if_pos hbg]
    exact Cb.fit_more hN he0 hbg h hb
  rw [if_neg hbg]
  have hbf : p.begun = false := by simpa using hbg
  have hz := h.none_ he0 hbf
  have hfail : ∀ e : Int, e ≠ 0 → (p.put (p.c.fail e)).2.Fit (N + 1) := fun e hx => Cb.fit_fail hx (h.core.mono (by omega))
  by_cases hc : p.c.chunks = true
  · rw [if_pos hc]
    unfold Cb.chunk
    split
    · exact Cb.fit_put hbf hz (Core.fit_text h.core)
    by_cases h2 : b / 32 ≠ (if p.c.word = true then 3 else 2) ∨ b % 32 = 31
    · rw [if_pos h2]; exact hfail 2 (by decide)
    · rw [if_neg h2]
      have h3 : b / 32 = if p.c.word = true then 3 else 2 := by
        by_cases hx : b / 32 = if p.c.word = true then 3 else 2
        · exact hx
        · exact absurd (Or.inl hx) h2
      have h4 : b / 32 = 2 ∨ b / 32 = 3 := by
        cases hw : p.c.word <;> rw [hw] at h3 <;> simp at h3 <;> omega
      exact Cb.fit_first hN h.core hl hb (by omega) (fun _ => by omega)
  · rw [if_neg hc]
    unfold Cb.item
    split
    · exact hfail 2 (by decide)
    split
    · exact hfail 2 (by decide)
    split
    · exact Cb.fit_put hbf hz (Core.fit_brk h.core)
    split
    · exact hfail 8 (by decide)
    split
    · unfold Cb.simple
      split
      · exact Cb.fit_put hbf hz (Core.fit_value h.core _)
      split
      · exact Cb.fit_put hbf hz (Core.fit_value h.core _)
      split
      · exact hfail 6 (by decide)
      · exact hfail 8 (by decide)
    split
    · exact hfail 4 (by decide)
    · rename_i h1 h2 h3 h4 h5 h6
      refine Cb.fit_first hN h.core hl hb (by omega) (fun h9 => ?_)
      cases hfu : p.c.full with
      | false => rfl
      | true => exact absurd ⟨h9, hfu⟩ h6
end Go.Tru
