/-
  packin's Parser as plain data.
-/
import Derived.Test.YtmcbdkhlbmhfeaaCoreModel
namespace Go.Tru

structure Pk where
  c : Core
  kind : Int
  lack : Int
  all : Int
  v : Int

def Pk.new (depth : Int) : Pk := ⟨Core.new depth, 0, 0, 0, 0⟩
def Pk.put (p : Pk) (t : List Ev × Core) : List Ev × Pk := (t.1, { p with c := t.2 })
def Pk.count (p : Pk) (pairs : Bool) (n : Int) : List Ev × Pk := if 1000000 < n then p.put (p.c.fail 7) else p.put (p.c.begin pairs n)
def Pk.follows (p : Pk) (kind n : Int) : List Ev × Pk := ([], { p with kind := kind, lack := n, all := n, v := 0 })

/-- a number of two's complement -/
def signedEv (all v : Int) : Ev :=
  if v < 2 ^ (8 * all.toNat - 1) then evInt false v else evInt true (2 ^ (8 * all.toNat) - 1 - v)

/-- the number is there -/
def Pk.told (p : Pk) (kind all v : Int) : List Ev × Pk :=
  if kind = 1 then p.put (p.c.value (evInt false v))
  else if kind = 2 then p.put (p.c.value (signedEv all v))
  else if kind = 3 ∨ kind = 4 then p.put (p.c.length (decide (kind = 4)) v)
  else p.count (decide (kind = 6)) v

def Pk.number (p : Pk) (b : Int) : List Ev × Pk :=
  if 0 < p.lack - 1 then ([], { p with v := p.v * 256 + b, lack := p.lack - 1 })
  else Pk.told { p with v := p.v * 256 + b, lack := p.lack - 1, kind := 0 } p.kind p.all (p.v * 256 + b)

def isTextB (b : Int) : Bool := decide (160 ≤ b ∧ b ≤ 191 ∨ 217 ≤ b ∧ b ≤ 219)
def isContB (b : Int) : Bool := decide (128 ≤ b ∧ b ≤ 159 ∨ 220 ≤ b ∧ b ≤ 223)

def Pk.long (p : Pk) (b : Int) : List Ev × Pk :=
  if b ≤ 198 then p.follows 3 (2 ^ (b - 196).toNat)
  else if b ≤ 207 then p.follows 1 (2 ^ (b - 204).toNat)
  else if b ≤ 211 then p.follows 2 (2 ^ (b - 208).toNat)
  else if b ≤ 219 then p.follows 4 (2 ^ (b - 217).toNat)
  else if b ≤ 221 then p.follows 5 (2 * 2 ^ (b - 220).toNat)
  else p.follows 6 (2 * 2 ^ (b - 222).toNat)

def Pk.item (p : Pk) (b : Int) : List Ev × Pk :=
  if p.c.done = true ∨ b = 193 then p.put (p.c.fail 2)
  else if p.c.atKey = true ∧ isTextB b = false then p.put (p.c.fail 8)
  else if 199 ≤ b ∧ b ≤ 201 ∨ 212 ≤ b ∧ b ≤ 216 then p.put (p.c.fail 8)
  else if b = 202 ∨ b = 203 then p.put (p.c.fail 6)
  else if isContB b = true ∧ p.c.full = true then p.put (p.c.fail 4)
  else if b < 128 then p.put (p.c.value (evInt false b))
  else if 224 ≤ b then p.put (p.c.value (evInt true (255 - b)))
  else if b < 160 then p.count (decide (b < 144)) (b % 16)
  else if b < 192 then p.put (p.c.length true (b % 32))
  else if b = 192 then p.put (p.c.value evNull)
  else if b ≤ 195 then p.put (p.c.value (evBool (decide (b = 195))))
  else p.long b

def Pk.step (p : Pk) (b : Int) : List Ev × Pk :=
  if p.c.e ≠ 0 then ([], p)
  else if 0 < p.c.lack then p.put (p.c.byte b)
  else if p.kind ≠ 0 then p.number b
  else p.item b

/-- all parts of bytes -/
def Pk.run : Pk → List UInt8 → List Ev × Int
  | p, [] => ([], p.c.over)
  | p, b :: r =>
    if (p.step b.toNat).2.c.e ≠ 0 then ((p.step b.toNat).1, (p.step b.toNat).2.c.e)
    else ((p.step b.toNat).1 ++ (Pk.run (p.step b.toNat).2 r).1, (Pk.run (p.step b.toNat).2 r).2)

def packAll (s : List UInt8) (depth : Int) : List Ev × Int := if depth < 1 ∨ 16 < depth then ([], 1) else (Pk.new depth).run s

structure Pk.Fit (N : Int) (p : Pk) : Prop where
  core : p.c.Fit N
  kind : 0 ≤ p.kind ∧ p.kind ≤ 6
  num : p.kind ≠ 0 → 1 ≤ p.lack ∧ p.lack ≤ p.all ∧ (p.all = 1 ∨ p.all = 2 ∨ p.all = 4 ∨ p.all = 8) ∧ 0 ≤ p.v ∧ p.v < 256 ^ (p.all - p.lack).toNat
  room : p.kind = 5 ∨ p.kind = 6 → p.c.full = false
  sep : 0 < p.c.lack → p.kind = 0

theorem Pk.fit_new {d N : Int} (h : 1 ≤ d ∧ d ≤ 16) : (Pk.new d).Fit N := ⟨Core.fit_new h, by simp [Pk.new], by simp [Pk.new], by simp [Pk.new], by simp [Pk.new]⟩

theorem Pk.fit_put0 {N : Int} {p : Pk} {t : List Ev × Core} (hk : p.kind = 0) (h : t.2.Fit N) : (p.put t).2.Fit N :=
  ⟨h, by simp only [Pk.put]; omega, by simp only [Pk.put]; omega, by simp only [Pk.put]; omega, fun _ => hk⟩

theorem Pk.fit_count {N : Int} (hN : 0 ≤ N) {p : Pk} (hk : p.kind = 0) (h : p.c.Fit N) (hf : p.c.full = false) (pairs : Bool) {n : Int} (hn : 0 ≤ n) : (p.count pairs n).2.Fit (N + 1) := by
  unfold Pk.count
  split
  · exact Pk.fit_put0 hk ((Core.fit_fail h 7).mono (by omega))
  · exact Pk.fit_put0 hk (Core.fit_begin h hf hN pairs (by omega))

theorem Pk.fit_follows {N : Int} {p : Pk} (h : p.c.Fit N) {kind n : Int} (hk : 0 ≤ kind ∧ kind ≤ 6) (hn : n = 1 ∨ n = 2 ∨ n = 4 ∨ n = 8) (hr : kind = 5 ∨ kind = 6 → p.c.full = false) (hl : ¬ 0 < p.c.lack) : (p.follows kind n).2.Fit (N + 1) :=
  ⟨h.mono (by omega), hk, fun _ => by simp only [Pk.follows, Int.sub_self]; refine ⟨by omega, by omega, hn, by omega, by decide⟩, hr, fun h => absurd h hl⟩

theorem signed_kind (all v : Int) : (∃ b m, signedEv all v = evInt b m) := by unfold signedEv; split <;> exact ⟨_, _, rfl⟩

theorem Pk.fit_number {N : Int} (hN : 0 ≤ N) {p : Pk} (h : p.Fit N) (hk : p.kind ≠ 0) {b : Int} (hb : 0 ≤ b ∧ b ≤ 255) : (p.number b).2.Fit (N + 1) := by
  obtain ⟨h1, h2, h3, h4, h5⟩ := h.num hk
  have hkk := h.kind
  unfold Pk.number
  split
  · rename_i hl
    have e : (p.all - (p.lack - 1)).toNat = (p.all - p.lack).toNat + 1 := by omega
    refine ⟨h.core.mono (by omega), h.kind, fun _ => ⟨by simp only []; omega, by simp only []; omega, h3, by simp only []; omega, ?_⟩, h.room, fun h9 => absurd (h.sep h9) hk⟩
    simp only []
    rw [e, Int.pow_succ]
    omega
  · unfold Pk.told
    split
    · exact Pk.fit_put0 rfl (Core.fit_value h.core _)
    · split
      · exact Pk.fit_put0 rfl (Core.fit_value h.core _)
      · split
        · exact Pk.fit_put0 rfl (Core.fit_length h.core _ (by omega))
        · exact Pk.fit_count (p := { p with v := p.v * 256 + b, lack := p.lack - 1, kind := 0 }) hN rfl h.core (h.room (by omega)) _ (by omega)

theorem Pk.fit_item {N : Int} (hN : 0 ≤ N) {p : Pk} (h : p.Fit N) (hk : p.kind = 0) (hl : ¬ 0 < p.c.lack) {b : Int} (hb : 0 ≤ b ∧ b ≤ 255) : (p.item b).2.Fit (N + 1) := by
  have hfail : ∀ e, (p.put (p.c.fail e)).2.Fit (N + 1) := fun e => Pk.fit_put0 hk ((Core.fit_fail h.core e).mono (by omega))
  have hval : ∀ x, (p.put (p.c.value x)).2.Fit (N + 1) := fun x => Pk.fit_put0 hk (Core.fit_value h.core x)
  unfold Pk.item
  split
  · exact hfail 2
  split
  · exact hfail 8
  split
  · exact hfail 8
  split
  · exact hfail 6
  split
  · exact hfail 4
  rename_i h1 h2 h3 h4 h5
  have hroom : isContB b = true → p.c.full = false := fun hc => by
    cases hf : p.c.full with
    | false => rfl
    | true => exact absurd ⟨hc, hf⟩ h5
  split
  · exact hval _
  split
  · exact hval _
  split
  · exact Pk.fit_count hN hk h.core (hroom (by simp only [isContB, decide_eq_true_eq]; omega)) _ (by omega)
  split
  · exact Pk.fit_put0 hk (Core.fit_length h.core _ (by omega))
  split
  · exact hval _
  split
  · exact hval _
  have hpw : ∀ j : Nat, j ≤ 3 → ((2 : Int) ^ j = 1 ∨ (2 : Int) ^ j = 2 ∨ (2 : Int) ^ j = 4 ∨ (2 : Int) ^ j = 8) := by
    intro j hj
    rcases (show j = 0 ∨ j = 1 ∨ j = 2 ∨ j = 3 by omega) with rfl | rfl | rfl | rfl <;> simp
  have hpw2 : ∀ j : Nat, j ≤ 1 → (2 * (2 : Int) ^ j = 1 ∨ 2 * (2 : Int) ^ j = 2 ∨ 2 * (2 : Int) ^ j = 4 ∨ 2 * (2 : Int) ^ j = 8) := by
    intro j hj
    rcases (show j = 0 ∨ j = 1 by omega) with rfl | rfl <;> simp
  unfold Pk.long
  split
  · exact Pk.fit_follows h.core (by omega) (hpw _ (by omega)) (by omega) hl
  split
  · exact Pk.fit_follows h.core (by omega) (hpw _ (by omega)) (by omega) hl
  split
  · exact Pk.fit_follows h.core (by omega) (hpw _ (by omega)) (by omega) hl
  split
  · exact Pk.fit_follows h.core (by omega) (hpw _ (by omega)) (by omega) hl
  split
  · exact Pk.fit_follows h.core (by omega) (hpw2 _ (by omega)) (fun _ => hroom (by simp only [isContB, decide_eq_true_eq]; omega)) hl
  · exact Pk.fit_follows h.core (by omega) (hpw2 _ (by omega)) (fun _ => hroom (by simp only [isContB, decide_eq_true_eq]; omega)) hl

theorem Pk.fit_step {N : Int} (hN : 0 ≤ N) {p : Pk} (h : p.Fit N) {b : Int} (hb : 0 ≤ b ∧ b ≤ 255) : (p.step b).2.Fit (N + 1) := by
  unfold Pk.step
  split
  · exact ⟨h.core.mono (by omega), h.kind, h.num, h.room, h.sep⟩
  split
  · rename_i hl
    exact Pk.fit_put0 (h.sep hl) (Core.fit_byte h.core hl b)
  rename_i hl
  split
  · rename_i hk
    exact Pk.fit_number hN h hk hb
  · rename_i hk
    exact Pk.fit_item hN h (by omega) hl hb
end Go.Tru
