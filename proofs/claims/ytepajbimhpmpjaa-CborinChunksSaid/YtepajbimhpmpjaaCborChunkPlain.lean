/-
  CborinChunks, plain: a text in chunks.
-/
import Derived.Test.YtepajbimhpmpjaaCborRuns
namespace Go.Tru

/-- what is told of so many chunks behind acc bytes; 0: all may be -/
def chWant (word : Bool) : Nat → List (List UInt8) → Int
  | _, [] => 0
  | acc, s :: r => if 200 < acc + s.length then 5 else if word = true ∧ utf8 s = false then 9 else chWant word (acc + s.length) r

def chMajor (word : Bool) : Nat := if word then 3 else 2
def chBytes (word : Bool) (l : List (List UInt8)) : List UInt8 := l.flatMap fun s => headB (chMajor word) s.length ++ s

structure ChSt (word : Bool) (acc : List UInt8) (p : Cb) : Prop where
  e : p.c.e = 0
  lack : p.c.lack = 0
  begun : p.begun = false
  chunks : p.c.chunks = true
  word : p.c.word = word
  s : p.c.s = acc
  open_ : p.c.open_ = []
  done : p.c.done = false
  h : p.h = Hd.zero

theorem chunk_run {word : Bool} {acc s : List UInt8} {p : Cb} (hp : ChSt word acc p) (hs : s.length ≤ 100) (rest : List UInt8) :
    (200 < acc.length + s.length → p.run (headB (chMajor word) s.length ++ s ++ rest) = ([], 5)) ∧
    (¬ 200 < acc.length + s.length → word = true ∧ utf8 s = false → p.run (headB (chMajor word) s.length ++ s ++ rest) = ([], 9)) ∧
    (¬ 200 < acc.length + s.length → ¬ (word = true ∧ utf8 s = false) → ∃ p', ChSt word (acc ++ s) p' ∧ p.run (headB (chMajor word) s.length ++ s ++ rest) = p'.run rest) := by
  have h5 : chMajor word ≤ 5 := by unfold chMajor; split <;> decide
  have hl : ¬ 0 < p.c.lack := by rw [hp.lack]; decide
  have hh := head_run (p := p) (M := chMajor word) (v := s.length) h5 (by omega) hp.e hl (s ++ rest)
    (fun low hlow => chunk_first (by rw [hp.word]; rfl) hlow hp.e hl hp.begun hp.chunks)
  rw [← List.append_assoc] at hh
  rw [hh]
  have hd : decide (((chMajor word : Nat) : Int) = 3) = word := by cases word <;> rfl
  have ht : Cb.told { p with h := Hd.zero, begun := false } (chMajor word : Nat) (s.length : Nat) false = Cb.put { p with h := Hd.zero, begun := false } (p.c.length word s.length) := by
    unfold Cb.told
    rw [if_neg (by unfold chMajor; split <;> decide), if_pos (by unfold chMajor; split <;> decide), if_neg (by simp), hd]
  rw [ht]
  obtain ⟨k1, hk1⟩ : ∃ k1 : Core, k1 = { p.c with word := word, lack := (s.length : Nat), c := Chk.zero } := ⟨_, rfl⟩
  have ke : k1.e = 0 := by rw [hk1]; exact hp.e
  have kc : k1.chunks = true := by rw [hk1]; exact hp.chunks
  have ks : k1.s = acc := by rw [hk1]; exact hp.s
  have ko : k1.open_ = [] := by rw [hk1]; exact hp.open_
  have kd : k1.done = false := by rw [hk1]; exact hp.done
  have kw : k1.word = word := by rw [hk1]
  have kl : k1.lack = s.length := by rw [hk1]
  have kz : k1.c = Chk.zero := by rw [hk1]
  have hpl : (p.c.s.length : Int) = acc.length := by rw [hp.s]
  have hlen : p.c.length word s.length = if 200 < acc.length + s.length then p.c.fail 5 else ([], k1) := by
    unfold Core.length
    by_cases h2 : 200 < acc.length + s.length
    · rw [if_pos (by rw [hpl]; omega), if_pos h2]
    · rw [if_neg (by rw [hpl]; omega), if_neg h2, if_pos (Or.inr hp.chunks), hk1]
  rw [hlen]
  refine ⟨fun h2 => ?_, fun h2 h3 => ?_, fun h2 h3 => ?_⟩
  · rw [if_pos h2, cb_cont_err (by simp [Cb.put, Core.fail])]
    rfl
  · rw [if_neg h2]
    refine (cb_cont_none (p := { p with h := Hd.zero, begun := false, c := k1 }) ke _).trans ?_
    refine bad_run rest s [] _ ?_ ke (kw.trans h3.1) kl kz rfl h3.2
    intro h0
    rw [h0] at h3
    exact absurd h3.2 (by decide)
  · rw [if_neg h2]
    obtain ⟨p2, hp2⟩ : ∃ p2 : Cb, p2 = { p with h := Hd.zero, begun := false, c := k1 } := ⟨_, rfl⟩
    have hgo : Cb.cont (Cb.put { p with h := Hd.zero, begun := false } ([], k1)) (s ++ rest) = p2.run (s ++ rest) := by
      rw [hp2]; exact cb_cont_none (p := { p with h := Hd.zero, begun := false, c := k1 }) ke _
    have pc : p2.c = k1 := by rw [hp2]
    have pb : p2.begun = false := by rw [hp2]
    have ph : p2.h = Hd.zero := by rw [hp2]
    rw [hgo]
    by_cases h0 : s = []
    · subst h0
      exact ⟨p2, ⟨by rw [pc, ke], by rw [pc, kl]; rfl, pb, by rw [pc, kc], by rw [pc, kw], by rw [pc, ks, List.append_nil], by rw [pc, ko], by rw [pc, kd], ph⟩, rfl⟩
    · obtain ⟨c', hc'⟩ := bytes_run word rest s (fun hw => by
        cases hu : utf8 s with
        | true => exact hu
        | false => exact absurd ⟨hw, hu⟩ h3) s [] acc p2 rfl h0 (by rw [pc, ke]) (by rw [pc, kw]) (by rw [pc, kl]) (by rw [pc, ks, List.append_nil]) (fun _ => by rw [pc, kz]; rfl)
      rw [hc', if_pos (by rw [pc, kc])]
      refine ⟨_, ?_, rfl⟩
      exact ⟨by rw [← ke, ← pc], rfl, pb, by rw [← kc, ← pc], by rw [← kw, ← pc], rfl, by rw [← ko, ← pc], by rw [← kd, ← pc], ph⟩

theorem chunks_run {word : Bool} (rest : List UInt8) : ∀ (l : List (List UInt8)) (acc : List UInt8) (p : Cb), ChSt word acc p → (∀ s ∈ l, s.length ≤ 100) →
    (chWant word acc.length l ≠ 0 → p.run (chBytes word l ++ rest) = ([], chWant word acc.length l)) ∧
    (chWant word acc.length l = 0 → ∃ p', ChSt word (acc ++ l.flatten) p' ∧ p.run (chBytes word l ++ rest) = p'.run rest)
  | [], acc, p, hp, _ => ⟨fun h => absurd rfl h, fun _ => ⟨p, by simpa using hp, rfl⟩⟩
  | s :: r, acc, p, hp, hs => by
    obtain ⟨h1, h2, h3⟩ := chunk_run hp (hs s (List.mem_cons_self ..)) (chBytes word r ++ rest)
    have hb : chBytes word (s :: r) ++ rest = headB (chMajor word) s.length ++ s ++ (chBytes word r ++ rest) := by
      unfold chBytes
      rw [List.flatMap_cons, List.append_assoc]
    rw [hb]
    unfold chWant
    by_cases hl : 200 < acc.length + s.length
    · rw [if_pos hl]
      exact ⟨fun _ => h1 hl, fun h => absurd h (by decide)⟩
    rw [if_neg hl]
    by_cases hu : word = true ∧ utf8 s = false
    · rw [if_pos hu]
      exact ⟨fun _ => h2 hl hu, fun h => absurd h (by decide)⟩
    rw [if_neg hu]
    obtain ⟨p', hp', he⟩ := h3 hl hu
    have ih := chunks_run rest r (acc ++ s) p' hp' (fun x hx => hs x (List.mem_cons_of_mem _ hx))
    rw [List.length_append] at ih
    rw [he]
    refine ⟨ih.1, fun h => ?_⟩
    obtain ⟨p2, hp2, he2⟩ := ih.2 h
    exact ⟨p2, by rw [List.flatten_cons, ← List.append_assoc]; exact hp2, he2⟩

theorem chunks_open (word : Bool) : ∃ p, ChSt word [] p ∧ ∀ rest, cborAll (UInt8.ofNat (32 * chMajor word + 31) :: rest) 2 = p.run rest := by
  cases word
  · exact ⟨{ Cb.new 2 with c := { Core.new 2 with chunks := true, word := false } }, ⟨rfl, rfl, rfl, rfl, rfl, rfl, rfl, rfl, rfl⟩, fun rest => by
      unfold cborAll
      rw [if_neg (by omega), cb_run_cons]
      exact cb_cont_none rfl rest⟩
  · exact ⟨{ Cb.new 2 with c := { Core.new 2 with chunks := true, word := true } }, ⟨rfl, rfl, rfl, rfl, rfl, rfl, rfl, rfl, rfl⟩, fun rest => by
      unfold cborAll
      rw [if_neg (by omega), cb_run_cons]
      exact cb_cont_none rfl rest⟩

theorem chunks_end {word : Bool} {acc : List UInt8} {p : Cb} (hp : ChSt word acc p) : p.run [255] = ([wordEv word acc], 0) ∧ p.run [] = ([], 3) := by
  refine ⟨?_, ?_⟩
  · rw [cb_run_cons]
    have hs : p.step (((255 : UInt8).toNat : Nat) : Int) = p.put p.c.text := by
      unfold Cb.step
      rw [if_neg (by simp [hp.e]), if_neg (by rw [hp.lack]; decide), if_neg (by simp [hp.begun]), if_pos hp.chunks]
      rfl
    rw [hs]
    unfold Core.text Core.value
    simp only [hp.open_, hp.word, hp.s]
    rw [cb_cont_ok (by exact hp.e)]
    simp [Cb.put, Cb.run, Core.over, closeUp, hp.e, hp.done]
  · simp [Cb.run, Core.over, hp.e, hp.done]

/-- the whole of it -/
theorem chunks_all (word : Bool) (l : List (List UInt8)) (hs : ∀ s ∈ l, s.length ≤ 100) :
    (chWant word 0 l ≠ 0 → ∀ rest, cborAll (UInt8.ofNat (32 * chMajor word + 31) :: (chBytes word l ++ rest)) 2 = ([], chWant word 0 l)) ∧
    (chWant word 0 l = 0 → cborAll (UInt8.ofNat (32 * chMajor word + 31) :: (chBytes word l ++ [255])) 2 = ([wordEv word l.flatten], 0) ∧ cborAll (UInt8.ofNat (32 * chMajor word + 31) :: (chBytes word l ++ [])) 2 = ([], 3)) := by
  obtain ⟨p, hp, hall⟩ := chunks_open word
  refine ⟨fun h rest => ?_, fun h => ⟨?_, ?_⟩⟩
  · rw [hall]
    exact (chunks_run rest l [] p hp hs).1 h
  · obtain ⟨p', hp', he⟩ := (chunks_run [255] l [] p hp hs).2 h
    rw [hall, he, (chunks_end hp').1, List.nil_append]
  · obtain ⟨p', hp', he⟩ := (chunks_run [] l [] p hp hs).2 h
    rw [hall, he, (chunks_end hp').2]
end Go.Tru
