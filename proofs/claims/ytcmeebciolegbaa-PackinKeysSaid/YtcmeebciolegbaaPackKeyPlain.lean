/-
  PackinKeys, plain: a map of one part, its key in each form.
-/
import Derived.Test.YtcmeebciolegbaaPackRuns
namespace Go.Tru

/-- behind the map's first byte -/
def keySt : Pk := ⟨⟨1, [⟨true, 1, 0⟩], false, 0, false, false, 0, [], Chk.zero⟩, 0, 0, 0, 0⟩
theorem key_open : (Pk.new 1).step 129 = ([evMap 1], keySt) := by rfl

/-- behind the key -/
theorem key_value {q : Pk} (ho : q.c.open_ = [⟨true, 1, 1⟩]) (hdn : q.c.done = false) (he : q.c.e = 0) (hl : q.c.lack = 0) (hk : q.kind = 0) (v : UInt8) (hv : (v.toNat : Int) < 128) :
    q.run [v] = ([evInt false v.toNat, evEnd], 0) := by
  have hs : q.step v.toNat = q.put (q.c.value (evInt false v.toNat)) := by
    unfold Pk.step
    rw [if_neg (by simp [he]), if_neg (by rw [hl]; decide), if_neg (by simp [hk])]
    unfold Pk.item
    have hak : q.c.atKey = false := by unfold Core.atKey; rw [ho]; rfl
    have hc : isContB v.toNat = false := by unfold isContB; exact decide_eq_false (by omega)
    rw [if_neg (by simp [hdn]; omega), if_neg (by simp [hak]), if_neg (by omega), if_neg (by omega), if_neg (by simp [hc]), if_pos hv]
  rw [run_cons, hs]
  unfold Core.value
  rw [ho]
  have hcl : closeUp [(⟨true, 1, 1⟩ : Cont)] = ([evEnd], [], true) := by rfl
  rw [hcl, cont_ok (by exact he)]
  simp [Pk.put, Pk.run, Core.over, he]

/-- the key's length is there -/
theorem key_len {q : Pk} (hc : q.c = keySt.c) (hk : q.kind = 0) (key : List UInt8) (hl : key.length ≤ 100) (hu : (Chk.zero.run key).whole = true) (v : UInt8) (hv : (v.toNat : Int) < 128) :
    Pk.cont (q.put (q.c.length true key.length)) (key ++ [v]) = ([evText (bytesOf key), evInt false v.toNat, evEnd], 0) := by
  have hend : ∀ c' : Chk, Pk.cont (q.put (Core.text { q.c with s := key, lack := 0, c := c', word := true })) [v] = ([evText (bytesOf key), evInt false v.toNat, evEnd], 0) := by
    intro c'
    have ht : Core.text { q.c with s := key, lack := 0, c := c', word := true } = ([evText (bytesOf key)], { q.c with open_ := [⟨true, 1, 1⟩], s := [], lack := 0, c := c', word := true, chunks := false }) := by
      unfold Core.text Core.value
      simp only [hc, keySt]
      rfl
    rw [ht, cont_ok (by simp only [Pk.put, hc]; rfl)]
    have := key_value (q := (q.put ([evText (bytesOf key)], { q.c with open_ := [⟨true, 1, 1⟩], s := [], lack := 0, c := c', word := true, chunks := false })).2) rfl (by simp only [Pk.put, hc]; rfl) (by simp only [Pk.put, hc]; rfl) rfl hk v hv
    rw [this]
    rfl
  have hlen : q.c.length true key.length = if 0 < (key.length : Int) then ([], { q.c with word := true, lack := (key.length : Nat), c := Chk.zero }) else Core.text { q.c with word := true, lack := (key.length : Nat), c := Chk.zero } := by
    unfold Core.length
    rw [if_neg (by rw [hc]; simp [keySt]; omega)]
    have hch : q.c.chunks = false := by rw [hc]; rfl
    simp only [hch, Bool.false_eq_true, or_false]
  rw [hlen]
  by_cases h0 : key = []
  · subst h0
    rw [if_neg (by decide)]
    have e : ({ q.c with word := true, lack := (([] : List UInt8).length : Nat), c := Chk.zero } : Core) = { q.c with s := [], lack := 0, c := Chk.zero, word := true } := by rw [hc]; rfl
    rw [List.nil_append, e]
    exact hend Chk.zero
  · have hpos : 0 < key.length := List.length_pos_iff.2 h0
    rw [if_pos (by omega)]
    refine (cont_none (p := { q with c := { q.c with word := true, lack := (key.length : Nat), c := Chk.zero } }) (by show q.c.e = 0; rw [hc]; rfl) _).trans ?_
    obtain ⟨c', h⟩ := word_run true key [v] (fun _ => hu) key [] { q with c := { q.c with word := true, lack := (key.length : Nat), c := Chk.zero } } rfl h0 (by show q.c.e = 0; rw [hc]; rfl) rfl (by show q.c.chunks = false; rw [hc]; rfl) rfl (by show q.c.s = []; rw [hc]; rfl) (fun _ => rfl)
    rw [h]
    exact hend c'

theorem key_all (hd key : List UInt8) (v : UInt8)
    (h : keySt.run (hd ++ (key ++ [v])) = ([evText (bytesOf key), evInt false v.toNat, evEnd], 0)) :
    packAll (129 :: (hd ++ key) ++ [v]) 1 = ([evMap 1, evText (bytesOf key), evInt false v.toNat, evEnd], 0) := by
  unfold packAll
  rw [if_neg (by omega), List.cons_append, List.append_assoc, run_cons]
  have e : (Pk.new 1).step ((129 : UInt8).toNat : Nat) = ([evMap 1], keySt) := key_open
  rw [e, cont_ok rfl, h]
  rfl

theorem key_direct (key : List UInt8) (hl : key.length ≤ 31) (hu : (Chk.zero.run key).whole = true) (v : UInt8) (hv : (v.toNat : Int) < 128) :
    keySt.run ([UInt8.ofNat (160 + key.length)] ++ (key ++ [v])) = ([evText (bytesOf key), evInt false v.toNat, evEnd], 0) := by
  have hb : ((UInt8.ofNat (160 + key.length)).toNat : Int) = 160 + (key.length : Int) := by
    have : (UInt8.ofNat (160 + key.length)).toNat = 160 + key.length := by simp; omega
    rw [this]; simp
  obtain ⟨b, hbb⟩ : ∃ b : Int, 160 + (key.length : Int) = b := ⟨_, rfl⟩
  have hs : keySt.step b = keySt.put (keySt.c.length true key.length) := by
    unfold Pk.step
    rw [if_neg (by simp [keySt]), if_neg (by simp [keySt]), if_neg (by simp [keySt])]
    unfold Pk.item
    have ht : isTextB b = true := by unfold isTextB; exact decide_eq_true (by omega)
    have hc : isContB b = false := by unfold isContB; exact decide_eq_false (by omega)
    have hm : b % 32 = key.length := by omega
    rw [if_neg (by simp [keySt]; omega), if_neg (by simp [ht]), if_neg (by omega), if_neg (by omega), if_neg (by simp [hc]), if_neg (by omega), if_neg (by omega), if_neg (by omega), if_pos (by omega), hm]
  rw [List.singleton_append, run_cons, hb, hbb, hs]
  exact key_len rfl rfl key (by omega) hu v hv

theorem key_long (f n : Nat) (hf : f < 3) (hn : n + 1 = 2 ^ f) (key : List UInt8) (hl : key.length ≤ 31) (hu : (Chk.zero.run key).whole = true) (v : UInt8) (hv : (v.toNat : Int) < 128) :
    keySt.run ((UInt8.ofNat (217 + f) :: bigB key.length (n + 1)) ++ (key ++ [v])) = ([evText (bytesOf key), evInt false v.toNat, evEnd], 0) := by
  have hb : ((UInt8.ofNat (217 + f)).toNat : Int) = 217 + (f : Int) := by
    have : (UInt8.ofNat (217 + f)).toNat = 217 + f := by simp; omega
    rw [this]; simp
  have hs : keySt.step (217 + (f : Int)) = keySt.follows 4 ((n + 1 : Nat) : Int) := by
    unfold Pk.step
    rw [if_neg (by simp [keySt]), if_neg (by simp [keySt]), if_neg (by simp [keySt])]
    unfold Pk.item
    have ht : isTextB (217 + (f : Int)) = true := by unfold isTextB; exact decide_eq_true (by omega)
    have hc : isContB (217 + (f : Int)) = false := by unfold isContB; exact decide_eq_false (by omega)
    rw [if_neg (by simp [keySt]; omega), if_neg (by simp [ht]), if_neg (by omega), if_neg (by omega), if_neg (by simp [hc]), if_neg (by omega), if_neg (by omega), if_neg (by omega), if_neg (by omega), if_neg (by omega), if_neg (by omega)]
    unfold Pk.long
    rw [if_neg (by omega), if_neg (by omega), if_neg (by omega), if_pos (by omega)]
    have e : (2 : Int) ^ (217 + (f : Int) - 217).toNat = ((n + 1 : Nat) : Int) := by
      rw [hn, show (217 + (f : Int) - 217).toNat = f by omega]
      simp
    rw [e]
  rw [List.cons_append, run_cons, hb, hs]
  have hv0 : key.length / 256 ^ (n + 1) = 0 := by
    apply Nat.div_eq_of_lt
    have : 256 ^ 1 ≤ 256 ^ (n + 1) := Nat.pow_le_pow_right (by decide) (by omega)
    omega
  refine (cont_none (p := (keySt.follows 4 ((n + 1 : Nat) : Int)).2) rfl _).trans ?_
  rw [num_run key.length (key ++ [v]) n (keySt.follows 4 ((n + 1 : Nat) : Int)).2 rfl (by simp [Pk.follows, keySt]) (by simp [Pk.follows]) (by simp [Pk.follows]) (by rw [hv0]; rfl)]
  unfold Pk.told
  simp only [Pk.follows]
  rw [if_neg (by decide), if_neg (by decide), if_pos (Or.inr trivial), decide_true]
  exact key_len (q := { c := keySt.c, kind := 0, lack := 0, all := ((n + 1 : Nat) : Int), v := ((key.length : Nat) : Int) }) rfl rfl key (by omega) hu v hv
end Go.Tru
