/-
  StageLimits, plain: one round.
-/
import Derived.Test.YtefdemebmibonaaStageLimPlain
namespace Go.Tru

/-- the stage behind the first k parts, and how many it has let go -/
def LimK (L : Int) (ds : List Ev) (k : Nat) (tv : Int) (s : St) : Prop :=
  s.Fit ∧ ((k = 0 ∧ s = St.new L ∧ tv = 0) ∨ (1 ≤ k ∧ k < ds.length ∧ LimSt L ds k s ∧ tv = 0) ∨ (k = ds.length ∧ tv = ds.length ∧ sizes (ds.take (ds.length - 1)) ≤ L))

theorem lim_round {L less : Int} (hL : 0 ≤ L ∧ L ≤ 2000) {p0 : Ev} {l ds : List Ev} {m : Nat} (hds : ds = p0 :: (l ++ [evEnd])) (ho : isOpen p0 = true) (hlo : p0.loose = true) (hl : Items m l) (hcl : ∀ p ∈ ds, Clear p)
    (hneed : L = sizes (ds.take (ds.length - 1)) - less) {k : Nat} {tv : Int} {s : St} (h : LimK L ds k tv s) (hk : k < ds.length) :
    ∃ out t, s.step ds[k] = (out, t.e, t) ∧ ((out = [] ∧ t = stBad ∧ 0 < less ∧ tv = 0) ∨ (t.e = 0 ∧ t.size ≤ L ∧ out.length ≤ ds.length ∧ LimK L ds (k + 1) (tv + out.length) t)) := by
  have hlen : ds.length = l.length + 2 := by rw [hds]; simp
  have hcont : ∀ i, 0 < i → i ≤ l.length + 1 → 1 ≤ net (ds.take i) := fun i h0 hi => by rw [hds]; exact cont_pre ho hl h0 hi
  have hne : net [evEnd] = -1 := rfl
  have hnet0 : net ds = 0 := by rw [hds]; simp only [net, ho, if_true, net_append, items_net hl]; rfl
  obtain ⟨hfit, hcase⟩ := h
  have hck := hcl _ (List.getElem_mem hk)
  rcases hcase with ⟨rfl, rfl, rfl⟩ | ⟨h1, _, hs, rfl⟩ | ⟨h1, _, _⟩
  · have hd0 : ds[0] = p0 := by simp [hds]
    obtain ⟨t, e1, h2⟩ := lim_first hL hk hd0 ho hlo (hd0 ▸ hck)
    refine ⟨[], t, by rw [hd0]; exact e1, ?_⟩
    rcases h2 with ⟨h2, rfl⟩ | ⟨h2, h3, h4⟩
    · have := sizes_mono ds (i := 1) (j := ds.length - 1) (by omega)
      exact Or.inl ⟨rfl, rfl, by omega, rfl⟩
    · refine Or.inr ⟨h3, by rw [h4.size]; omega, by simp, h4.fit, Or.inr (Or.inl ⟨by omega, by omega, h4, by simp⟩)⟩
  · by_cases hk2 : k + 1 < ds.length
    · obtain ⟨t, e1, h2⟩ := lim_mid hs hk rfl (hcont k (by omega) (by omega)) (hcont (k + 1) (by omega) (by omega)) hck
      refine ⟨[], t, e1, ?_⟩
      rcases h2 with ⟨h2, rfl⟩ | ⟨h2, h3, h4⟩
      · have := sizes_mono ds (i := k + 1) (j := ds.length - 1) (by omega)
        exact Or.inl ⟨rfl, rfl, by omega, rfl⟩
      · refine Or.inr ⟨h3, by rw [h4.size]; omega, by simp, h4.fit, Or.inr (Or.inl ⟨by omega, hk2, h4, by simp⟩)⟩
    · have hke : k = l.length + 1 := by omega
      have hde : ds[k] = evEnd := by simp [hds, hke]
      have hn1 := net_snoc hk
      rw [List.take_of_length_le (by omega), hnet0, hde] at hn1
      obtain ⟨out, e1, h2⟩ := lim_last hs (by omega)
      have hfit2 := fit_step hfit hck
      rw [hde, e1] at hfit2
      refine ⟨out, { s with held := [], size := 0, open_ := [] }, by rw [hde, e1]; simp only [hs.e], Or.inr ⟨hs.e, by simp only []; omega, by omega, hfit2, Or.inr (Or.inr ⟨by omega, by omega, ?_⟩)⟩⟩
      have h3 := hfit.size.2
      rw [hs.lim, hs.size, show k = ds.length - 1 by omega] at h3
      exact h3
  · omega
end Go.Tru
