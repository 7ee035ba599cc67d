/-
  packin.All: its contract.
-/
import Derived.Test.YtmcbdkhlbmhfeaaPackRun
import Derived.Test.YtmcbdkhlbmhfeaaPackStep
import Derived.Test.YtmcbdkhlbmhfeaaEvRow
namespace Go.Tru
theorem pkRun_step {p : Pk} {l : List UInt8} {k : Nat} (hk : k < l.length) (h : (p.step l[k].toNat).2.c.e = 0) : p.run (l.drop k) = ((p.step l[k].toNat).1 ++ ((p.step l[k].toNat).2.run (l.drop (k + 1))).1, ((p.step l[k].toNat).2.run (l.drop (k + 1))).2) := by
  rw [List.drop_eq_getElem_cons hk, Pk.run, if_neg (by simp [h])]
theorem pkRun_err {p : Pk} {l : List UInt8} {k : Nat} (hk : k < l.length) (h : (p.step l[k].toNat).2.c.e ≠ 0) : p.run (l.drop k) = ((p.step l[k].toNat).1, (p.step l[k].toNat).2.c.e) := by
  rw [List.drop_eq_getElem_cons hk, Pk.run, if_pos h]
end Go.Tru
namespace Go.Proofs.Ytmcbdkhlbmhfeaa
open Go.RowKit Go.Tru

theorem new_evc (e : Ev) {w : World} {t : TypeId} {g : Nat} (hg : g = w.heap.size) : ∀ (j : Nat) (u : Value), ([e].flatMap Ev.cells)[j]? = some u → (w.alloc (.cells #[.int .i64 e.kind, .bool e.yes, .int .u64 e.mag, .string e.text, .int .i64 e.count] t)).cell? ((⟨g, 0, none⟩ : Addr).add j) = some u :=
  cells_new ([e].flatMap Ev.cells) hg

def PAllRel (s : List UInt8) (tot : List Ev × Int) (B : Nat) (w : World) (v i : Value) (wr : World) : Prop :=
  ∃ (k : Nat) (acc : List Ev) (p : Pk) (ov sv : Value), k ≤ s.length ∧ i = .int .i64 k ∧ OwnsEvs wr B v acc ∧ PkIn wr B B ov sv p ∧ p.Fit k ∧ p.c.e = 0 ∧ tot = (acc ++ (p.run (s.drop k)).1, (p.run (s.drop k)).2) ∧ acc.length ≤ 18 * k ∧ Keeps [] w wr ∧ (∀ i ∈ blks v, i ∉ coBlks B ov sv)

def PInRel (base : Nat) (acc l : List Ev) (v0 : Value) (w2 : World) (v i : Value) (w' : World) : Prop :=
  ∃ (j : Nat) (cur : List Ev), j ≤ l.length ∧ i = .int .i64 j ∧ cur = acc ++ l.take j ∧ OwnsEvs w' base v cur ∧ Keeps (blks v0) w2 w' ∧ ∀ i ∈ blks v, i ∈ blks v0 ∨ w2.heap.size ≤ i

theorem _root_.Go.Tru.AnysIn.keepsF {F : List Nat} {w w' : World} {o : Option Addr} {n c : Nat} {ps : List Ev} (h : AnysIn w o n c ps) (k : Keeps F w w') (hF : ∀ b off, o = some ⟨b, off, none⟩ → b ∉ F) : AnysIn w' o n c ps :=
  ⟨h.len, h.room, h.most, h.at_.imp id fun ⟨b, off, h1, h2, h3⟩ => ⟨b, off, h1, Nat.lt_of_lt_of_le h2 k.size, fun i p hp => k.cell (h3 i p hp) (hF b off h1)⟩⟩

set_option maxHeartbeats 3200000 in
set_option maxRecDepth 100000 in
theorem packAll_any (s : ByteArray) (d : Int) (w : World) (hs : s.size ≤ 1000000) :
    Calls Try.prog 10 #[.string s, .int .i64 d] w fun r w' => ∃ v, r = .returned (.tuple #[v, .int .i64 (packAll s.data.toList d).2]) ∧ OwnsEvs w' w.heap.size v (packAll s.data.toList d).1 ∧ Keeps [] w w' := by
  have hll : s.data.toList.length = s.size := by rw [Array.length_toList]; rfl
  by_cases hd : d < 1 ∨ 16 < d
  · rw [show packAll s.data.toList d = ([], 1) by unfold packAll; rw [if_pos hd]]
    have HN := Lib.hid (pnew_no d hd w)
    clear hd
    go_enter Try.func10, Try.ntmps10
    go_wp2_with fail
    refine HN.out.mono ?_
    rintro e w' ⟨rfl, rfl⟩
    go_wp2_with fail
    go_ret2
    exact ⟨_, rfl, OwnsEvs.nil _ _, Keeps.refl _ _⟩
  · obtain ⟨tot, htot⟩ : ∃ tot, packAll s.data.toList d = tot := ⟨_, rfl⟩
    have hrun : tot = ([] ++ ((Pk.new d).run (s.data.toList.drop 0)).1, ((Pk.new d).run (s.data.toList.drop 0)).2) := by
      rw [← htot]; unfold packAll; rw [if_neg hd]; simp
    rw [htot]
    have HN := Lib.hid (pnew_yes d (by omega) w)
    have HRUN := Lib.hid hrun
    have hd2 : 1 ≤ d ∧ d ≤ 16 := by omega
    have HD := Lib.hid hd2
    clear hd htot hrun hd2
    go_enter Try.func10, Try.ntmps10
    go_wp2_with fail
    refine HN.out.mono ?_
    rintro e w1 ⟨rfl, hin1, k1⟩
    have HIN := Lib.hid hin1
    have K1 := Lib.hid k1
    have hz1 := hin1.blk.lt
    clear hin1 k1
    go_wp2_with fail
    go_loopw [7, 21] (fun v i wr => PAllRel s.data.toList tot w.heap.size w v i wr) (fun _ i _ => s.size - (intOf i).toNat)
    case atStart => exact ⟨0, [], Pk.new d, _, _, Nat.zero_le _, rfl, OwnsEvs.nil _ _, HIN.out, Pk.fit_new HD.out, rfl, HRUN.out, by simp, K1.out, by simp [blks_nil]⟩
    case round =>
      obtain ⟨k, acc, p, ov, sv, hk, rfl, hown, hin, hfit, he, htot, hacc, hK, hdis⟩ := hrel
      obtain ⟨ao, co, rfl⟩ := hown.shape
      have hzw := hK.size
      have hbl := hin.blk.lt
      have HOWN := Lib.hid hown
      have HINP := Lib.hid hin
      have HFIT := Lib.hid hfit
      have HE := Lib.hid he
      have HTOT := Lib.hid htot
      have HK := Lib.hid hK
      have HDIS := Lib.hid hdis
      clear hown hin hfit he htot hK hdis
      by_cases hlt : k < s.size
      · have hx : k < s.data.toList.length := by omega
        obtain ⟨x, hxx⟩ : ∃ x : Int, (s[k].toNat : Int) = x := ⟨_, rfl⟩
        have hx0 : 0 ≤ x := by omega
        have hx1 : x ≤ 255 := by have := s[k].toNat_lt; omega
        have hst := pstep_any (N := k) ⟨HINP.out, HFIT.out, by omega, by omega⟩ x hx0 hx1
        have hcl := clear_step HFIT.out (b := x) hx0
        have hlen := len_step HFIT.out (b := x) hx0
        have hfit2 := Pk.fit_step (by omega) HFIT.out ⟨hx0, hx1⟩
        have hrun1 : (p.step x).2.c.e = 0 → p.run (s.data.toList.drop k) = ((p.step x).1 ++ ((p.step x).2.run (s.data.toList.drop (k + 1))).1, ((p.step x).2.run (s.data.toList.drop (k + 1))).2) := fun h => by
          subst hxx
          exact pkRun_step hx h
        have hrun2 : (p.step x).2.c.e ≠ 0 → p.run (s.data.toList.drop k) = ((p.step x).1, (p.step x).2.c.e) := fun h => by
          subst hxx
          exact pkRun_err hx h
        have HST := Lib.hid hst
        have HCL := Lib.hid hcl
        have HLEN := Lib.hid hlen
        have HFIT2 := Lib.hid hfit2
        have HR1 := Lib.hid hrun1
        have HR2 := Lib.hid hrun2
        clear hst hcl hlen hfit2 hrun1 hrun2
        go_wp2_with fail
        refine HST.out.mono ?_
        rintro e w2 ⟨v2, rfl, hown2, ov2, sv2, hin2, hk2, hb2⟩
        obtain ⟨p2, hp2⟩ : ∃ p2, p.step x = p2 := ⟨_, rfl⟩
        rw [hp2] at HCL HLEN HFIT2 HR1 HR2 hown2 hin2 ⊢
        obtain ⟨l2, hl2⟩ : ∃ l2, p2.1 = l2 := ⟨_, rfl⟩
        rw [hl2] at HCL HLEN HR1 HR2 hown2
        obtain ⟨a2, c2, rfl, hin3⟩ := anysIn_of_owns hown2
        have hblk2 := World.ownsRow.lt hown2
        have HO2 := Lib.hid (ownsRow_keeps HOWN.out hk2 (fun i hi hm => HDIS.out i (mem_blks.2 hi) hm))
        have hlow := coBlks_base HINP.out (Nat.le_refl _)
        have hlt0 := coBlks_lt HINP.out
        have hlt2 := coBlks_lt hin2
        have HK2 := Lib.hid (HK.out.trans' hk2 (fun i hi => Or.inr (hlow i hi)))
        have hz2 := hk2.size
        have hvlt : ∀ i ∈ blks (.slice ao acc.length co), i < wr.heap.size := fun i hi => (World.ownsRow.lt HOWN.out i (mem_blks.1 hi)).2
        have hvlo : ∀ i ∈ blks (.slice ao acc.length co), w.heap.size ≤ i := fun i hi => (World.ownsRow.lt HOWN.out i (mem_blks.1 hi)).1
        have hdis2 : ∀ i ∈ blks (.slice ao acc.length co), i ∉ coBlks w.heap.size ov2 sv2 := fun i hi hm => (hb2 i hm).elim (fun h => HDIS.out i hi h) (fun h => by have := hvlt i hi; omega)
        have HIN2 := Lib.hid hin2
        have HA3 := Lib.hid hin3
        have HVLT := Lib.hid hvlt
        have HVLO := Lib.hid hvlo
        have HDIS2 := Lib.hid hdis2
        have HLT2 := Lib.hid hlt2
        have HBLK2 := Lib.hid hblk2
        have hlen3 := HLEN.out
        clear hown2 hin3 hin2 hk2 hb2 hlow hlt0 hlt2 hvlt hvlo hdis2 hblk2
        obtain ⟨wo, rfl⟩ : ∃ wo : World, wo = wr := ⟨_, rfl⟩
        go_wp2_with fail
        go_loopw [7, 34] (fun v i w' => PInRel w.heap.size acc l2 (.slice ao acc.length co) w2 v i w') (fun _ i _ => l2.length - (intOf i).toNat)
        case atStart => exact ⟨0, acc, Nat.zero_le _, rfl, by rw [List.take_zero, List.append_nil], HO2.out, Keeps.refl _ _, fun i hi => Or.inl hi⟩
        case round =>
          obtain ⟨j, cur, hj, rfl, hcur, hownj, hkj, hbj⟩ := hrel
          have HCUR := Lib.hid hcur
          have hcl2 : cur.length ≤ 18 * k + 18 := by rw [hcur, List.length_append, List.length_take]; omega
          clear hcur
          obtain ⟨aj, cj, rfl⟩ := hownj.shape
          have hzj := hkj.size
          have HOJ := Lib.hid hownj
          have HKJ := Lib.hid hkj
          have HBJ := Lib.hid hbj
          have hanj : AnysIn wr a2 l2.length c2 l2 := HA3.out.keepsF hkj (fun b off e hm => by
            subst e
            have h1 := (HBLK2.out b rfl).1
            have h2 := HVLT.out b hm
            omega)
          clear hownj hkj hbj
          by_cases hjl : j < l2.length
          · obtain ⟨b1, f1, rfl, g1⟩ := hanj.get hjl hjl
            have hpl := fun W => plain_any l2[j] (HCL.out _ (List.getElem_mem hjl)) W
            have HTS := Lib.hid (show l2.take (j + 1) = l2.take j ++ [l2[j]] from List.take_succ_eq_append_getElem hjl)
            generalize l2[j] = q at g1 hpl HTS
            obtain ⟨pv, hpv⟩ : ∃ pv, q.part = pv := ⟨_, rfl⟩
            rw [hpv] at g1 hpl
            have HPL := Lib.hid hpl
            clear hpl hpv hanj
            go_wp2_with fail
            refine (HPL.out _).mono ?_
            rintro e w4 ⟨rfl, k4⟩
            have HOJ4 := Lib.hid (ownsRow_keeps HOJ.out k4 (by simp))
            have HKJ4 := Lib.hid (HKJ.out.trans (k4.mono (by simp)))
            have hz4 := k4.size
            clear k4
            simp only [Ev.val, Ev.cells]
            go_wp2_with (at_builtin; go_must (refine app_evs rfl _ _ rfl w.heap.size _ cur rfl (ownsRow_keeps HOJ4.out (((Keeps.refl [] _).alloc _).alloc _) (by simp)) ⟨_, 0, none⟩ 1 1 [q] rfl rfl (new_evc q (by simp)) (by omega) (by simp; omega) ?_))
            intro v5 w5 hown5 hk5 _ hb5
            obtain ⟨a5, c5, rfl⟩ := hown5.shape
            have k25 := (HKJ4.out.alloc (.cells #[.int .i64 q.kind, .bool q.yes, .int .u64 q.mag, .string q.text, .int .i64 q.count] 35)).alloc (.cells #[.int .i64 q.kind, .bool q.yes, .int .u64 q.mag, .string q.text, .int .i64 q.count] 35) |>.trans' hk5 (fun i hi => HBJ.out i hi)
            have HO5 := Lib.hid hown5
            have HK5 := Lib.hid k25
            have HB5 := Lib.hid (show ∀ i ∈ blks (.slice a5 (cur ++ [q]).length c5), i ∈ blks (.slice ao acc.length co) ∨ w2.heap.size ≤ i from fun i hi => by
              rw [mem_blks] at hi
              rcases hb5 with h1 | h1
              · rw [h1] at hi; exact HBJ.out i (mem_blks.2 hi)
              · rw [h1] at hi; injection hi with hi; right; omega)
            clear hown5 hk5 hb5 k25
            go_wp2_with fail
            go_roundw
            case rel => exact ⟨j + 1, cur ++ [q], by omega, by go_num, by rw [HTS.out, HCUR.out, List.append_assoc], HO5.out, HK5.out, HB5.out⟩
            case measure => simp [intOf]; omega
          · obtain rfl : j = l2.length := by omega
            have hce : cur = acc ++ l2 := by rw [HCUR.out, List.take_length]
            have HCE := Lib.hid hce
            have HO6 := HOJ
            clear hce
            have hinj : PkIn wr w.heap.size w.heap.size ov2 sv2 p2.2 := CoreIn.keeps HIN2.out HKJ.out (fun i hi hm => HDIS2.out i hm hi)
            obtain ⟨g0, g1, g2, g3, g4, g5, g6, g7⟩ := core_facts hinj
            have HINJ := Lib.hid hinj
            have HKK := Lib.hid (HK2.out.trans' HKJ.out (fun i hi => Or.inr (HVLO.out i hi)))
            clear hinj hanj
            by_cases he2 : p2.2.c.e = 0
            · have he3 : (p2.2.c.e != 0) = false := by simp [he2]
              have HE2 := Lib.hid he2
              clear he2
              go_wp2_with fail
              go_roundw
              case rel =>
                refine ⟨k + 1, cur, p2.2, ov2, sv2, by omega, by go_num, HO6.out, HINJ.out, HFIT2.out, HE2.out, ?_, by omega, HKK.out, fun i hi hm => ?_⟩
                · rw [HTOT.out, HR1.out HE2.out, HCE.out, List.append_assoc]
                · rcases HBJ.out i hi with h1 | h1
                  · exact HDIS2.out i h1 hm
                  · have := HLT2.out i hm; omega
              case measure => simp [intOf]; omega
            · have he3 : (p2.2.c.e != 0) = true := by simpa using he2
              have HE2 := Lib.hid he2
              clear he2
              go_wp2_with fail
              go_ret2
              rw [HTOT.out, HR2.out HE2.out, ← HCE.out]
              exact ⟨_, rfl, HO6.out, HKK.out⟩
      · obtain rfl : k = s.size := by omega
        have HEND := Lib.hid (pend_any HINP.out)
        go_wp2_with fail
        refine HEND.out.mono ?_
        rintro e w' ⟨rfl, rfl⟩
        go_wp2_with fail
        go_ret2
        rw [HTOT.out, List.drop_of_length_le (by omega), Pk.run, List.append_nil]
        exact ⟨_, rfl, HOWN.out, HK.out⟩
end Go.Proofs.Ytmcbdkhlbmhfeaa
