/- The laws of values' texts: Part, Back, First, Cut. Plain. No program in sight. -/
import Derived.Test.YtbhekkkijomglaaGreatDoorVtS
namespace Go.Proofs.YtbhekkkijomglaaGreatDoor
open Go

theorem showV_ok {v : V} {t : List UInt8} (h : showV v = (t, 0)) : v.check = 0 ∧ t = v.text ∧ t.length ≤ 65536 := by
  unfold showV at h
  by_cases h1 : v.check ≠ 0
  · rw [if_pos h1] at h; exact absurd (Prod.mk.inj h).2 h1
  rw [if_neg h1] at h
  by_cases h2 : 65536 < v.text.length
  · rw [if_pos h2] at h; cases h
  rw [if_neg h2] at h
  obtain ⟨rfl, _⟩ := Prod.mk.inj h
  exact ⟨by omega, rfl, by omega⟩
theorem showV_of {v : V} (h : v.check = 0) (hl : v.text.length ≤ 65536) : showV v = (v.text, 0) := by
  unfold showV; rw [if_neg (by omega), if_neg (by omega)]
theorem partV_in {l : List UInt8} {a : Nat} (h : a ≤ l.length) : partV l a = pval (fuelV l) l a 0 1 1 := by
  unfold partV; rw [if_neg (by omega), Int.toNat_natCast]
/-- From where a value's text stands, with a stop behind: that value. -/
theorem part_text {v : V} (h : v.check = 0) (p s : List UInt8) (hs : Stops s) : partV (p ++ (v.text ++ s)) p.length = .ok v (p.length + v.text.length) v.size := by
  obtain ⟨h1, h2, h3⟩ := check_first h
  rw [partV_in (by simp)]
  have := pval_text v p s (fuelV (p ++ (v.text ++ s))) 0 1 1 h1 (by omega) (by omega) (by omega) hs (by unfold fuelV; simp; omega)
  rw [this, Nat.zero_add]
theorem nx_last (l : List UInt8) : nx l l.length = ((10, l.length, l.length, 0, []), 0, 0) := by
  unfold nx
  rw [List.drop_length, fromRest_end _ _ rfl]
  simp
theorem read_text {v : V} (h : v.check = 0) (hl : v.text.length ≤ 65536) : ∃ m, readV v.text = .ok v 0 m := by
  have hp := part_text h [] [] Stops.nil
  rw [List.nil_append, List.append_nil, List.length_nil, Nat.zero_add] at hp
  have hp' : partV v.text 0 = .ok v v.text.length v.size := hp
  refine ⟨v.size, ?_⟩
  unfold readV
  rw [if_neg (by omega), hp']
  show (if (nx v.text v.text.length).2.2 ≠ 0 then _ else _) = _
  rw [nx_last, if_neg (by simp), if_neg (by simp)]
theorem read_ok {l : List UInt8} {v : V} {a m : Nat} (h : readV l = .ok v a m) : a = 0 ∧ l.length ≤ 65536 ∧ ∃ b, pval (fuelV l) l 0 0 1 1 = .ok v b m ∧ (nx l b).2.2 = 0 ∧ (nx l b).1.1 = 10 := by
  unfold readV at h
  by_cases h1 : 65536 < l.length
  · rw [if_pos h1] at h; cases h
  rw [if_neg h1] at h
  obtain ⟨u, b, n, hx, hy⟩ := bindP_ok h
  have hx' : pval (fuelV l) l 0 0 1 1 = .ok u b n := by
    have := partV_in (l := l) (a := 0) (Nat.zero_le _)
    exact this.symm.trans hx
  by_cases h2 : (nx l b).2.2 ≠ 0
  · rw [if_pos h2] at hy; cases hy
  rw [if_neg h2] at hy
  by_cases h3 : (nx l b).1.1 ≠ 10
  · rw [if_pos h3] at hy; cases hy
  rw [if_neg h3] at hy
  cases hy
  exact ⟨rfl, by omega, b, hx', by omega, by omega⟩
/-- What is read may be, has a text, and is read of it. -/
theorem read_back {l : List UInt8} {v : V} {a m : Nat} (hl : l.length ≤ 20000) (h : readV l = .ok v a m) : v.check = 0 ∧ v.text.length ≤ 65536 := by
  obtain ⟨_, _, b, hp, _⟩ := read_ok h
  obtain ⟨h1, h2, h3, h4, h5⟩ := (read_may _).1 _ _ _ _ _ _ _ _ (Nat.zero_le _) hp
  have := (read_ends _).1 _ _ _ _ _ _ _ _ (Nat.zero_le _) hp
  exact ⟨check_zero h1 (by omega) (by omega), by omega⟩
theorem part_bad_in {l s : List UInt8} {p e : Nat} (hs : Stops s) (h : pval (fuelV l) l 0 0 1 1 = .bad p e) (he : e ≠ 4) : pval (fuelV (l ++ s)) (l ++ s) 0 0 1 1 = .bad p e := by
  have hf := (read_fuel (fuelV l) (fuelV (l ++ s))).1 l 0 0 1 1 (Nat.zero_le _) (by unfold fuelV; omega) (by unfold fuelV; rw [List.length_append]; omega)
  rw [hf] at h
  exact ((read_app _).1 l 0 0 1 1 s (Nat.zero_le _) hs (by unfold fuelV; omega)).2 p e h he
theorem part_ok_in {l s : List UInt8} {v : V} {a m : Nat} (hs : Stops s) (h : pval (fuelV l) l 0 0 1 1 = .ok v a m) : pval (fuelV (l ++ s)) (l ++ s) 0 0 1 1 = .ok v a m := by
  have hf := (read_fuel (fuelV l) (fuelV (l ++ s))).1 l 0 0 1 1 (Nat.zero_le _) (by unfold fuelV; omega) (by unfold fuelV; rw [List.length_append]; omega)
  rw [hf] at h
  exact ((read_app _).1 l 0 0 1 1 s (Nat.zero_le _) hs (by unfold fuelV; omega)).1 v a m h
/-- What is refused, but as too short, is refused by the same, there, whatever stands behind a blank. -/
theorem read_first {l t : List UInt8} {p e : Nat} (hl : (l ++ 32 :: t).length ≤ 65536) (h : readV l = .bad p e) (he : e ≠ 4) : readV (l ++ 32 :: t) = .bad p e := by
  have hs : Stops (32 :: t) := by intro b u q; injection q with q _; subst q; decide
  have hll : l.length ≤ 65536 := by rw [List.length_append] at hl; omega
  unfold readV at h ⊢
  rw [if_neg (by omega)] at h ⊢
  have e1 : ∀ l : List UInt8, partV l 0 = pval (fuelV l) l 0 0 1 1 := fun l => partV_in (l := l) (a := 0) (Nat.zero_le _)
  rw [e1] at h ⊢
  cases hx : pval (fuelV l) l 0 0 1 1 with
  | bad p' e' =>
    rw [hx] at h
    cases h
    rw [part_bad_in hs hx he]
    rfl
  | ok v a m =>
    rw [hx] at h
    rw [part_ok_in hs hx]
    have ha := ((read_ends _).1 _ _ _ _ _ _ _ _ (Nat.zero_le _) hx).2
    change (if (nx l a).2.2 ≠ 0 then _ else _) = _ at h
    show (if (nx (l ++ 32 :: t) a).2.2 ≠ 0 then _ else _) = _
    by_cases hst : (nx l a).1.1 = 10
    · have h0 := fromRest_stop a (l.drop a) hst
      have h0' : nx l a = ((10, a + (l.drop a).length, a + (l.drop a).length, 0, []), 0, 0) := h0
      rw [h0'] at h
      simp at h
    · rw [nx_app ha hs hst]
      exact h
theorem bal_all {l : List UInt8} (h : ∀ c ∈ l, blankB c = true) : bal l = 0 := bal_zero fun c hc => bal_blank (h c hc)
/-- A text of a Tuple or a List, cut anywhere ahead of its end, is refused. -/
theorem read_cut {v : V} (hk : v.k = 3 ∨ v.k = 4) (h : v.check = 0) (j : Nat) (hj : j < v.text.length) {u : V} {a m : Nat} : readV (v.text.take j) ≠ .ok u a m := by
  intro hr
  obtain ⟨_, _, b, hp, h0, h1⟩ := read_ok hr
  have hf := (check_first h).1
  have hb := (read_bal _).1 _ _ _ _ _ _ _ _ (Nat.zero_le _) hp
  have he := (read_ends _).1 _ _ _ _ _ _ _ _ (Nat.zero_le _) hp
  rw [List.drop_zero, Nat.sub_zero] at hb
  have hst := rest_stop b ((v.text.take j).drop b) h0 h1
  have hall : bal (v.text.take j) = 0 := by
    have : v.text.take j = (v.text.take j).take b ++ (v.text.take j).drop b := (List.take_append_drop _ _).symm
    rw [this, bal_append, hb, bal_all hst]; rfl
  have hj0 : 0 < j := by
    rcases Nat.eq_zero_or_pos j with e | e
    · subst e
      have := he.2
      simp at this
      omega
    · exact e
  have hpos := tuple_cut (k := v.k) (n := v.n) (l := v.l) hk (by rw [← V.eta v]; exact hf) j hj0 (by rw [← V.eta v]; exact hj)
  rw [← V.eta v, hall] at hpos
  exact absurd hpos (by decide)
end Go.Proofs.YtbhekkkijomglaaGreatDoor
