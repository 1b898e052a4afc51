/- What is read of a text may be; what stands behind changes nothing: plain laws. No program in sight. -/
import Derived.Test.YtbhekkkijomglaaGreatDoorVtQ
namespace Go.Proofs.YtbhekkkijomglaaGreatDoor
open Go

theorem show_run_of {k : Nat} {n : Int} {s x : List UInt8} (h : lexShow k n s = (x, 0)) : x = showRun k n s := by
  unfold lexShow at h
  split at h
  · cases h
  · exact ((Prod.mk.inj h).1).symm
/-- What a leaf's mark says of the value that it begins. -/
theorem begin_leaf {l : List UInt8} {a : Nat} (ha : a ≤ l.length) (h0 : (nx l a).2.2 = 0) (hb : (beginV (nx l a).1).2 = 0) (hk : ¬ ((beginV (nx l a).1).1.k = 3 ∨ (beginV (nx l a).1).1.k = 4)) :
    (beginV (nx l a).1).1.l = [] ∧ (beginV (nx l a).1).1.text.length + a ≤ (nx l a).1.2.2.1 := by
  have hne : (nx l a).1.1 ≠ 10 := by intro e; unfold beginV at hb; rw [if_pos e] at hb; exact absurd hb (by decide)
  obtain ⟨hs, _⟩ := rest_mark a (l.drop a) h0 hne
  have hby := hs.bytes
  have h1 := hs.at1; have h2 := hs.at2; have h3 := hs.at3
  unfold markShow ofT at hby
  change lexShow (nx l a).1.1 (nx l a).1.2.2.2.1 (nx l a).1.2.2.2.2 = _ at hby
  change a ≤ (nx l a).1.2.1 at h1
  change (nx l a).1.2.1 < (nx l a).1.2.2.1 at h2
  change (nx l a).1.2.2.1 ≤ _ at h3
  have hlen : (((l.drop a).drop ((fromRest a (l.drop a)).1.2.1 - a)).take ((fromRest a (l.drop a)).1.2.2.1 - (fromRest a (l.drop a)).1.2.1)).length ≤ (nx l a).1.2.2.1 - (nx l a).1.2.1 := by
    rw [List.length_take]; exact Nat.min_le_left _ _
  have hsr := show_run_of hby
  generalize ((l.drop a).drop ((fromRest a (l.drop a)).1.2.1 - a)).take ((fromRest a (l.drop a)).1.2.2.1 - (fromRest a (l.drop a)).1.2.1) = X at *
  clear hs
  generalize (nx l a).1 = m at *
  obtain ⟨k, at_, en, n, s⟩ := m
  simp only at hb hk hne h1 h2 h3 hlen hsr
  unfold beginV at hb hk ⊢
  simp only at hb hk ⊢
  rw [if_neg hne] at hb hk ⊢
  by_cases k8 : k = 8
  · rw [if_pos k8]
    subst k8
    have : X = Lib.itoa n := hsr
    refine ⟨rfl, ?_⟩
    show (V.mk 1 n []).text.length + a ≤ en
    rw [V.text, if_pos rfl, ← this]
    omega
  rw [if_neg k8] at hb hk ⊢
  by_cases k7 : k = 7 ∧ (s = trueW ∨ s = falseW)
  · rw [if_pos k7]
    obtain ⟨rfl, hw⟩ := k7
    refine ⟨rfl, ?_⟩
    have h7 : X = if lettersB s = true then s else [] := hsr
    have h7' : X = s := by
      rcases hw with rfl | rfl
      · rw [h7, if_pos (by decide)]
      · rw [h7, if_pos (by decide)]
    have ht : (V.mk 2 (if s = trueW then 1 else 0) []).text = s := by
      rw [V.text, if_neg (by decide), if_pos rfl]
      rcases hw with rfl | rfl
      · rfl
      · rfl
    show (V.mk 2 (if s = trueW then 1 else 0) []).text.length + a ≤ en
    rw [ht, ← h7']
    omega
  rw [if_neg k7] at hb hk ⊢
  by_cases k5 : k = 5
  · rw [if_pos k5] at hk; exact absurd (.inl rfl) hk
  rw [if_neg k5] at hb hk ⊢
  by_cases k3 : k = 3
  · rw [if_pos k3] at hk; exact absurd (.inr rfl) hk
  rw [if_neg k3] at hb
  exact absurd hb (by decide)
/-- The texts of items, and a blank ahead of each. -/
def wide : List V → Nat
  | [] => 0
  | x :: r => x.text.length + 1 + wide r
theorem texts_wide (b : Bool) (l : List V) : (V.texts b l).length ≤ wide l := by
  induction l generalizing b with
  | nil => rw [V.texts]; exact Nat.zero_le _
  | cons x r ih =>
    rw [V.texts, wide, List.length_append]
    have := ih false
    cases b <;> simp <;> omega
theorem begin_tuple {x : MarkT} (h : (beginV x).1.k = 3 ∨ (beginV x).1.k = 4) : (beginV x).1 = .mk (beginV x).1.k 0 [] := by
  unfold beginV at h ⊢
  repeat' split
  all_goals first | rfl | (rename_i h1; simp_all [V.k])
theorem valE_zero {x : MarkT} {m deep item : Nat} (h : valE x m deep item = 0) : (beginV x).2 = 0 ∧ item ≤ 64 ∧ deep ≤ 128 ∧ m + 1 ≤ 4096 ∧ (beginV x).1.check = 0 := by
  unfold valE at h
  by_cases h1 : (beginV x).2 ≠ 0
  · rw [if_pos h1] at h; exact absurd h h1
  rw [if_neg h1] at h
  by_cases h2 : 64 < item
  · rw [if_pos h2] at h; exact absurd h (by decide)
  rw [if_neg h2] at h
  by_cases h3 : 128 < deep
  · rw [if_pos h3] at h; exact absurd h (by decide)
  rw [if_neg h3] at h
  by_cases h4 : 4096 < m + 1
  · rw [if_pos h4] at h; exact absurd h (by decide)
  rw [if_neg h4] at h
  exact ⟨by omega, by omega, by omega, by omega, h⟩
theorem check_first {v : V} (h : v.check = 0) : v.first = 0 ∧ v.deep ≤ 128 ∧ v.size ≤ 4096 := by
  unfold V.check at h
  by_cases h1 : v.first ≠ 0
  · rw [if_pos h1] at h; exact absurd h h1
  rw [if_neg h1] at h
  by_cases h2 : 128 < v.deep
  · rw [if_pos h2] at h; exact absurd h (by decide)
  rw [if_neg h2] at h
  by_cases h3 : 4096 < v.size
  · rw [if_pos h3] at h; exact absurd h (by decide)
  exact ⟨by omega, by omega, by omega⟩
theorem check_zero {v : V} (h1 : v.first = 0) (h2 : v.deep ≤ 128) (h3 : v.size ≤ 4096) : v.check = 0 := by
  unfold V.check; rw [if_neg (by omega), if_neg (by omega), if_neg (by omega)]
/-- What is read may be, and its text is not much longer. -/
theorem read_may : ∀ f, (∀ l a m deep item v a' m', a ≤ l.length → pval f l a m deep item = .ok v a' m' → v.first = 0 ∧ deep + v.deep ≤ 129 ∧ m' = m + v.size ∧ m' ≤ 4096 ∧ v.text.length + 1 ≤ 2 * (a' - a)) ∧
    (∀ l a m k deep acc vs a' m', a ≤ l.length → deep ≤ 128 → acc.length ≤ 64 → m ≤ 4096 → pitems f l a m k deep acc = .ok vs a' m' → ∃ r, vs = acc ++ r ∧ vs.length ≤ 64 ∧ (∀ x ∈ r, x.first = 0) ∧ deep + (1 + V.deeps r) ≤ 129 ∧ m' = m + V.sizes r ∧ m' ≤ 4096 ∧ wide r + 2 ≤ 2 * (a' - a)) := by
  intro f
  induction f with
  | zero => exact ⟨(fun _ _ _ _ _ _ _ _ _ h => by rw [pval] at h; cases h), (fun _ _ _ _ _ _ _ _ _ _ _ _ _ h => by rw [pitems] at h; cases h)⟩
  | succ f ih =>
    refine ⟨fun l a m deep item v a' m' ha h => ?_, fun l a m k deep acc vs a' m' ha hd hacc hm h => ?_⟩
    · rw [pval] at h
      by_cases h0 : (nx l a).2.2 ≠ 0
      · rw [if_pos h0] at h; cases h
      rw [if_neg h0] at h
      by_cases h1 : valE (nx l a).1 m deep item ≠ 0
      · rw [if_pos h1] at h; cases h
      rw [if_neg h1] at h
      have hz : valE (nx l a).1 m deep item = 0 := by omega
      have he := nx_end ha (by omega) (valE_stop hz)
      obtain ⟨z1, z2, z3, z4, z5⟩ := valE_zero hz
      by_cases h2 : (beginV (nx l a).1).1.k = 3 ∨ (beginV (nx l a).1).1.k = 4
      · rw [if_pos h2] at h
        obtain ⟨u, b, n, hx, hy⟩ := bindP_ok h
        obtain ⟨r, hu, hl, hf, hdp, hsz, hmx, hw⟩ := ih.2 _ _ _ _ _ _ _ _ _ he.2 z3 (by simp) z4 hx
        have hen := (read_ends f).2 _ _ _ _ _ _ _ _ _ he.2 hx
        rw [List.nil_append] at hu
        subst hu
        cases hy
        have hc := check_first z5
        rw [begin_tuple h2] at hc
        have hn := (first_zero.1 hc.1).1
        have hnode : nodeE (beginV (nx l a).1).1.k 0 u.length = 0 := by
          unfold nodeE at hn ⊢
          rcases h2 with h2 | h2 <;> rw [h2] <;> simp <;> omega
        refine ⟨first_zero.2 ⟨hnode, hf⟩, by rw [V.deep]; exact hdp, by rw [V.size]; omega, hmx, ?_⟩
        rw [V.text, if_neg (by omega), if_neg (by omega), List.length_cons, List.length_append, List.length_singleton]
        have := texts_wide true u
        omega
      · rw [if_neg h2] at h
        obtain ⟨hl, ht⟩ := begin_leaf ha (by omega) z1 h2
        cases h
        have hc := check_first z5
        have hd1 : (beginV (nx l a).1).1.deep = 1 := by rw [V.eta (beginV (nx l a).1).1, V.deep, hl, V.deeps]
        have hs1 : (beginV (nx l a).1).1.size = 1 := by rw [V.eta (beginV (nx l a).1).1, V.size, hl, V.sizes]
        have := text_ne (beginV (nx l a).1).1
        exact ⟨hc.1, by omega, by omega, z4, by omega⟩
    · rw [pitems] at h
      by_cases h0 : (nx l a).2.2 ≠ 0
      · rw [if_pos h0] at h; cases h
      rw [if_neg h0] at h
      by_cases h1 : shutsK (nx l a).1.1
      · rw [if_pos h1] at h
        by_cases h2 : (nx l a).1.1 ≠ overK k
        · rw [if_pos h2] at h; cases h
        · rw [if_neg h2] at h
          have he := nx_end ha (by omega) (by unfold shutsK at h1; omega)
          cases h
          exact ⟨[], by simp, hacc, by simp, by rw [V.deeps]; omega, by rw [V.sizes]; rfl, hm, by rw [wide]; omega⟩
      · rw [if_neg h1] at h
        obtain ⟨u, b, n, hx, hy⟩ := bindP_ok h
        have e1 := (read_ends f).1 _ _ _ _ _ _ _ _ ha hx
        obtain ⟨g1, g2, g3, g4, g5⟩ := ih.1 _ _ _ _ _ _ _ _ ha hx
        have hitem : acc.length + 1 ≤ 64 := by
          cases f with
          | zero => rw [pval] at hx; cases hx
          | succ f =>
            rw [pval] at hx
            rw [if_neg h0] at hx
            by_cases q : valE (nx l a).1 m (deep + 1) (acc.length + 1) ≠ 0
            · rw [if_pos q] at hx; cases hx
            · exact (valE_zero (Decidable.not_not.1 q)).2.1
        have e2 := (read_ends f).2 _ _ _ _ _ _ _ _ _ e1.2 hy
        obtain ⟨r, hu, hl, hf, hdp, hsz, hmx, hw⟩ := ih.2 _ _ _ _ _ _ _ _ _ e1.2 hd (by simp; omega) g4 hy
        refine ⟨u :: r, by rw [hu]; simp, hl, fun x hx => ?_, ?_, by rw [V.sizes]; omega, hmx, by rw [wide]; omega⟩
        · rcases List.mem_cons.1 hx with rfl | hx
          · exact g1
          · exact hf x hx
        · rw [V.deeps]; omega
/-- What stands behind a blank or a bracket changes nothing, but where a text ends too early. -/
theorem read_app : ∀ f, (∀ l a m deep item s, a ≤ l.length → Stops s → 2 * ((l ++ s).length - a) + 1 ≤ f → (∀ v a' m', pval f l a m deep item = .ok v a' m' → pval f (l ++ s) a m deep item = .ok v a' m') ∧ (∀ p e, pval f l a m deep item = .bad p e → e ≠ 4 → pval f (l ++ s) a m deep item = .bad p e)) ∧
    (∀ l a m k deep acc s, a ≤ l.length → Stops s → 2 * ((l ++ s).length - a) + 2 ≤ f → (∀ vs a' m', pitems f l a m k deep acc = .ok vs a' m' → pitems f (l ++ s) a m k deep acc = .ok vs a' m') ∧ (∀ p e, pitems f l a m k deep acc = .bad p e → e ≠ 4 → pitems f (l ++ s) a m k deep acc = .bad p e)) := by
  have hstop : ∀ f l a m deep item, (nx l a).1.1 = 10 → pval (f + 1) l a m deep item = .bad (nx l a).1.2.1 4 := by
    intro f l a m deep item hst
    have hv : valE (nx l a).1 m deep item = 4 := by
      unfold valE beginV
      rw [if_pos hst, if_pos (by decide)]
    have h0 : (nx l a).2.2 = 0 := by
      have := fromRest_stop a (l.drop a) hst
      unfold nx; rw [this]
    rw [pval, if_neg (by omega), hv, if_pos (by decide)]
  intro f
  induction f with
  | zero => exact ⟨(fun _ _ _ _ _ _ _ _ h => by omega), (fun _ _ _ _ _ _ _ _ _ h => by omega)⟩
  | succ f ih =>
    refine ⟨fun l a m deep item s ha hs hfu => ?_, fun l a m k deep acc s ha hs hfu => ?_⟩
    · by_cases hst : (nx l a).1.1 = 10
      · rw [hstop f l a m deep item hst]
        exact ⟨(fun _ _ _ h => by cases h), (fun p e h he => by cases h; exact absurd rfl he)⟩
      · have hn := nx_app ha hs hst
        rw [pval, pval, hn]
        by_cases h0 : (nx l a).2.2 ≠ 0
        · rw [if_pos h0, if_pos h0]; exact ⟨fun _ _ _ h => h, fun _ _ h _ => h⟩
        rw [if_neg h0, if_neg h0]
        by_cases h1 : valE (nx l a).1 m deep item ≠ 0
        · rw [if_pos h1, if_pos h1]; exact ⟨fun _ _ _ h => h, fun _ _ h _ => h⟩
        rw [if_neg h1, if_neg h1]
        have he := nx_end ha (by omega) hst
        have hle : l.length ≤ (l ++ s).length := by rw [List.length_append]; omega
        by_cases h2 : (beginV (nx l a).1).1.k = 3 ∨ (beginV (nx l a).1).1.k = 4
        · rw [if_pos h2, if_pos h2]
          have := ih.2 l (nx l a).1.2.2.1 (m + 1) (beginV (nx l a).1).1.k deep [] s he.2 hs (by omega)
          cases hx : pitems f l (nx l a).1.2.2.1 (m + 1) (beginV (nx l a).1).1.k deep [] with
          | ok u b n => rw [this.1 _ _ _ hx]; exact ⟨fun _ _ _ h => h, fun _ _ h _ => h⟩
          | bad p e => exact ⟨(fun _ _ _ h => by cases h), (fun p' e' h he' => by cases h; rw [this.2 _ _ hx he']; rfl)⟩
        · rw [if_neg h2, if_neg h2]; exact ⟨fun _ _ _ h => h, fun _ _ h _ => h⟩
    · obtain ⟨f, rfl⟩ : ∃ f', f = f' + 1 := ⟨f - 1, by omega⟩
      by_cases hst : (nx l a).1.1 = 10
      · have h0 : (nx l a).2.2 = 0 := by
          have := fromRest_stop a (l.drop a) hst
          unfold nx; rw [this]
        have hsh : ¬ shutsK (nx l a).1.1 := by unfold shutsK; omega
        rw [pitems, if_neg (by omega), if_neg hsh, hstop f l a m (deep + 1) (acc.length + 1) hst]
        exact ⟨(fun _ _ _ h => by cases h), (fun p' e' h he' => by cases h; exact absurd rfl he')⟩
      · have hn := nx_app ha hs hst
        rw [pitems, pitems, hn]
        by_cases h0 : (nx l a).2.2 ≠ 0
        · rw [if_pos h0, if_pos h0]; exact ⟨fun _ _ _ h => h, fun _ _ h _ => h⟩
        rw [if_neg h0, if_neg h0]
        by_cases h1 : shutsK (nx l a).1.1
        · rw [if_pos h1, if_pos h1]
          exact ⟨fun _ _ _ h => h, fun _ _ h _ => h⟩
        rw [if_neg h1, if_neg h1]
        have := ih.1 l a m (deep + 1) (acc.length + 1) s ha hs (by omega)
        cases hx : pval (f + 1) l a m (deep + 1) (acc.length + 1) with
        | ok u b n =>
          have e1 := (read_ends (f + 1)).1 _ _ _ _ _ _ _ _ ha hx
          have hle : l.length ≤ (l ++ s).length := by rw [List.length_append]; omega
          rw [this.1 _ _ _ hx]
          exact ih.2 l b n k deep (acc ++ [u]) s e1.2 hs (by omega)
        | bad p e => exact ⟨(fun _ _ _ h => by cases h), (fun p' e' h he' => by cases h; rw [this.2 _ _ hx he']; rfl)⟩
end Go.Proofs.YtbhekkkijomglaaGreatDoor
