/- The text of a value is read as it; what is read may be: plain laws. No program in sight. -/
import Derived.Test.YtbhekkkijomglaaGreatDoorVtP
namespace Go.Proofs.YtbhekkkijomglaaGreatDoor
open Go

/-! ### Marks at a place -/
theorem drop_pre (p t : List UInt8) : (p ++ t).drop p.length = t := by simp
theorem nx_tok (p : List UInt8) {x t : List UInt8} (h : Cut x t) : nx (p ++ (x ++ t)) p.length = ofGot p.length x.length (lexRun x) := by
  unfold nx; rw [drop_pre, rest_run _ h]
theorem nx_blank (p : List UInt8) (b : UInt8) (t : List UInt8) (hb : blankB b = true) : nx (p ++ (b :: t)) p.length = nx (p ++ (b :: t)) (p.length + 1) := by
  unfold nx
  rw [drop_pre, rest_blank _ _ _ hb]
  congr 1
  rw [show p ++ b :: t = (p ++ [b]) ++ t by simp, show p.length + 1 = (p ++ [b]).length by simp, drop_pre]
theorem pval_nx {f : Nat} {l : List UInt8} {a b m deep item : Nat} (h : nx l a = nx l b) : pval f l a m deep item = pval f l b m deep item := by
  cases f with
  | zero => rw [pval, pval]
  | succ f => rw [pval, pval, h]
theorem cut_br (b : UInt8) (t : List UInt8) (h : brB b = true) : Cut [b] t := ⟨List.cons_ne_nil _ _, .inl ⟨h, rfl⟩⟩
theorem itoa_ne (n : Int) : Lib.itoa n ≠ [] := by
  have h : ∀ u, Lib.decDigits u ≠ [] := by intro u; unfold Lib.decDigits; split <;> simp
  unfold Lib.itoa
  split
  · exact List.cons_ne_nil _ _
  · exact h _
theorem num_tok (n : Int) (h0 : -9223372036854775808 ≤ n) (h1 : n ≤ 9223372036854775807) : GoRun (Lib.itoa n) ∧ lexRun (Lib.itoa n) = ((8, n, []), 0) := by
  have hx : lexShow 8 n [] = (Lib.itoa n, 0) := show_of 8 n [] _ rfl (itoa_ne n) (.inl rfl) (.inr (.inr rfl))
  have := show_run 8 n [] h0 h1 (by rw [hx])
  rw [hx] at this
  exact this
theorem true_tok : GoRun trueW ∧ lexRun trueW = ((7, 0, trueW), 0) := ⟨⟨by decide, .inr (by decide)⟩, by decide⟩
theorem false_tok : GoRun falseW ∧ lexRun falseW = ((7, 0, falseW), 0) := ⟨⟨by decide, .inr (by decide)⟩, by decide⟩
theorem open_tok (k : Nat) : lexRun [openB k] = ((if k = 3 then 5 else 3, 0, []), 0) ∧ brB (openB k) = true := by
  unfold openB
  by_cases h : k = 3
  · rw [if_pos h, if_pos h]; exact ⟨by decide, by decide⟩
  · rw [if_neg h, if_neg h]; exact ⟨by decide, by decide⟩
theorem shut_tok (k : Nat) : lexRun [shutB k] = ((overK k, 0, []), 0) ∧ brB (shutB k) = true := by
  unfold shutB overK
  by_cases h : k = 3
  · rw [if_pos h, if_pos h]; exact ⟨by decide, by decide⟩
  · rw [if_neg h, if_neg h]; exact ⟨by decide, by decide⟩
/-- The run with which a value's text begins, and what it is. -/
theorem node_cases {k : Nat} {n : Int} {l : List V} (h : nodeE k n l.length = 0) :
    (k = 1 ∧ l = [] ∧ -1099511627776 ≤ n ∧ n ≤ 1099511627776) ∨ (k = 2 ∧ l = [] ∧ (n = 0 ∨ n = 1)) ∨ ((k = 3 ∨ k = 4) ∧ n = 0 ∧ l.length ≤ 64) := by
  unfold nodeE at h
  by_cases h1 : k = 1 ∧ (n < -1099511627776 ∨ 1099511627776 < n)
  · rw [if_pos h1] at h; exact absurd h (by decide)
  rw [if_neg h1] at h
  by_cases h2 : k = 2 ∧ n ≠ 0 ∧ n ≠ 1
  · rw [if_pos h2] at h; exact absurd h (by decide)
  rw [if_neg h2] at h
  by_cases h3 : (k = 3 ∨ k = 4) ∧ n ≠ 0
  · rw [if_pos h3] at h; exact absurd h (by decide)
  rw [if_neg h3] at h
  by_cases h4 : k = 0 ∨ 4 < k
  · rw [if_pos h4] at h; exact absurd h (by decide)
  rw [if_neg h4] at h
  by_cases h5 : (k = 1 ∨ k = 2) ∧ 0 < l.length
  · rw [if_pos h5] at h; exact absurd h (by decide)
  rw [if_neg h5] at h
  by_cases h6 : 64 < l.length
  · rw [if_pos h6] at h; exact absurd h (by decide)
  have hl : k = 1 ∨ k = 2 → l = [] := fun e => List.length_eq_zero_iff.1 (by
    rcases Nat.eq_zero_or_pos l.length with h7 | h7
    · exact h7
    · exact absurd ⟨e, h7⟩ h5)
  rcases (by omega : k = 1 ∨ k = 2 ∨ (k = 3 ∨ k = 4)) with e | e | e
  · exact .inl ⟨e, hl (.inl e), by omega, by omega⟩
  · exact .inr (.inl ⟨e, hl (.inr e), by omega⟩)
  · exact .inr (.inr ⟨e, by omega, by omega⟩)
theorem ofGot_ok {a m : Nat} {k : Nat} {n : Int} {s : List UInt8} : ofGot a m ((k, n, s), 0) = ((k, a, a + m, n, s), 0, 0) := rfl
theorem V.check_leaf (k : Nat) (n : Int) (h : nodeE k n 0 = 0) : (V.mk k n []).check = 0 := by
  have h1 : (V.mk k n []).first = 0 := first_zero.2 ⟨h, fun x hx => by cases hx⟩
  unfold V.check
  rw [if_neg (by omega), if_neg (by rw [V.deep, V.deeps]; decide), if_neg (by rw [V.size, V.sizes]; decide)]

theorem text_ne (v : V) : 1 ≤ v.text.length := by
  cases v with
  | mk k n l =>
    rw [V.text]
    split
    · cases h : Lib.itoa n with
      | nil => exact absurd h (itoa_ne n)
      | cons b t => simp
    · split
      · split <;> decide
      · simp
theorem valE_shuts {x : MarkT} {m deep item : Nat} (h : shutsK x.1) : valE x m deep item = 3 := by
  have hb : (beginV x).2 = 3 := by
    unfold shutsK at h
    unfold beginV
    rw [if_neg (by omega), if_neg (by omega), if_neg (by omega), if_neg (by omega), if_neg (by omega)]
  unfold valE
  rw [hb, if_pos (by decide)]
theorem pval_first {f : Nat} {l : List UInt8} {a m deep item : Nat} {v : V} {a' m' : Nat} (h : pval f l a m deep item = .ok v a' m') : (nx l a).2.2 = 0 ∧ ¬ shutsK (nx l a).1.1 := by
  cases f with
  | zero => rw [pval] at h; cases h
  | succ f =>
    rw [pval] at h
    by_cases h0 : (nx l a).2.2 ≠ 0
    · rw [if_pos h0] at h; cases h
    rw [if_neg h0] at h
    refine ⟨by omega, fun hs => ?_⟩
    rw [valE_shuts hs, if_pos (by decide)] at h
    cases h
theorem stops_rest (k : Nat) (r : List V) (s : List UInt8) : Stops (V.texts false r ++ shutB k :: s) := by
  cases r with
  | nil =>
    rw [V.texts, List.nil_append]
    intro b t e
    injection e with e _
    subst e
    exact br_stop (shut_tok k).2
  | cons x r =>
    rw [V.texts, if_neg (by decide)]
    intro b t e
    injection e with e _
    subst e
    decide
/-- A text of a value is read as it, wherever it stands. -/
theorem pval_text : ∀ (v : V) (p s : List UInt8) (f m deep item : Nat), v.first = 0 → deep + v.deep ≤ 129 → m + v.size ≤ 4096 → item ≤ 64 → Stops s → 2 * (v.text ++ s).length + 1 ≤ f →
    pval f (p ++ (v.text ++ s)) p.length m deep item = .ok v (p.length + v.text.length) (m + v.size) := by
  intro v
  induction v using V.ind with
  | h k n l ih =>
    intro p s f m deep item hf hd hm hi hs hfu
    obtain ⟨f, rfl⟩ : ∃ f', f = f' + 1 := ⟨f - 1, by omega⟩
    obtain ⟨hn, hl⟩ := first_zero.1 hf
    rw [V.deep] at hd
    rw [V.size] at hm
    rcases node_cases hn with ⟨rfl, rfl, h1, h2⟩ | ⟨rfl, rfl, h1⟩ | ⟨hk, rfl, h64⟩
    · obtain ⟨hg, hr⟩ := num_tok n (by omega) (by omega)
      have ht : (V.mk 1 n []).text = Lib.itoa n := by rw [V.text, if_pos rfl]
      rw [ht, pval, nx_tok p (hg.cut hs), hr, ofGot_ok, if_neg (by simp)]
      have hb : beginV (8, p.length, p.length + (Lib.itoa n).length, n, []) = (.mk 1 n [], 0) := rfl
      have hc := V.check_leaf 1 n hn
      have hv : valE (8, p.length, p.length + (Lib.itoa n).length, n, []) m deep item = 0 := by
        unfold valE
        rw [hb, if_neg (by simp), if_neg (by omega), if_neg (by omega), if_neg (by omega)]
        exact hc
      rw [if_neg (by simp [hv]), hb, if_neg (by simp [V.k])]
      show PR.ok _ _ (m + 1) = PR.ok _ _ (m + V.size _)
      rw [V.size, V.sizes]
    · have hg : GoRun (V.mk 2 n []).text ∧ lexRun (V.mk 2 n []).text = ((7, 0, (V.mk 2 n []).text), 0) ∧ beginV (7, p.length, p.length + (V.mk 2 n []).text.length, 0, (V.mk 2 n []).text) = (.mk 2 n [], 0) := by
        rw [V.text, if_neg (by decide), if_pos rfl]
        rcases h1 with rfl | rfl
        · exact ⟨false_tok.1, false_tok.2, rfl⟩
        · exact ⟨true_tok.1, true_tok.2, rfl⟩
      obtain ⟨hg, hr, hb⟩ := hg
      have hc := V.check_leaf 2 n hn
      rw [pval, nx_tok p (hg.cut hs), hr, ofGot_ok, if_neg (by simp)]
      have hv : valE (7, p.length, p.length + (V.mk 2 n []).text.length, 0, (V.mk 2 n []).text) m deep item = 0 := by
        unfold valE
        rw [hb, if_neg (by simp), if_neg (by omega), if_neg (by omega), if_neg (by omega)]
        exact hc
      rw [if_neg (by simp [hv]), hb, if_neg (by simp [V.k])]
      show PR.ok _ _ (m + 1) = PR.ok _ _ (m + V.size _)
      rw [V.size, V.sizes]
    · have hit : ∀ (l : List V), (∀ x ∈ l, ∀ (p s : List UInt8) (f m deep item : Nat), x.first = 0 → deep + x.deep ≤ 129 → m + x.size ≤ 4096 → item ≤ 64 → Stops s → 2 * (x.text ++ s).length + 1 ≤ f →
          pval f (p ++ (x.text ++ s)) p.length m deep item = .ok x (p.length + x.text.length) (m + x.size)) → (∀ x ∈ l, x.first = 0) →
          ∀ (b : Bool) (q : List UInt8) (acc : List V) (m f : Nat), deep + (1 + V.deeps l) ≤ 129 → m + V.sizes l ≤ 4096 → acc.length + l.length ≤ 64 → 2 * (V.texts b l ++ shutB k :: s).length + 2 ≤ f →
          pitems f (q ++ (V.texts b l ++ shutB k :: s)) q.length m k deep acc = .ok (acc ++ l) (q.length + (V.texts b l).length + 1) (m + V.sizes l) := by
        intro l
        induction l with
        | nil =>
          intro _ _ b q acc m f _ _ _ hfu
          obtain ⟨f, rfl⟩ : ∃ f', f = f' + 1 := ⟨f - 1, by omega⟩
          obtain ⟨hr, hbr⟩ := shut_tok k
          have hx := nx_tok q (cut_br (shutB k) s hbr)
          rw [hr, ofGot_ok] at hx
          rw [V.texts, List.nil_append, pitems]
          rw [show shutB k :: s = [shutB k] ++ s from rfl, hx, if_neg (by simp), if_pos (show shutsK (overK k) by unfold shutsK overK; split <;> simp), if_neg (by simp)]
          show PR.ok acc (q.length + 1) m = PR.ok (acc ++ []) (q.length + 0 + 1) (m + V.sizes [])
          rw [List.append_nil, V.sizes]; rfl
        | cons x r ihr =>
          intro hx hl b q acc m f hd hm ha hfu
          rw [V.deeps] at hd
          rw [V.sizes] at hm
          rw [List.length_cons] at ha
          obtain ⟨f, rfl⟩ : ∃ f', f = f' + 1 := ⟨f - 1, by omega⟩
          obtain ⟨q1, hq1, hnx, hL, hlen⟩ : ∃ q1 : List UInt8, q.length ≤ q1.length ∧
              nx (q ++ (V.texts b (x :: r) ++ shutB k :: s)) q.length = nx (q ++ (V.texts b (x :: r) ++ shutB k :: s)) q1.length ∧
              q ++ (V.texts b (x :: r) ++ shutB k :: s) = q1 ++ (x.text ++ (V.texts false r ++ shutB k :: s)) ∧ q1.length + x.text.length + (V.texts false r).length = q.length + (V.texts b (x :: r)).length := by
            rw [V.texts]
            cases b with
            | true => exact ⟨q, Nat.le_refl _, rfl, by simp, by simp; omega⟩
            | false =>
              refine ⟨q ++ [32], by simp, ?_, by simp, by simp; omega⟩
              have := nx_blank q 32 (x.text ++ V.texts false r ++ shutB k :: s) (by decide)
              simpa using this
          have hxt := text_ne x
          have hll : (V.texts b (x :: r) ++ shutB k :: s).length = (V.texts b (x :: r)).length + (s.length + 1) := by simp
          have hrl : (x.text ++ (V.texts false r ++ shutB k :: s)).length = x.text.length + (V.texts false r).length + (s.length + 1) := by simp; omega
          have hrl2 : (V.texts false r ++ shutB k :: s).length = (V.texts false r).length + (s.length + 1) := by simp
          have hp := hx x List.mem_cons_self q1 (V.texts false r ++ shutB k :: s) f m (deep + 1) (acc.length + 1) (hl x List.mem_cons_self) (by have := Nat.le_max_left x.deep (V.deeps r); omega) (by omega) (by omega) (stops_rest k r s) (by omega)
          rw [← hL] at hp
          have h1 := pval_first hp
          have hqq : q1.length + x.text.length = (q1 ++ x.text).length := by simp
          have hrec := ihr (fun y hy => hx y (List.mem_cons_of_mem _ hy)) (fun y hy => hl y (List.mem_cons_of_mem _ hy)) false (q1 ++ x.text) (acc ++ [x]) (m + x.size) f (by have := Nat.le_max_right x.deep (V.deeps r); omega) (by omega) (by simp; omega) (by omega)
          rw [List.append_assoc, ← hL, ← hqq] at hrec
          rw [← hnx] at h1
          rw [pitems, if_neg (by omega), if_neg h1.2, pval_nx hnx, hp]
          show pitems f _ (q1.length + x.text.length) (m + x.size) k deep (acc ++ [x]) = _
          rw [hrec, List.append_assoc]
          show PR.ok (acc ++ ([x] ++ r)) _ _ = PR.ok (acc ++ x :: r) _ _
          rw [V.sizes]
          congr 1 <;> omega
      obtain ⟨hr, hbr⟩ := open_tok k
      have ht : (V.mk k 0 l).text = openB k :: (V.texts true l ++ [shutB k]) := by rw [V.text, if_neg (by omega), if_neg (by omega)]
      have hL : p ++ ((V.mk k 0 l).text ++ s) = p ++ ([openB k] ++ (V.texts true l ++ shutB k :: s)) := by rw [ht]; simp
      have hlen : (V.mk k 0 l).text.length = (V.texts true l).length + 2 := by rw [ht]; simp
      have hx := nx_tok p (cut_br (openB k) (V.texts true l ++ shutB k :: s) hbr)
      rw [hr, ofGot_ok] at hx
      have hb : beginV (if k = 3 then 5 else 3, p.length, p.length + 1, 0, []) = (.mk k 0 [], 0) := by
        rcases hk with rfl | rfl <;> rfl
      have hc := V.check_leaf k 0 (by rcases hk with rfl | rfl <;> rfl)
      have hv : valE (if k = 3 then 5 else 3, p.length, p.length + 1, 0, []) m deep item = 0 := by
        unfold valE
        rw [hb, if_neg (by simp), if_neg (by omega), if_neg (by omega), if_neg (by omega)]
        exact hc
      rw [pval, hL, hx, if_neg (by simp)]
      rw [if_neg (by simp only [List.length_singleton]; rw [hv]; simp)]
      simp only [List.length_singleton]
      rw [hb, if_pos (show (V.mk k 0 []).k = 3 ∨ (V.mk k 0 []).k = 4 from hk)]
      have hfl : (p ++ ((V.mk k 0 l).text ++ s)).length = p.length + ((V.texts true l).length + 2 + s.length) := by rw [List.length_append, List.length_append, hlen]
      rw [List.length_append, hlen] at hfu
      have hrec := hit l ih hl true (p ++ [openB k]) [] (m + 1) f (by omega) (by omega) (by simpa using h64) (by simp; omega)
      rw [show (p ++ [openB k]) ++ (V.texts true l ++ shutB k :: s) = p ++ ([openB k] ++ (V.texts true l ++ shutB k :: s)) by simp, show (p ++ [openB k]).length = p.length + 1 by simp] at hrec
      show bindP (pitems f _ (p.length + 1) (m + 1) k deep []) _ = _
      rw [hrec]
      show PR.ok (V.mk k 0 ([] ++ l)) _ _ = PR.ok (V.mk k 0 l) _ _
      rw [List.nil_append, V.size, hlen]
      congr 1 <;> omega
end Go.Proofs.YtbhekkkijomglaaGreatDoor
