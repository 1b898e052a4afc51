/- A text of a Tuple or a List, cut, is refused: plain laws. No program in sight. -/
import Derived.Test.YtbhekkkijomglaaGreatDoorVtR
namespace Go.Proofs.YtbhekkkijomglaaGreatDoor
open Go

/-- How many brackets are open. -/
def balB (b : UInt8) : Int := if b = 60 ∨ b = 91 then 1 else if b = 62 ∨ b = 93 then -1 else 0
def bal : List UInt8 → Int
  | [] => 0
  | b :: r => balB b + bal r
theorem bal_append (x y : List UInt8) : bal (x ++ y) = bal x + bal y := by
  induction x with
  | nil => rw [List.nil_append, bal]; omega
  | cons b r ih => rw [List.cons_append, bal, bal, ih]; omega
theorem bal_go {b : UInt8} (h : stopB b = false) : balB b = 0 := by
  unfold balB
  rw [if_neg (by rintro (rfl | rfl) <;> exact absurd h (by decide)), if_neg (by rintro (rfl | rfl) <;> exact absurd h (by decide))]
theorem bal_blank {b : UInt8} (h : blankB b = true) : balB b = 0 := by
  unfold balB
  rw [if_neg (by rintro (rfl | rfl) <;> exact absurd h (by decide)), if_neg (by rintro (rfl | rfl) <;> exact absurd h (by decide))]
theorem bal_zero {x : List UInt8} (h : ∀ c ∈ x, balB c = 0) : bal x = 0 := by
  induction x with
  | nil => rfl
  | cons b r ih => rw [bal, h b List.mem_cons_self, ih fun c hc => h c (List.mem_cons_of_mem _ hc)]; rfl
/-- What a mark does to the count. -/
def balK (k : Nat) : Int := if k = 3 ∨ k = 5 then 1 else if k = 4 ∨ k = 6 then -1 else 0
theorem run_bal {x t : List UInt8} (h : Cut x t) (h0 : (lexRun x).2 = 0) : bal x = balK (lexRun x).1.1 := by
  rcases h.run with ⟨hb, hl⟩ | ⟨hg, _⟩
  · cases x with
    | nil => cases hl
    | cons b r =>
      have hr : r = [] := List.length_eq_zero_iff.1 (by simpa using hl)
      subst hr
      have hb' : brB b = true := hb
      have hx : (lexRun [b]).1.1 = brK b := by unfold lexRun; rw [if_pos hb]; rfl
      rw [hx, bal, bal]
      have hk : b = 40 ∨ b = 41 ∨ b = 91 ∨ b = 93 ∨ b = 60 ∨ b = 62 := by
        unfold brB brK at hb'
        by_cases q1 : b = 40
        · exact .inl q1
        by_cases q2 : b = 41
        · exact .inr (.inl q2)
        by_cases q3 : b = 91
        · exact .inr (.inr (.inl q3))
        by_cases q4 : b = 93
        · exact .inr (.inr (.inr (.inl q4)))
        by_cases q5 : b = 60
        · exact .inr (.inr (.inr (.inr (.inl q5))))
        by_cases q6 : b = 62
        · exact .inr (.inr (.inr (.inr (.inr q6))))
        · simp [q1, q2, q3, q4, q5, q6] at hb'
      rcases hk with rfl | rfl | rfl | rfl | rfl | rfl <;> decide
  · rw [bal_zero fun c hc => bal_go (hg c hc)]
    have hnb : ¬ brB (x.headD 0) = true := by
      cases x with
      | nil => exact absurd rfl h.ne
      | cons b r =>
        have := go_br (hg b List.mem_cons_self)
        show ¬ brB b = true
        rw [this]; decide
    have hk : (lexRun x).1.1 = 7 ∨ (lexRun x).1.1 = 8 ∨ (lexRun x).1.1 = 9 := by
      unfold lexRun lexNum lexRow at h0 ⊢
      rw [if_neg hnb] at h0 ⊢
      repeat' split at h0
      all_goals first | exact absurd h0 (by decide) | simp_all
    unfold balK
    rcases hk with e | e | e <;> rw [e] <;> decide
theorem nx_bal {l : List UInt8} {a : Nat} (ha : a ≤ l.length) (h0 : (nx l a).2.2 = 0) (hk : (nx l a).1.1 ≠ 10) : bal ((l.drop a).take ((nx l a).1.2.2.1 - a)) = balK (nx l a).1.1 := by
  have hle := skipN_le (l.drop a)
  unfold nx at h0 hk ⊢
  generalize l.drop a = r at *
  rcases Nat.lt_or_eq_of_le hle with hs | hs
  · obtain ⟨bl, x, t, rfl, hb, hc⟩ := split_text r hs
    rw [rest_blanks bl a _ hb, rest_run _ hc] at h0 hk ⊢
    unfold ofGot at h0 hk ⊢
    by_cases h1 : (lexRun x).2 = 0
    · rw [if_pos h1] at h0 hk ⊢
      show bal ((bl ++ (x ++ t)).take (a + bl.length + x.length - a)) = balK (lexRun x).1.1
      rw [show a + bl.length + x.length - a = (bl ++ x).length by rw [List.length_append]; omega, ← List.append_assoc, List.take_left, bal_append, run_bal hc h1, bal_zero fun c hc => bal_blank (List.all_eq_true.1 hb c hc)]
      omega
    · rw [if_neg h1] at h0; exact absurd h0 h1
  · rw [fromRest_end a r hs] at hk
    exact absurd rfl hk
theorem bal_two {l : List UInt8} {a b c : Nat} (h1 : a ≤ b) (h2 : b ≤ c) : bal ((l.drop a).take (c - a)) = bal ((l.drop a).take (b - a)) + bal ((l.drop b).take (c - b)) := by
  have e : (l.drop a).take (c - a) = (l.drop a).take (b - a) ++ ((l.drop a).drop (b - a)).take (c - b) := by
    rw [show c - a = (b - a) + (c - b) by omega, List.take_add]
  rw [e, bal_append, List.drop_drop, show a + (b - a) = b by omega]
theorem begin_bal {x : MarkT} (h : (beginV x).2 = 0) : balK x.1 = if (beginV x).1.k = 3 ∨ (beginV x).1.k = 4 then 1 else 0 := by
  unfold beginV at h ⊢
  by_cases k10 : x.1 = 10
  · rw [if_pos k10] at h; exact absurd h (by decide)
  rw [if_neg k10] at h ⊢
  by_cases k8 : x.1 = 8
  · rw [if_pos k8, k8]; simp [balK, V.k]
  rw [if_neg k8] at h ⊢
  by_cases k7 : x.1 = 7 ∧ (x.2.2.2.2 = trueW ∨ x.2.2.2.2 = falseW)
  · rw [if_pos k7, k7.1]; rfl
  rw [if_neg k7] at h ⊢
  by_cases k5 : x.1 = 5
  · rw [if_pos k5, k5]; decide
  rw [if_neg k5] at h ⊢
  by_cases k3 : x.1 = 3
  · rw [if_pos k3, k3]; decide
  rw [if_neg k3] at h
  exact absurd h (by decide)
/-- What is read closes as many as it opens. -/
theorem read_bal : ∀ f, (∀ l a m deep item v a' m', a ≤ l.length → pval f l a m deep item = .ok v a' m' → bal ((l.drop a).take (a' - a)) = 0) ∧
    (∀ l a m k deep acc vs a' m', a ≤ l.length → pitems f l a m k deep acc = .ok vs a' m' → bal ((l.drop a).take (a' - a)) = -1) := by
  intro f
  induction f with
  | zero => exact ⟨(fun _ _ _ _ _ _ _ _ _ h => by rw [pval] at h; cases h), (fun _ _ _ _ _ _ _ _ _ _ h => by rw [pitems] at h; cases h)⟩
  | succ f ih =>
    refine ⟨fun l a m deep item v a' m' ha h => ?_, fun l a m k deep acc vs a' m' ha h => ?_⟩
    · rw [pval] at h
      by_cases h0 : (nx l a).2.2 ≠ 0
      · rw [if_pos h0] at h; cases h
      rw [if_neg h0] at h
      by_cases h1 : valE (nx l a).1 m deep item ≠ 0
      · rw [if_pos h1] at h; cases h
      rw [if_neg h1] at h
      have hz : valE (nx l a).1 m deep item = 0 := by omega
      have he := nx_end ha (by omega) (valE_stop hz)
      have hb := nx_bal ha (by omega) (valE_stop hz)
      rw [begin_bal (valE_zero hz).1] at hb
      by_cases h2 : (beginV (nx l a).1).1.k = 3 ∨ (beginV (nx l a).1).1.k = 4
      · rw [if_pos h2] at h hb
        obtain ⟨u, b, n, hx, hy⟩ := bindP_ok h
        have e1 := (read_ends f).2 _ _ _ _ _ _ _ _ _ he.2 hx
        have e2 := ih.2 _ _ _ _ _ _ _ _ _ he.2 hx
        cases hy
        rw [bal_two (by omega : a ≤ (nx l a).1.2.2.1) (by omega), hb, e2]
        rfl
      · rw [if_neg h2] at h hb
        cases h
        exact hb
    · rw [pitems] at h
      by_cases h0 : (nx l a).2.2 ≠ 0
      · rw [if_pos h0] at h; cases h
      rw [if_neg h0] at h
      by_cases h1 : shutsK (nx l a).1.1
      · rw [if_pos h1] at h
        by_cases h2 : (nx l a).1.1 ≠ overK k
        · rw [if_pos h2] at h; cases h
        · rw [if_neg h2] at h
          have hb := nx_bal ha (by omega) (by unfold shutsK at h1; omega)
          cases h
          rw [hb, show (nx l a).1.1 = overK k by omega]
          unfold balK overK
          split <;> decide
      · rw [if_neg h1] at h
        obtain ⟨u, b, n, hx, hy⟩ := bindP_ok h
        have e1 := (read_ends f).1 _ _ _ _ _ _ _ _ ha hx
        have e2 := (read_ends f).2 _ _ _ _ _ _ _ _ _ e1.2 hy
        rw [bal_two (by omega : a ≤ b) (by omega), ih.1 _ _ _ _ _ _ _ _ ha hx, ih.2 _ _ _ _ _ _ _ _ _ e1.2 hy]
        rfl
/-- Cut anywhere, a text never closes more than it opens. -/
theorem text_bal : ∀ v : V, v.first = 0 → bal v.text = 0 ∧ ∀ j, 0 ≤ bal (v.text.take j) := by
  intro v
  induction v using V.ind with
  | h k n l ih =>
    intro hf
    obtain ⟨hn, hl⟩ := first_zero.1 hf
    have hgo : ∀ x : List UInt8, GoRun x → brB (x.headD 0) = false → bal x = 0 ∧ ∀ j, 0 ≤ bal (x.take j) := fun x hg hb => by
      have hall : ∀ c ∈ x, stopB c = false := by
        rcases hg.2 with ⟨q, _⟩ | q
        · rw [hb] at q; cases q
        · exact q
      refine ⟨bal_zero fun c hc => bal_go (hall c hc), fun j => ?_⟩
      rw [bal_zero fun c hc => bal_go (hall c (List.mem_of_mem_take hc))]
      exact Int.le_refl _
    rcases node_cases hn with ⟨rfl, rfl, h1, h2⟩ | ⟨rfl, rfl, h1⟩ | ⟨hk, rfl, h64⟩
    · rw [V.text, if_pos rfl]
      obtain ⟨hg, hr⟩ := num_tok n (by omega) (by omega)
      refine hgo _ hg ?_
      cases hb : brB ((Lib.itoa n).headD 0) with
      | false => rfl
      | true =>
        have : (lexRun (Lib.itoa n)).1.1 = brK ((Lib.itoa n).headD 0) := by unfold lexRun; rw [if_pos hb]
        rw [hr] at this
        have h6 := brK_le ((Lib.itoa n).headD 0)
        have : 8 = brK ((Lib.itoa n).headD 0) := this
        omega
    · rw [V.text, if_neg (by decide), if_pos rfl]
      rcases h1 with rfl | rfl
      · exact hgo _ false_tok.1 (by decide)
      · exact hgo _ true_tok.1 (by decide)
    · have hit : ∀ (l : List V), (∀ x ∈ l, x.first = 0 → bal x.text = 0 ∧ ∀ j, 0 ≤ bal (x.text.take j)) → (∀ x ∈ l, x.first = 0) → ∀ b, bal (V.texts b l) = 0 ∧ ∀ j, 0 ≤ bal ((V.texts b l).take j) := by
        intro l
        induction l with
        | nil => intro _ _ b; rw [V.texts]; exact ⟨rfl, fun j => by rw [List.take_nil]; exact Int.le_refl _⟩
        | cons x r ihr =>
          intro hx hl b
          obtain ⟨x1, x2⟩ := hx x List.mem_cons_self (hl x List.mem_cons_self)
          obtain ⟨r1, r2⟩ := ihr (fun y hy => hx y (List.mem_cons_of_mem _ hy)) (fun y hy => hl y (List.mem_cons_of_mem _ hy)) false
          have two : bal (x.text ++ V.texts false r) = 0 ∧ ∀ j, 0 ≤ bal ((x.text ++ V.texts false r).take j) := by
            refine ⟨by rw [bal_append, x1, r1]; rfl, fun j => ?_⟩
            rw [List.take_append, bal_append]
            have := x2 j; have := r2 (j - x.text.length)
            omega
          rw [V.texts]
          cases b with
          | true => rw [if_pos rfl]; exact two
          | false =>
            rw [if_neg (by decide), List.cons_append]
            refine ⟨by rw [bal, two.1]; decide, fun j => ?_⟩
            cases j with
            | zero => rw [List.take_zero]; exact Int.le_refl _
            | succ j =>
              rw [List.take_succ_cons, bal]
              have := two.2 j
              have h32 : balB 32 = 0 := by decide
              omega
      obtain ⟨t1, t2⟩ := hit l (fun x hx hf => ih x hx hf) hl true
      have ho : balB (openB k) = 1 := by rcases hk with rfl | rfl <;> decide
      have hs : balB (shutB k) = -1 := by rcases hk with rfl | rfl <;> decide
      rw [V.text, if_neg (by omega), if_neg (by omega)]
      refine ⟨by rw [bal, bal_append, t1, bal, bal, ho, hs]; rfl, fun j => ?_⟩
      cases j with
      | zero => rw [List.take_zero]; exact Int.le_refl _
      | succ j =>
        rw [List.take_succ_cons, bal, List.take_append, bal_append]
        have := t2 j
        have h1 : -1 ≤ bal (([shutB k] : List UInt8).take (j - (V.texts true l).length)) := by
          cases j - (V.texts true l).length with
          | zero => rw [List.take_zero]; decide
          | succ i => rw [List.take_succ_cons, List.take_nil, bal, bal, hs]; decide
        omega
theorem tuple_cut {k : Nat} {n : Int} {l : List V} (hk : k = 3 ∨ k = 4) (hf : (V.mk k n l).first = 0) (j : Nat) (h0 : 0 < j) (hj : j < (V.mk k n l).text.length) : 0 < bal ((V.mk k n l).text.take j) := by
  obtain ⟨hn, hl⟩ := first_zero.1 hf
  have hit : ∀ (l : List V), (∀ x ∈ l, x.first = 0) → ∀ b j, 0 ≤ bal ((V.texts b l).take j) := by
    intro l
    induction l with
    | nil => intro _ b j; rw [V.texts, List.take_nil]; exact Int.le_refl _
    | cons x r ihr =>
      intro hl b j
      have x2 := (text_bal x (hl x List.mem_cons_self)).2
      have r2 := ihr (fun y hy => hl y (List.mem_cons_of_mem _ hy)) false
      have two : ∀ j, 0 ≤ bal ((x.text ++ V.texts false r).take j) := fun j => by
        rw [List.take_append, bal_append]
        have := x2 j; have := r2 (j - x.text.length)
        omega
      rw [V.texts]
      cases b with
      | true => rw [if_pos rfl]; exact two j
      | false =>
        rw [if_neg (by decide), List.cons_append]
        cases j with
        | zero => rw [List.take_zero]; exact Int.le_refl _
        | succ j =>
          rw [List.take_succ_cons, bal]
          have := two j
          have h32 : balB 32 = 0 := by decide
          omega
  have ho : balB (openB k) = 1 := by rcases hk with rfl | rfl <;> decide
  rw [V.text, if_neg (by omega), if_neg (by omega)] at hj ⊢
  obtain ⟨j, rfl⟩ : ∃ i, j = i + 1 := ⟨j - 1, by omega⟩
  rw [List.length_cons, List.length_append, List.length_singleton] at hj
  rw [List.take_succ_cons, bal, List.take_append, show j - (V.texts true l).length = 0 by omega, List.take_zero, List.append_nil, ho]
  have := hit l hl true j
  omega
end Go.Proofs.YtbhekkkijomglaaGreatDoor
