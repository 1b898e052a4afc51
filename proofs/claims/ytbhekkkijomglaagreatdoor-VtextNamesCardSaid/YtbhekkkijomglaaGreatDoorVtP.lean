/- Values read of a text, in plain Lean. No program in sight. -/
import Derived.Test.YtbhekkkijomglaaGreatDoorBldZ
import Derived.Test.YtbhekkkijomglaaGreatDoorLexQ
namespace Go.Proofs.YtbhekkkijomglaaGreatDoor
open Go

/-- What a reader tells: what is read, where it ends, how many values there were; or the place and the error. -/
inductive PR (α : Type) where
  | ok (v : α) (a m : Nat)
  | bad (p e : Nat)
def trueW : List UInt8 := [116, 114, 117, 101]
def falseW : List UInt8 := [102, 97, 108, 115, 101]
/-- The value that a mark begins, and what is wrong of it. -/
def beginV (m : MarkT) : V × Nat :=
  if m.1 = 10 then (.mk 0 0 [], 4)
  else if m.1 = 8 then (.mk 1 m.2.2.2.1 [], 0)
  else if m.1 = 7 ∧ (m.2.2.2.2 = trueW ∨ m.2.2.2.2 = falseW) then (.mk 2 (if m.2.2.2.2 = trueW then 1 else 0) [], 0)
  else if m.1 = 5 then (.mk 3 0 [], 0)
  else if m.1 = 3 then (.mk 4 0 [], 0)
  else (.mk 0 0 [], 3)
def shutsK (k : Nat) : Prop := k = 2 ∨ k = 4 ∨ k = 6
instance (k : Nat) : Decidable (shutsK k) := by unfold shutsK; infer_instance
def overK (k : Nat) : Nat := if k = 3 then 6 else 4
def nx (l : List UInt8) (a : Nat) : NextR := fromRest a (l.drop a)
def bindP {α β : Type} (x : PR α) (f : α → Nat → Nat → PR β) : PR β := match x with | .ok v a m => f v a m | .bad p e => .bad p e
/-- What is wrong of the mark with which a value begins: Value's questions in their row. -/
def valE (x : MarkT) (m deep item : Nat) : Nat :=
  if (beginV x).2 ≠ 0 then (beginV x).2 else if 64 < item then 5 else if 128 < deep then 9 else if 4096 < m + 1 then 5 else (beginV x).1.check
mutual
def pval : Nat → List UInt8 → Nat → Nat → Nat → Nat → PR V
  | 0, _, _, _, _, _ => .bad 0 0
  | f + 1, l, a, m, deep, item =>
    if (nx l a).2.2 ≠ 0 then .bad (nx l a).2.1 (nx l a).2.2
    else if valE (nx l a).1 m deep item ≠ 0 then .bad (nx l a).1.2.1 (valE (nx l a).1 m deep item)
    else if (beginV (nx l a).1).1.k = 3 ∨ (beginV (nx l a).1).1.k = 4 then
      bindP (pitems f l (nx l a).1.2.2.1 (m + 1) (beginV (nx l a).1).1.k deep []) fun vs a' m' => .ok (.mk (beginV (nx l a).1).1.k 0 vs) a' m'
    else .ok (beginV (nx l a).1).1 (nx l a).1.2.2.1 (m + 1)
def pitems : Nat → List UInt8 → Nat → Nat → Nat → Nat → List V → PR (List V)
  | 0, _, _, _, _, _, _ => .bad 0 0
  | f + 1, l, a, m, k, deep, acc =>
    if (nx l a).2.2 ≠ 0 then .bad (nx l a).2.1 (nx l a).2.2
    else if shutsK (nx l a).1.1 then (if (nx l a).1.1 ≠ overK k then .bad (nx l a).1.2.1 3 else .ok acc (nx l a).1.2.2.1 m)
    else bindP (pval f l a m (deep + 1) (acc.length + 1)) fun v a' m' => pitems f l a' m' k deep (acc ++ [v])
end

/-! ### Where the next mark stands -/
theorem nx_end {l : List UInt8} {a : Nat} (ha : a ≤ l.length) (h0 : (nx l a).2.2 = 0) (hk : (nx l a).1.1 ≠ 10) : a < (nx l a).1.2.2.1 ∧ (nx l a).1.2.2.1 ≤ l.length := by
  have := fromRest_ends a (l.drop a) h0 hk
  rw [List.length_drop] at this
  exact ⟨this.1, by have := this.2; unfold nx; omega⟩
theorem valE_stop {x : MarkT} {m deep item : Nat} (h : valE x m deep item = 0) : x.1 ≠ 10 := by
  intro e
  unfold valE beginV at h
  rw [if_pos e] at h
  simp at h
theorem rest_app (a : Nat) (r s : List UInt8) (hs : Stops s) (h : (fromRest a r).1.1 ≠ 10) : fromRest a (r ++ s) = fromRest a r := by
  rcases Nat.lt_or_eq_of_le (skipN_le r) with hl | hl
  · obtain ⟨bl, x, t, rfl, hb, hc⟩ := split_text r hl
    rw [List.append_assoc, List.append_assoc, rest_blanks _ _ _ hb, rest_blanks _ _ _ hb, rest_run _ (hc.app hs), rest_run _ hc]
  · rw [fromRest_end _ _ hl] at h
    exact absurd rfl h
theorem nx_app {l s : List UInt8} {a : Nat} (ha : a ≤ l.length) (hs : Stops s) (h : (nx l a).1.1 ≠ 10) : nx (l ++ s) a = nx l a := by
  unfold nx at h ⊢
  rw [List.drop_append_of_le_length ha]
  exact rest_app _ _ _ hs h

/-! ### Fuel -/
theorem bindP_ok {α β : Type} {x : PR α} {f : α → Nat → Nat → PR β} {v : β} {a m : Nat} (h : bindP x f = .ok v a m) : ∃ u b n, x = .ok u b n ∧ f u b n = .ok v a m := by
  cases x with
  | ok u b n => exact ⟨u, b, n, rfl, h⟩
  | bad p e => cases h
/-- What is read ends farther on, and within. -/
theorem read_ends : ∀ f, (∀ l a m deep item v a' m', a ≤ l.length → pval f l a m deep item = .ok v a' m' → a < a' ∧ a' ≤ l.length) ∧
    (∀ l a m k deep acc vs a' m', a ≤ l.length → pitems f l a m k deep acc = .ok vs a' m' → a < a' ∧ a' ≤ l.length) := by
  intro f
  induction f with
  | zero => exact ⟨(fun _ _ _ _ _ _ _ _ _ h => by rw [pval] at h; cases h), (fun _ _ _ _ _ _ _ _ _ _ h => by rw [pitems] at h; cases h)⟩
  | succ f ih =>
    refine ⟨fun l a m deep item v a' m' ha h => ?_, fun l a m k deep acc vs a' m' ha h => ?_⟩
    · rw [pval] at h
      by_cases h0 : (nx l a).2.2 ≠ 0
      · rw [if_pos h0] at h; cases h
      rw [if_neg h0] at h
      by_cases h1 : valE (nx l a).1 m deep item ≠ 0
      · rw [if_pos h1] at h; cases h
      rw [if_neg h1] at h
      have he := nx_end ha (by omega) (valE_stop (m := m) (deep := deep) (item := item) (by omega))
      by_cases h2 : (beginV (nx l a).1).1.k = 3 ∨ (beginV (nx l a).1).1.k = 4
      · rw [if_pos h2] at h
        obtain ⟨u, b, n, hx, hy⟩ := bindP_ok h
        have := ih.2 _ _ _ _ _ _ _ _ _ he.2 hx
        cases hy
        omega
      · rw [if_neg h2] at h
        cases h
        exact he
    · rw [pitems] at h
      by_cases h0 : (nx l a).2.2 ≠ 0
      · rw [if_pos h0] at h; cases h
      rw [if_neg h0] at h
      by_cases h1 : shutsK (nx l a).1.1
      · rw [if_pos h1] at h
        by_cases h2 : (nx l a).1.1 ≠ overK k
        · rw [if_pos h2] at h; cases h
        · rw [if_neg h2] at h
          cases h
          exact nx_end ha (by omega) (by unfold shutsK at h1; omega)
      · rw [if_neg h1] at h
        obtain ⟨u, b, n, hx, hy⟩ := bindP_ok h
        have e1 := ih.1 _ _ _ _ _ _ _ _ ha hx
        have e2 := ih.2 _ _ _ _ _ _ _ _ _ e1.2 hy
        omega
theorem bindP_congr {α β : Type} {x y : PR α} {f g : α → Nat → Nat → PR β} (h : x = y) (hf : ∀ v a m, y = .ok v a m → f v a m = g v a m) : bindP x f = bindP y g := by
  subst h
  cases x with
  | ok v a m => exact hf v a m rfl
  | bad p e => rfl
/-- More fuel changes nothing. -/
theorem read_fuel : ∀ f g, (∀ l a m deep item, a ≤ l.length → 2 * (l.length - a) + 1 ≤ f → 2 * (l.length - a) + 1 ≤ g → pval f l a m deep item = pval g l a m deep item) ∧
    (∀ l a m k deep acc, a ≤ l.length → 2 * (l.length - a) + 2 ≤ f → 2 * (l.length - a) + 2 ≤ g → pitems f l a m k deep acc = pitems g l a m k deep acc) := by
  intro f
  induction f with
  | zero => exact fun g => ⟨fun _ _ _ _ _ _ h _ => by omega, fun _ _ _ _ _ _ _ h _ => by omega⟩
  | succ f ih =>
    intro g
    cases g with
    | zero => exact ⟨fun _ _ _ _ _ _ _ h => by omega, fun _ _ _ _ _ _ _ _ h => by omega⟩
    | succ g =>
      refine ⟨fun l a m deep item ha hf hg => ?_, fun l a m k deep acc ha hf hg => ?_⟩
      · rw [pval, pval]
        by_cases h0 : (nx l a).2.2 ≠ 0
        · rw [if_pos h0, if_pos h0]
        rw [if_neg h0, if_neg h0]
        by_cases h1 : valE (nx l a).1 m deep item ≠ 0
        · rw [if_pos h1, if_pos h1]
        rw [if_neg h1, if_neg h1]
        have he := nx_end ha (by omega) (valE_stop (m := m) (deep := deep) (item := item) (by omega))
        by_cases h2 : (beginV (nx l a).1).1.k = 3 ∨ (beginV (nx l a).1).1.k = 4
        · rw [if_pos h2, if_pos h2]
          exact bindP_congr ((ih g).2 _ _ _ _ _ _ he.2 (by omega) (by omega)) (fun _ _ _ _ => rfl)
        · rw [if_neg h2, if_neg h2]
      · rw [pitems, pitems]
        by_cases h0 : (nx l a).2.2 ≠ 0
        · rw [if_pos h0, if_pos h0]
        rw [if_neg h0, if_neg h0]
        by_cases h1 : shutsK (nx l a).1.1
        · rw [if_pos h1, if_pos h1]
        rw [if_neg h1, if_neg h1]
        refine bindP_congr ((ih g).1 _ _ _ _ _ ha (by omega) (by omega)) (fun v a' m' hx => ?_)
        have e1 := (read_ends g).1 _ _ _ _ _ _ _ _ ha hx
        exact (ih g).2 _ _ _ _ _ _ e1.2 (by omega) (by omega)
def fuelV (l : List UInt8) : Nat := 2 * l.length + 2
/-- The value that begins from a place on. -/
def partV (l : List UInt8) (i : Int) : PR V := if i < 0 ∨ (l.length : Int) < i then .bad 0 1 else pval (fuelV l) l i.toNat 0 1 1
def readV (l : List UInt8) : PR V :=
  if 65536 < l.length then .bad 0 5
  else bindP (partV l 0) fun v a m => if (nx l a).2.2 ≠ 0 then .bad (nx l a).2.1 (nx l a).2.2 else if (nx l a).1.1 ≠ 10 then .bad (nx l a).1.2.1 6 else .ok v 0 m
end Go.Proofs.YtbhekkkijomglaaGreatDoor
