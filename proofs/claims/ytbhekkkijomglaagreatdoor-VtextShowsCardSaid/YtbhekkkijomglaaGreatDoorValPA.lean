/- Put together: ValP, VtP, VtQ, VtR, VtS, VtT, VtU. -/
import Derived.Test.YtbhekkkijomglaaGreatDoorLexS
import Derived.Test.YtbhekkkijomglaaGreatDoorNumA
namespace Go.Proofs.YtbhekkkijomglaaGreatDoor
/-! Values and their texts, in plain Lean. No program in sight. -/
section
open Go

/-- A value: its kind, its number, its items. -/
inductive V where
  | mk (k : Nat) (n : Int) (l : List V)
def V.k : V → Nat | .mk k _ _ => k
def V.n : V → Int | .mk _ n _ => n
def V.l : V → List V | .mk _ _ l => l
theorem V.eta (v : V) : v = .mk v.k v.n v.l := by cases v; rfl
theorem V.ind {P : V → Prop} (h : ∀ k n l, (∀ x ∈ l, P x) → P (.mk k n l)) : ∀ v, P v := by
  intro v
  induction hs : SizeOf.sizeOf v using Nat.strongRecOn generalizing v with
  | _ s ih =>
    cases v with
    | mk k n l =>
      refine h k n l fun x hx => ih (SizeOf.sizeOf x) ?_ x rfl
      have := List.sizeOf_lt_of_mem hx
      rw [← hs, V.mk.sizeOf_spec]
      omega

mutual
def V.size : V → Nat
  | .mk _ _ l => 1 + V.sizes l
def V.sizes : List V → Nat
  | [] => 0
  | x :: r => x.size + V.sizes r
end
mutual
def V.deep : V → Nat
  | .mk _ _ l => 1 + V.deeps l
def V.deeps : List V → Nat
  | [] => 0
  | x :: r => max x.deep (V.deeps r)
end
/-- What is wrong of a value, but for its items. -/
def nodeE (k : Nat) (n : Int) (len : Nat) : Nat :=
  if k = 1 ∧ (n < -1099511627776 ∨ 1099511627776 < n) then 1
  else if k = 2 ∧ n ≠ 0 ∧ n ≠ 1 then 1
  else if (k = 3 ∨ k = 4) ∧ n ≠ 0 then 3
  else if k = 0 ∨ 4 < k then 11
  else if (k = 1 ∨ k = 2) ∧ 0 < len then 3
  else if 64 < len then 5
  else 0
mutual
def V.first : V → Nat
  | .mk k n l => if nodeE k n l.length ≠ 0 then nodeE k n l.length else V.firsts l
def V.firsts : List V → Nat
  | [] => 0
  | x :: r => if x.first ≠ 0 then x.first else V.firsts r
end
def V.check (v : V) : Nat := if v.first ≠ 0 then v.first else if 128 < v.deep then 9 else if 4096 < v.size then 5 else 0
def openB (k : Nat) : UInt8 := if k = 3 then 60 else 91
def shutB (k : Nat) : UInt8 := if k = 3 then 62 else 93
mutual
def V.text : V → List UInt8
  | .mk k n l => if k = 1 then Lib.itoa n else if k = 2 then (if n = 1 then [116, 114, 117, 101] else [102, 97, 108, 115, 101]) else openB k :: (V.texts true l ++ [shutB k])
def V.texts : Bool → List V → List UInt8
  | _, [] => []
  | f, x :: r => (if f = true then x.text else 32 :: x.text) ++ V.texts false r
end
/-- A value's text, or why there is none. -/
def showV (v : V) : List UInt8 × Nat := if v.check ≠ 0 then ([], v.check) else if 65536 < v.text.length then ([], 5) else (v.text, 0)

theorem sizes_pos (v : V) : 0 < v.size := by cases v; rw [V.size]; omega
theorem size_mem {x : V} {l : List V} (h : x ∈ l) : x.size ≤ V.sizes l := by
  induction l with
  | nil => cases h
  | cons y r ih =>
    rw [V.sizes]
    rcases List.mem_cons.1 h with rfl | h
    · omega
    · have := ih h; omega
theorem deep_mem {x : V} {l : List V} (h : x ∈ l) : x.deep ≤ V.deeps l := by
  induction l with
  | nil => cases h
  | cons y r ih =>
    rw [V.deeps]
    rcases List.mem_cons.1 h with rfl | h
    · omega
    · have := ih h; omega
theorem firsts_zero {l : List V} : V.firsts l = 0 ↔ ∀ x ∈ l, x.first = 0 := by
  induction l with
  | nil => simp [V.firsts]
  | cons y r ih =>
    rw [V.firsts]
    by_cases h : y.first ≠ 0
    · rw [if_pos h]
      exact ⟨fun e => absurd e h, fun e => e y List.mem_cons_self⟩
    · rw [if_neg h, ih]
      have h' : y.first = 0 := by omega
      exact ⟨fun e x hx => by rcases List.mem_cons.1 hx with rfl | hx; exact h'; exact e x hx, fun e x hx => e x (List.mem_cons_of_mem _ hx)⟩
theorem first_zero {k : Nat} {n : Int} {l : List V} : (V.mk k n l).first = 0 ↔ nodeE k n l.length = 0 ∧ ∀ x ∈ l, x.first = 0 := by
  rw [V.first]
  by_cases h : nodeE k n l.length ≠ 0
  · rw [if_pos h]; exact ⟨fun e => absurd e h, fun e => e.1⟩
  · rw [if_neg h, firsts_zero]; exact ⟨fun e => ⟨by omega, e⟩, fun e => e.2⟩
end

/-! Values read of a text, in plain Lean. No program in sight. -/
section
open Go

/-- What a reader tells: what is read, where it ends, how many values there were; or the place and the error. -/
inductive PR (α : Type) where
  | ok (v : α) (a m : Nat)
  | bad (p e : Nat)
def trueW : List UInt8 := [116, 114, 117, 101]
def falseW : List UInt8 := [102, 97, 108, 115, 101]
/-- The value that a mark begins, and what is wrong of it. -/
def beginV (m : MarkT) : V × Nat :=
  if m.1 = 10 then (.mk 0 0 [], 4)
  else if m.1 = 8 then (.mk 1 m.2.2.2.1 [], 0)
  else if m.1 = 7 ∧ (m.2.2.2.2 = trueW ∨ m.2.2.2.2 = falseW) then (.mk 2 (if m.2.2.2.2 = trueW then 1 else 0) [], 0)
  else if m.1 = 5 then (.mk 3 0 [], 0)
  else if m.1 = 3 then (.mk 4 0 [], 0)
  else (.mk 0 0 [], 3)
def shutsK (k : Nat) : Prop := k = 2 ∨ k = 4 ∨ k = 6
instance (k : Nat) : Decidable (shutsK k) := by unfold shutsK; infer_instance
def overK (k : Nat) : Nat := if k = 3 then 6 else 4
def nx (l : List UInt8) (a : Nat) : NextR := fromRest a (l.drop a)
def bindP {α β : Type} (x : PR α) (f : α → Nat → Nat → PR β) : PR β := match x with | .ok v a m => f v a m | .bad p e => .bad p e
/-- What is wrong of the mark with which a value begins: Value's questions in their row. -/
def valE (x : MarkT) (m deep item : Nat) : Nat :=
  if (beginV x).2 ≠ 0 then (beginV x).2 else if 64 < item then 5 else if 128 < deep then 9 else if 4096 < m + 1 then 5 else (beginV x).1.check
mutual
def pval : Nat → List UInt8 → Nat → Nat → Nat → Nat → PR V
  | 0, _, _, _, _, _ => .bad 0 0
  | f + 1, l, a, m, deep, item =>
    if (nx l a).2.2 ≠ 0 then .bad (nx l a).2.1 (nx l a).2.2
    else if valE (nx l a).1 m deep item ≠ 0 then .bad (nx l a).1.2.1 (valE (nx l a).1 m deep item)
    else if (beginV (nx l a).1).1.k = 3 ∨ (beginV (nx l a).1).1.k = 4 then
      bindP (pitems f l (nx l a).1.2.2.1 (m + 1) (beginV (nx l a).1).1.k deep []) fun vs a' m' => .ok (.mk (beginV (nx l a).1).1.k 0 vs) a' m'
    else .ok (beginV (nx l a).1).1 (nx l a).1.2.2.1 (m + 1)
def pitems : Nat → List UInt8 → Nat → Nat → Nat → Nat → List V → PR (List V)
  | 0, _, _, _, _, _, _ => .bad 0 0
  | f + 1, l, a, m, k, deep, acc =>
    if (nx l a).2.2 ≠ 0 then .bad (nx l a).2.1 (nx l a).2.2
    else if shutsK (nx l a).1.1 then (if (nx l a).1.1 ≠ overK k then .bad (nx l a).1.2.1 3 else .ok acc (nx l a).1.2.2.1 m)
    else bindP (pval f l a m (deep + 1) (acc.length + 1)) fun v a' m' => pitems f l a' m' k deep (acc ++ [v])
end

/-! ### Where the next mark stands -/
theorem nx_end {l : List UInt8} {a : Nat} (ha : a ≤ l.length) (h0 : (nx l a).2.2 = 0) (hk : (nx l a).1.1 ≠ 10) : a < (nx l a).1.2.2.1 ∧ (nx l a).1.2.2.1 ≤ l.length := by
  have := fromRest_ends a (l.drop a) h0 hk
  rw [List.length_drop] at this
  exact ⟨this.1, by have := this.2; unfold nx; omega⟩
theorem valE_stop {x : MarkT} {m deep item : Nat} (h : valE x m deep item = 0) : x.1 ≠ 10 := by
  intro e
  unfold valE beginV at h
  rw [if_pos e] at h
  simp at h
theorem rest_app (a : Nat) (r s : List UInt8) (hs : Stops s) (h : (fromRest a r).1.1 ≠ 10) : fromRest a (r ++ s) = fromRest a r := by
  rcases Nat.lt_or_eq_of_le (skipN_le r) with hl | hl
  · obtain ⟨bl, x, t, rfl, hb, hc⟩ := split_text r hl
    rw [List.append_assoc, List.append_assoc, rest_blanks _ _ _ hb, rest_blanks _ _ _ hb, rest_run _ (hc.app hs), rest_run _ hc]
  · rw [fromRest_end _ _ hl] at h
    exact absurd rfl h
theorem nx_app {l s : List UInt8} {a : Nat} (ha : a ≤ l.length) (hs : Stops s) (h : (nx l a).1.1 ≠ 10) : nx (l ++ s) a = nx l a := by
  unfold nx at h ⊢
  rw [List.drop_append_of_le_length ha]
  exact rest_app _ _ _ hs h

/-! ### Fuel -/
theorem bindP_ok {α β : Type} {x : PR α} {f : α → Nat → Nat → PR β} {v : β} {a m : Nat} (h : bindP x f = .ok v a m) : ∃ u b n, x = .ok u b n ∧ f u b n = .ok v a m := by
  cases x with
  | ok u b n => exact ⟨u, b, n, rfl, h⟩
  | bad p e => cases h
/-- What is read ends farther on, and within. -/
theorem read_ends : ∀ f, (∀ l a m deep item v a' m', a ≤ l.length → pval f l a m deep item = .ok v a' m' → a < a' ∧ a' ≤ l.length) ∧
    (∀ l a m k deep acc vs a' m', a ≤ l.length → pitems f l a m k deep acc = .ok vs a' m' → a < a' ∧ a' ≤ l.length) := by
  intro f
  induction f with
  | zero => exact ⟨(fun _ _ _ _ _ _ _ _ _ h => by rw [pval] at h; cases h), (fun _ _ _ _ _ _ _ _ _ _ h => by rw [pitems] at h; cases h)⟩
  | succ f ih =>
    refine ⟨fun l a m deep item v a' m' ha h => ?_, fun l a m k deep acc vs a' m' ha h => ?_⟩
    · rw [pval] at h
      by_cases h0 : (nx l a).2.2 ≠ 0
      · rw [if_pos h0] at h; cases h
      rw [if_neg h0] at h
      by_cases h1 : valE (nx l a).1 m deep item ≠ 0
      · rw [if_pos h1] at h; cases h
      rw [if_neg h1] at h
      have he := nx_end ha (by omega) (valE_stop (m := m) (deep := deep) (item := item) (by omega))
      by_cases h2 : (beginV (nx l a).1).1.k = 3 ∨ (beginV (nx l a).1).1.k = 4
      · rw [if_pos h2] at h
        obtain ⟨u, b, n, hx, hy⟩ := bindP_ok h
        have := ih.2 _ _ _ _ _ _ _ _ _ he.2 hx
        cases hy
        omega
      · rw [if_neg h2] at h
        cases h
        exact he
    · rw [pitems] at h
      by_cases h0 : (nx l a).2.2 ≠ 0
      · rw [if_pos h0] at h; cases h
      rw [if_neg h0] at h
      by_cases h1 : shutsK (nx l a).1.1
      · rw [if_pos h1] at h
        by_cases h2 : (nx l a).1.1 ≠ overK k
        · rw [if_pos h2] at h; cases h
        · rw [if_neg h2] at h
          cases h
          exact nx_end ha (by omega) (by unfold shutsK at h1; omega)
      · rw [if_neg h1] at h
        obtain ⟨u, b, n, hx, hy⟩ := bindP_ok h
        have e1 := ih.1 _ _ _ _ _ _ _ _ ha hx
        have e2 := ih.2 _ _ _ _ _ _ _ _ _ e1.2 hy
        omega
theorem bindP_congr {α β : Type} {x y : PR α} {f g : α → Nat → Nat → PR β} (h : x = y) (hf : ∀ v a m, y = .ok v a m → f v a m = g v a m) : bindP x f = bindP y g := by
  subst h
  cases x with
  | ok v a m => exact hf v a m rfl
  | bad p e => rfl
/-- More fuel changes nothing. -/
theorem read_fuel : ∀ f g, (∀ l a m deep item, a ≤ l.length → 2 * (l.length - a) + 1 ≤ f → 2 * (l.length - a) + 1 ≤ g → pval f l a m deep item = pval g l a m deep item) ∧
    (∀ l a m k deep acc, a ≤ l.length → 2 * (l.length - a) + 2 ≤ f → 2 * (l.length - a) + 2 ≤ g → pitems f l a m k deep acc = pitems g l a m k deep acc) := by
  intro f
  induction f with
  | zero => exact fun g => ⟨fun _ _ _ _ _ _ h _ => by omega, fun _ _ _ _ _ _ _ h _ => by omega⟩
  | succ f ih =>
    intro g
    cases g with
    | zero => exact ⟨fun _ _ _ _ _ _ _ h => by omega, fun _ _ _ _ _ _ _ _ h => by omega⟩
    | succ g =>
      refine ⟨fun l a m deep item ha hf hg => ?_, fun l a m k deep acc ha hf hg => ?_⟩
      · rw [pval, pval]
        by_cases h0 : (nx l a).2.2 ≠ 0
        · rw [if_pos h0, if_pos h0]
        rw [if_neg h0, if_neg h0]
        by_cases h1 : valE (nx l a).1 m deep item ≠ 0
        · rw [if_pos h1, if_pos h1]
        rw [if_neg h1, if_neg h1]
        have he := nx_end ha (by omega) (valE_stop (m := m) (deep := deep) (item := item) (by omega))
        by_cases h2 : (beginV (nx l a).1).1.k = 3 ∨ (beginV (nx l a).1).1.k = 4
        · rw [if_pos h2, if_pos h2]
          exact bindP_congr ((ih g).2 _ _ _ _ _ _ he.2 (by omega) (by omega)) (fun _ _ _ _ => rfl)
        · rw [if_neg h2, if_neg h2]
      · rw [pitems, pitems]
        by_cases h0 : (nx l a).2.2 ≠ 0
        · rw [if_pos h0, if_pos h0]
        rw [if_neg h0, if_neg h0]
        by_cases h1 : shutsK (nx l a).1.1
        · rw [if_pos h1, if_pos h1]
        rw [if_neg h1, if_neg h1]
        refine bindP_congr ((ih g).1 _ _ _ _ _ ha (by omega) (by omega)) (fun v a' m' hx => ?_)
        have e1 := (read_ends g).1 _ _ _ _ _ _ _ _ ha hx
        exact (ih g).2 _ _ _ _ _ _ e1.2 (by omega) (by omega)
def fuelV (l : List UInt8) : Nat := 2 * l.length + 2
/-- The value that begins from a place on. -/
def partV (l : List UInt8) (i : Int) : PR V := if i < 0 ∨ (l.length : Int) < i then .bad 0 1 else pval (fuelV l) l i.toNat 0 1 1
def readV (l : List UInt8) : PR V :=
  if 65536 < l.length then .bad 0 5
  else bindP (partV l 0) fun v a m => if (nx l a).2.2 ≠ 0 then .bad (nx l a).2.1 (nx l a).2.2 else if (nx l a).1.1 ≠ 10 then .bad (nx l a).1.2.1 6 else .ok v 0 m
end

/-! The text of a value is read as it; what is read may be: plain laws. No program in sight. -/
section
open Go

/-! ### Marks at a place -/
theorem drop_pre (p t : List UInt8) : (p ++ t).drop p.length = t := by simp
theorem nx_tok (p : List UInt8) {x t : List UInt8} (h : Cut x t) : nx (p ++ (x ++ t)) p.length = ofGot p.length x.length (lexRun x) := by
  unfold nx; rw [drop_pre, rest_run _ h]
theorem nx_blank (p : List UInt8) (b : UInt8) (t : List UInt8) (hb : blankB b = true) : nx (p ++ (b :: t)) p.length = nx (p ++ (b :: t)) (p.length + 1) := by
  unfold nx
  rw [drop_pre, rest_blank _ _ _ hb]
  congr 1
  rw [show p ++ b :: t = (p ++ [b]) ++ t by simp, show p.length + 1 = (p ++ [b]).length by simp, drop_pre]
theorem pval_nx {f : Nat} {l : List UInt8} {a b m deep item : Nat} (h : nx l a = nx l b) : pval f l a m deep item = pval f l b m deep item := by
  cases f with
  | zero => rw [pval, pval]
  | succ f => rw [pval, pval, h]
theorem cut_br (b : UInt8) (t : List UInt8) (h : brB b = true) : Cut [b] t := ⟨List.cons_ne_nil _ _, .inl ⟨h, rfl⟩⟩
theorem itoa_ne (n : Int) : Lib.itoa n ≠ [] := by
  have h : ∀ u, Lib.decDigits u ≠ [] := by intro u; unfold Lib.decDigits; split <;> simp
  unfold Lib.itoa
  split
  · exact List.cons_ne_nil _ _
  · exact h _
theorem num_tok (n : Int) (h0 : -9223372036854775808 ≤ n) (h1 : n ≤ 9223372036854775807) : GoRun (Lib.itoa n) ∧ lexRun (Lib.itoa n) = ((8, n, []), 0) := by
  have hx : lexShow 8 n [] = (Lib.itoa n, 0) := show_of 8 n [] _ rfl (itoa_ne n) (.inl rfl) (.inr (.inr rfl))
  have := show_run 8 n [] h0 h1 (by rw [hx])
  rw [hx] at this
  exact this
theorem true_tok : GoRun trueW ∧ lexRun trueW = ((7, 0, trueW), 0) := ⟨⟨by decide, .inr (by decide)⟩, by decide⟩
theorem false_tok : GoRun falseW ∧ lexRun falseW = ((7, 0, falseW), 0) := ⟨⟨by decide, .inr (by decide)⟩, by decide⟩
theorem open_tok (k : Nat) : lexRun [openB k] = ((if k = 3 then 5 else 3, 0, []), 0) ∧ brB (openB k) = true := by
  unfold openB
  by_cases h : k = 3
  · rw [if_pos h, if_pos h]; exact ⟨by decide, by decide⟩
  · rw [if_neg h, if_neg h]; exact ⟨by decide, by decide⟩
theorem shut_tok (k : Nat) : lexRun [shutB k] = ((overK k, 0, []), 0) ∧ brB (shutB k) = true := by
  unfold shutB overK
  by_cases h : k = 3
  · rw [if_pos h, if_pos h]; exact ⟨by decide, by decide⟩
  · rw [if_neg h, if_neg h]; exact ⟨by decide, by decide⟩
/-- The run with which a value's text begins, and what it is. -/
theorem node_cases {k : Nat} {n : Int} {l : List V} (h : nodeE k n l.length = 0) :
    (k = 1 ∧ l = [] ∧ -1099511627776 ≤ n ∧ n ≤ 1099511627776) ∨ (k = 2 ∧ l = [] ∧ (n = 0 ∨ n = 1)) ∨ ((k = 3 ∨ k = 4) ∧ n = 0 ∧ l.length ≤ 64) := by
  unfold nodeE at h
  by_cases h1 : k = 1 ∧ (n < -1099511627776 ∨ 1099511627776 < n)
  · rw [if_pos h1] at h; exact absurd h (by decide)
  rw [if_neg h1] at h
  by_cases h2 : k = 2 ∧ n ≠ 0 ∧ n ≠ 1
  · rw [if_pos h2] at h; exact absurd h (by decide)
  rw [if_neg h2] at h
  by_cases h3 : (k = 3 ∨ k = 4) ∧ n ≠ 0
  · rw [if_pos h3] at h; exact absurd h (by decide)
  rw [if_neg h3] at h
  by_cases h4 : k = 0 ∨ 4 < k
  · rw [if_pos h4] at h; exact absurd h (by decide)
  rw [if_neg h4] at h
  by_cases h5 : (k = 1 ∨ k = 2) ∧ 0 < l.length
  · rw [if_pos h5] at h; exact absurd h (by decide)
  rw [if_neg h5] at h
  by_cases h6 : 64 < l.length
  · rw [if_pos h6] at h; exact absurd h (by decide)
  have hl : k = 1 ∨ k = 2 → l = [] := fun e => List.length_eq_zero_iff.1 (by
    rcases Nat.eq_zero_or_pos l.length with h7 | h7
    · exact h7
    · exact absurd ⟨e, h7⟩ h5)
  rcases (by omega : k = 1 ∨ k = 2 ∨ (k = 3 ∨ k = 4)) with e | e | e
  · exact .inl ⟨e, hl (.inl e), by omega, by omega⟩
  · exact .inr (.inl ⟨e, hl (.inr e), by omega⟩)
  · exact .inr (.inr ⟨e, by omega, by omega⟩)
theorem ofGot_ok {a m : Nat} {k : Nat} {n : Int} {s : List UInt8} : ofGot a m ((k, n, s), 0) = ((k, a, a + m, n, s), 0, 0) := rfl
theorem V.check_leaf (k : Nat) (n : Int) (h : nodeE k n 0 = 0) : (V.mk k n []).check = 0 := by
  have h1 : (V.mk k n []).first = 0 := first_zero.2 ⟨h, fun x hx => by cases hx⟩
  unfold V.check
  rw [if_neg (by omega), if_neg (by rw [V.deep, V.deeps]; decide), if_neg (by rw [V.size, V.sizes]; decide)]

theorem text_ne (v : V) : 1 ≤ v.text.length := by
  cases v with
  | mk k n l =>
    rw [V.text]
    split
    · cases h : Lib.itoa n with
      | nil => exact absurd h (itoa_ne n)
      | cons b t => simp
    · split
      · split <;> decide
      · simp
theorem valE_shuts {x : MarkT} {m deep item : Nat} (h : shutsK x.1) : valE x m deep item = 3 := by
  have hb : (beginV x).2 = 3 := by
    unfold shutsK at h
    unfold beginV
    rw [if_neg (by omega), if_neg (by omega), if_neg (by omega), if_neg (by omega), if_neg (by omega)]
  unfold valE
  rw [hb, if_pos (by decide)]
theorem pval_first {f : Nat} {l : List UInt8} {a m deep item : Nat} {v : V} {a' m' : Nat} (h : pval f l a m deep item = .ok v a' m') : (nx l a).2.2 = 0 ∧ ¬ shutsK (nx l a).1.1 := by
  cases f with
  | zero => rw [pval] at h; cases h
  | succ f =>
    rw [pval] at h
    by_cases h0 : (nx l a).2.2 ≠ 0
    · rw [if_pos h0] at h; cases h
    rw [if_neg h0] at h
    refine ⟨by omega, fun hs => ?_⟩
    rw [valE_shuts hs, if_pos (by decide)] at h
    cases h
theorem stops_rest (k : Nat) (r : List V) (s : List UInt8) : Stops (V.texts false r ++ shutB k :: s) := by
  cases r with
  | nil =>
    rw [V.texts, List.nil_append]
    intro b t e
    injection e with e _
    subst e
    exact br_stop (shut_tok k).2
  | cons x r =>
    rw [V.texts, if_neg (by decide)]
    intro b t e
    injection e with e _
    subst e
    decide
/-- A text of a value is read as it, wherever it stands. -/
theorem pval_text : ∀ (v : V) (p s : List UInt8) (f m deep item : Nat), v.first = 0 → deep + v.deep ≤ 129 → m + v.size ≤ 4096 → item ≤ 64 → Stops s → 2 * (v.text ++ s).length + 1 ≤ f →
    pval f (p ++ (v.text ++ s)) p.length m deep item = .ok v (p.length + v.text.length) (m + v.size) := by
  intro v
  induction v using V.ind with
  | h k n l ih =>
    intro p s f m deep item hf hd hm hi hs hfu
    obtain ⟨f, rfl⟩ : ∃ f', f = f' + 1 := ⟨f - 1, by omega⟩
    obtain ⟨hn, hl⟩ := first_zero.1 hf
    rw [V.deep] at hd
    rw [V.size] at hm
    rcases node_cases hn with ⟨rfl, rfl, h1, h2⟩ | ⟨rfl, rfl, h1⟩ | ⟨hk, rfl, h64⟩
    · obtain ⟨hg, hr⟩ := num_tok n (by omega) (by omega)
      have ht : (V.mk 1 n []).text = Lib.itoa n := by rw [V.text, if_pos rfl]
      rw [ht, pval, nx_tok p (hg.cut hs), hr, ofGot_ok, if_neg (by simp)]
      have hb : beginV (8, p.length, p.length + (Lib.itoa n).length, n, []) = (.mk 1 n [], 0) := rfl
      have hc := V.check_leaf 1 n hn
      have hv : valE (8, p.length, p.length + (Lib.itoa n).length, n, []) m deep item = 0 := by
        unfold valE
        rw [hb, if_neg (by simp), if_neg (by omega), if_neg (by omega), if_neg (by omega)]
        exact hc
      rw [if_neg (by simp [hv]), hb, if_neg (by simp [V.k])]
      show PR.ok _ _ (m + 1) = PR.ok _ _ (m + V.size _)
      rw [V.size, V.sizes]
    · have hg : GoRun (V.mk 2 n []).text ∧ lexRun (V.mk 2 n []).text = ((7, 0, (V.mk 2 n []).text), 0) ∧ beginV (7, p.length, p.length + (V.mk 2 n []).text.length, 0, (V.mk 2 n []).text) = (.mk 2 n [], 0) := by
        rw [V.text, if_neg (by decide), if_pos rfl]
        rcases h1 with rfl | rfl
        · exact ⟨false_tok.1, false_tok.2, rfl⟩
        · exact ⟨true_tok.1, true_tok.2, rfl⟩
      obtain ⟨hg, hr, hb⟩ := hg
      have hc := V.check_leaf 2 n hn
      rw [pval, nx_tok p (hg.cut hs), hr, ofGot_ok, if_neg (by simp)]
      have hv : valE (7, p.length, p.length + (V.mk 2 n []).text.length, 0, (V.mk 2 n []).text) m deep item = 0 := by
        unfold valE
        rw [hb, if_neg (by simp), if_neg (by omega), if_neg (by omega), if_neg (by omega)]
        exact hc
      rw [if_neg (by simp [hv]), hb, if_neg (by simp [V.k])]
      show PR.ok _ _ (m + 1) = PR.ok _ _ (m + V.size _)
      rw [V.size, V.sizes]
    · have hit : ∀ (l : List V), (∀ x ∈ l, ∀ (p s : List UInt8) (f m deep item : Nat), x.first = 0 → deep + x.deep ≤ 129 → m + x.size ≤ 4096 → item ≤ 64 → Stops s → 2 * (x.text ++ s).length + 1 ≤ f →
          pval f (p ++ (x.text ++ s)) p.length m deep item = .ok x (p.length + x.text.length) (m + x.size)) → (∀ x ∈ l, x.first = 0) →
          ∀ (b : Bool) (q : List UInt8) (acc : List V) (m f : Nat), deep + (1 + V.deeps l) ≤ 129 → m + V.sizes l ≤ 4096 → acc.length + l.length ≤ 64 → 2 * (V.texts b l ++ shutB k :: s).length + 2 ≤ f →
          pitems f (q ++ (V.texts b l ++ shutB k :: s)) q.length m k deep acc = .ok (acc ++ l) (q.length + (V.texts b l).length + 1) (m + V.sizes l) := by
        intro l
        induction l with
        | nil =>
          intro _ _ b q acc m f _ _ _ hfu
          obtain ⟨f, rfl⟩ : ∃ f', f = f' + 1 := ⟨f - 1, by omega⟩
          obtain ⟨hr, hbr⟩ := shut_tok k
          have hx := nx_tok q (cut_br (shutB k) s hbr)
          rw [hr, ofGot_ok] at hx
          rw [V.texts, List.nil_append, pitems]
          rw [show shutB k :: s = [shutB k] ++ s from rfl, hx, if_neg (by simp), if_pos (show shutsK (overK k) by unfold shutsK overK; split <;> simp), if_neg (by simp)]
          show PR.ok acc (q.length + 1) m = PR.ok (acc ++ []) (q.length + 0 + 1) (m + V.sizes [])
          rw [List.append_nil, V.sizes]; rfl
        | cons x r ihr =>
          intro hx hl b q acc m f hd hm ha hfu
          rw [V.deeps] at hd
          rw [V.sizes] at hm
          rw [List.length_cons] at ha
          obtain ⟨f, rfl⟩ : ∃ f', f = f' + 1 := ⟨f - 1, by omega⟩
          obtain ⟨q1, hq1, hnx, hL, hlen⟩ : ∃ q1 : List UInt8, q.length ≤ q1.length ∧
              nx (q ++ (V.texts b (x :: r) ++ shutB k :: s)) q.length = nx (q ++ (V.texts b (x :: r) ++ shutB k :: s)) q1.length ∧
              q ++ (V.texts b (x :: r) ++ shutB k :: s) = q1 ++ (x.text ++ (V.texts false r ++ shutB k :: s)) ∧ q1.length + x.text.length + (V.texts false r).length = q.length + (V.texts b (x :: r)).length := by
            rw [V.texts]
            cases b with
            | true => exact ⟨q, Nat.le_refl _, rfl, by simp, by simp; omega⟩
            | false =>
              refine ⟨q ++ [32], by simp, ?_, by simp, by simp; omega⟩
              have := nx_blank q 32 (x.text ++ V.texts false r ++ shutB k :: s) (by decide)
              simpa using this
          have hxt := text_ne x
          have hll : (V.texts b (x :: r) ++ shutB k :: s).length = (V.texts b (x :: r)).length + (s.length + 1) := by simp
          have hrl : (x.text ++ (V.texts false r ++ shutB k :: s)).length = x.text.length + (V.texts false r).length + (s.length + 1) := by simp; omega
          have hrl2 : (V.texts false r ++ shutB k :: s).length = (V.texts false r).length + (s.length + 1) := by simp
          have hp := hx x List.mem_cons_self q1 (V.texts false r ++ shutB k :: s) f m (deep + 1) (acc.length + 1) (hl x List.mem_cons_self) (by have := Nat.le_max_left x.deep (V.deeps r); omega) (by omega) (by omega) (stops_rest k r s) (by omega)
          rw [← hL] at hp
          have h1 := pval_first hp
          have hqq : q1.length + x.text.length = (q1 ++ x.text).length := by simp
          have hrec := ihr (fun y hy => hx y (List.mem_cons_of_mem _ hy)) (fun y hy => hl y (List.mem_cons_of_mem _ hy)) false (q1 ++ x.text) (acc ++ [x]) (m + x.size) f (by have := Nat.le_max_right x.deep (V.deeps r); omega) (by omega) (by simp; omega) (by omega)
          rw [List.append_assoc, ← hL, ← hqq] at hrec
          rw [← hnx] at h1
          rw [pitems, if_neg (by omega), if_neg h1.2, pval_nx hnx, hp]
          show pitems f _ (q1.length + x.text.length) (m + x.size) k deep (acc ++ [x]) = _
          rw [hrec, List.append_assoc]
          show PR.ok (acc ++ ([x] ++ r)) _ _ = PR.ok (acc ++ x :: r) _ _
          rw [V.sizes]
          congr 1 <;> omega
      obtain ⟨hr, hbr⟩ := open_tok k
      have ht : (V.mk k 0 l).text = openB k :: (V.texts true l ++ [shutB k]) := by rw [V.text, if_neg (by omega), if_neg (by omega)]
      have hL : p ++ ((V.mk k 0 l).text ++ s) = p ++ ([openB k] ++ (V.texts true l ++ shutB k :: s)) := by rw [ht]; simp
      have hlen : (V.mk k 0 l).text.length = (V.texts true l).length + 2 := by rw [ht]; simp
      have hx := nx_tok p (cut_br (openB k) (V.texts true l ++ shutB k :: s) hbr)
      rw [hr, ofGot_ok] at hx
      have hb : beginV (if k = 3 then 5 else 3, p.length, p.length + 1, 0, []) = (.mk k 0 [], 0) := by
        rcases hk with rfl | rfl <;> rfl
      have hc := V.check_leaf k 0 (by rcases hk with rfl | rfl <;> rfl)
      have hv : valE (if k = 3 then 5 else 3, p.length, p.length + 1, 0, []) m deep item = 0 := by
        unfold valE
        rw [hb, if_neg (by simp), if_neg (by omega), if_neg (by omega), if_neg (by omega)]
        exact hc
      rw [pval, hL, hx, if_neg (by simp)]
      rw [if_neg (by simp only [List.length_singleton]; rw [hv]; simp)]
      simp only [List.length_singleton]
      rw [hb, if_pos (show (V.mk k 0 []).k = 3 ∨ (V.mk k 0 []).k = 4 from hk)]
      have hfl : (p ++ ((V.mk k 0 l).text ++ s)).length = p.length + ((V.texts true l).length + 2 + s.length) := by rw [List.length_append, List.length_append, hlen]
      rw [List.length_append, hlen] at hfu
      have hrec := hit l ih hl true (p ++ [openB k]) [] (m + 1) f (by omega) (by omega) (by simpa using h64) (by simp; omega)
      rw [show (p ++ [openB k]) ++ (V.texts true l ++ shutB k :: s) = p ++ ([openB k] ++ (V.texts true l ++ shutB k :: s)) by simp, show (p ++ [openB k]).length = p.length + 1 by simp] at hrec
      show bindP (pitems f _ (p.length + 1) (m + 1) k deep []) _ = _
      rw [hrec]
      show PR.ok (V.mk k 0 ([] ++ l)) _ _ = PR.ok (V.mk k 0 l) _ _
      rw [List.nil_append, V.size, hlen]
      congr 1 <;> omega
end

/-! What is read of a text may be; what stands behind changes nothing: plain laws. No program in sight. -/
section
open Go

theorem show_run_of {k : Nat} {n : Int} {s x : List UInt8} (h : lexShow k n s = (x, 0)) : x = showRun k n s := by
  unfold lexShow at h
  split at h
  · cases h
  · exact ((Prod.mk.inj h).1).symm
/-- What a leaf's mark says of the value that it begins. -/
theorem begin_leaf {l : List UInt8} {a : Nat} (ha : a ≤ l.length) (h0 : (nx l a).2.2 = 0) (hb : (beginV (nx l a).1).2 = 0) (hk : ¬ ((beginV (nx l a).1).1.k = 3 ∨ (beginV (nx l a).1).1.k = 4)) :
    (beginV (nx l a).1).1.l = [] ∧ (beginV (nx l a).1).1.text.length + a ≤ (nx l a).1.2.2.1 := by
  have hne : (nx l a).1.1 ≠ 10 := by intro e; unfold beginV at hb; rw [if_pos e] at hb; exact absurd hb (by decide)
  obtain ⟨hs, _⟩ := rest_mark a (l.drop a) h0 hne
  have hby := hs.bytes
  have h1 := hs.at1; have h2 := hs.at2; have h3 := hs.at3
  unfold markShow ofT at hby
  change lexShow (nx l a).1.1 (nx l a).1.2.2.2.1 (nx l a).1.2.2.2.2 = _ at hby
  change a ≤ (nx l a).1.2.1 at h1
  change (nx l a).1.2.1 < (nx l a).1.2.2.1 at h2
  change (nx l a).1.2.2.1 ≤ _ at h3
  have hlen : (((l.drop a).drop ((fromRest a (l.drop a)).1.2.1 - a)).take ((fromRest a (l.drop a)).1.2.2.1 - (fromRest a (l.drop a)).1.2.1)).length ≤ (nx l a).1.2.2.1 - (nx l a).1.2.1 := by
    rw [List.length_take]; exact Nat.min_le_left _ _
  have hsr := show_run_of hby
  generalize ((l.drop a).drop ((fromRest a (l.drop a)).1.2.1 - a)).take ((fromRest a (l.drop a)).1.2.2.1 - (fromRest a (l.drop a)).1.2.1) = X at *
  clear hs
  generalize (nx l a).1 = m at *
  obtain ⟨k, at_, en, n, s⟩ := m
  simp only at hb hk hne h1 h2 h3 hlen hsr
  unfold beginV at hb hk ⊢
  simp only at hb hk ⊢
  rw [if_neg hne] at hb hk ⊢
  by_cases k8 : k = 8
  · rw [if_pos k8]
    subst k8
    have : X = Lib.itoa n := hsr
    refine ⟨rfl, ?_⟩
    show (V.mk 1 n []).text.length + a ≤ en
    rw [V.text, if_pos rfl, ← this]
    omega
  rw [if_neg k8] at hb hk ⊢
  by_cases k7 : k = 7 ∧ (s = trueW ∨ s = falseW)
  · rw [if_pos k7]
    obtain ⟨rfl, hw⟩ := k7
    refine ⟨rfl, ?_⟩
    have h7 : X = if lettersB s = true then s else [] := hsr
    have h7' : X = s := by
      rcases hw with rfl | rfl
      · rw [h7, if_pos (by decide)]
      · rw [h7, if_pos (by decide)]
    have ht : (V.mk 2 (if s = trueW then 1 else 0) []).text = s := by
      rw [V.text, if_neg (by decide), if_pos rfl]
      rcases hw with rfl | rfl
      · rfl
      · rfl
    show (V.mk 2 (if s = trueW then 1 else 0) []).text.length + a ≤ en
    rw [ht, ← h7']
    omega
  rw [if_neg k7] at hb hk ⊢
  by_cases k5 : k = 5
  · rw [if_pos k5] at hk; exact absurd (.inl rfl) hk
  rw [if_neg k5] at hb hk ⊢
  by_cases k3 : k = 3
  · rw [if_pos k3] at hk; exact absurd (.inr rfl) hk
  rw [if_neg k3] at hb
  exact absurd hb (by decide)
/-- The texts of items, and a blank ahead of each. -/
def wide : List V → Nat
  | [] => 0
  | x :: r => x.text.length + 1 + wide r
theorem texts_wide (b : Bool) (l : List V) : (V.texts b l).length ≤ wide l := by
  induction l generalizing b with
  | nil => rw [V.texts]; exact Nat.zero_le _
  | cons x r ih =>
    rw [V.texts, wide, List.length_append]
    have := ih false
    cases b <;> simp <;> omega
theorem begin_tuple {x : MarkT} (h : (beginV x).1.k = 3 ∨ (beginV x).1.k = 4) : (beginV x).1 = .mk (beginV x).1.k 0 [] := by
  unfold beginV at h ⊢
  repeat' split
  all_goals first | rfl | (rename_i h1; simp_all [V.k])
theorem valE_zero {x : MarkT} {m deep item : Nat} (h : valE x m deep item = 0) : (beginV x).2 = 0 ∧ item ≤ 64 ∧ deep ≤ 128 ∧ m + 1 ≤ 4096 ∧ (beginV x).1.check = 0 := by
  unfold valE at h
  by_cases h1 : (beginV x).2 ≠ 0
  · rw [if_pos h1] at h; exact absurd h h1
  rw [if_neg h1] at h
  by_cases h2 : 64 < item
  · rw [if_pos h2] at h; exact absurd h (by decide)
  rw [if_neg h2] at h
  by_cases h3 : 128 < deep
  · rw [if_pos h3] at h; exact absurd h (by decide)
  rw [if_neg h3] at h
  by_cases h4 : 4096 < m + 1
  · rw [if_pos h4] at h; exact absurd h (by decide)
  rw [if_neg h4] at h
  exact ⟨by omega, by omega, by omega, by omega, h⟩
theorem check_first {v : V} (h : v.check = 0) : v.first = 0 ∧ v.deep ≤ 128 ∧ v.size ≤ 4096 := by
  unfold V.check at h
  by_cases h1 : v.first ≠ 0
  · rw [if_pos h1] at h; exact absurd h h1
  rw [if_neg h1] at h
  by_cases h2 : 128 < v.deep
  · rw [if_pos h2] at h; exact absurd h (by decide)
  rw [if_neg h2] at h
  by_cases h3 : 4096 < v.size
  · rw [if_pos h3] at h; exact absurd h (by decide)
  exact ⟨by omega, by omega, by omega⟩
theorem check_zero {v : V} (h1 : v.first = 0) (h2 : v.deep ≤ 128) (h3 : v.size ≤ 4096) : v.check = 0 := by
  unfold V.check; rw [if_neg (by omega), if_neg (by omega), if_neg (by omega)]
/-- What is read may be, and its text is not much longer. -/
theorem read_may : ∀ f, (∀ l a m deep item v a' m', a ≤ l.length → pval f l a m deep item = .ok v a' m' → v.first = 0 ∧ deep + v.deep ≤ 129 ∧ m' = m + v.size ∧ m' ≤ 4096 ∧ v.text.length + 1 ≤ 2 * (a' - a)) ∧
    (∀ l a m k deep acc vs a' m', a ≤ l.length → deep ≤ 128 → acc.length ≤ 64 → m ≤ 4096 → pitems f l a m k deep acc = .ok vs a' m' → ∃ r, vs = acc ++ r ∧ vs.length ≤ 64 ∧ (∀ x ∈ r, x.first = 0) ∧ deep + (1 + V.deeps r) ≤ 129 ∧ m' = m + V.sizes r ∧ m' ≤ 4096 ∧ wide r + 2 ≤ 2 * (a' - a)) := by
  intro f
  induction f with
  | zero => exact ⟨(fun _ _ _ _ _ _ _ _ _ h => by rw [pval] at h; cases h), (fun _ _ _ _ _ _ _ _ _ _ _ _ _ h => by rw [pitems] at h; cases h)⟩
  | succ f ih =>
    refine ⟨fun l a m deep item v a' m' ha h => ?_, fun l a m k deep acc vs a' m' ha hd hacc hm h => ?_⟩
    · rw [pval] at h
      by_cases h0 : (nx l a).2.2 ≠ 0
      · rw [if_pos h0] at h; cases h
      rw [if_neg h0] at h
      by_cases h1 : valE (nx l a).1 m deep item ≠ 0
      · rw [if_pos h1] at h; cases h
      rw [if_neg h1] at h
      have hz : valE (nx l a).1 m deep item = 0 := by omega
      have he := nx_end ha (by omega) (valE_stop hz)
      obtain ⟨z1, z2, z3, z4, z5⟩ := valE_zero hz
      by_cases h2 : (beginV (nx l a).1).1.k = 3 ∨ (beginV (nx l a).1).1.k = 4
      · rw [if_pos h2] at h
        obtain ⟨u, b, n, hx, hy⟩ := bindP_ok h
        obtain ⟨r, hu, hl, hf, hdp, hsz, hmx, hw⟩ := ih.2 _ _ _ _ _ _ _ _ _ he.2 z3 (by simp) z4 hx
        have hen := (read_ends f).2 _ _ _ _ _ _ _ _ _ he.2 hx
        rw [List.nil_append] at hu
        subst hu
        cases hy
        have hc := check_first z5
        rw [begin_tuple h2] at hc
        have hn := (first_zero.1 hc.1).1
        have hnode : nodeE (beginV (nx l a).1).1.k 0 u.length = 0 := by
          unfold nodeE at hn ⊢
          rcases h2 with h2 | h2 <;> rw [h2] <;> simp <;> omega
        refine ⟨first_zero.2 ⟨hnode, hf⟩, by rw [V.deep]; exact hdp, by rw [V.size]; omega, hmx, ?_⟩
        rw [V.text, if_neg (by omega), if_neg (by omega), List.length_cons, List.length_append, List.length_singleton]
        have := texts_wide true u
        omega
      · rw [if_neg h2] at h
        obtain ⟨hl, ht⟩ := begin_leaf ha (by omega) z1 h2
        cases h
        have hc := check_first z5
        have hd1 : (beginV (nx l a).1).1.deep = 1 := by rw [V.eta (beginV (nx l a).1).1, V.deep, hl, V.deeps]
        have hs1 : (beginV (nx l a).1).1.size = 1 := by rw [V.eta (beginV (nx l a).1).1, V.size, hl, V.sizes]
        have := text_ne (beginV (nx l a).1).1
        exact ⟨hc.1, by omega, by omega, z4, by omega⟩
    · rw [pitems] at h
      by_cases h0 : (nx l a).2.2 ≠ 0
      · rw [if_pos h0] at h; cases h
      rw [if_neg h0] at h
      by_cases h1 : shutsK (nx l a).1.1
      · rw [if_pos h1] at h
        by_cases h2 : (nx l a).1.1 ≠ overK k
        · rw [if_pos h2] at h; cases h
        · rw [if_neg h2] at h
          have he := nx_end ha (by omega) (by unfold shutsK at h1; omega)
          cases h
          exact ⟨[], by simp, hacc, by simp, by rw [V.deeps]; omega, by rw [V.sizes]; rfl, hm, by rw [wide]; omega⟩
      · rw [if_neg h1] at h
        obtain ⟨u, b, n, hx, hy⟩ := bindP_ok h
        have e1 := (read_ends f).1 _ _ _ _ _ _ _ _ ha hx
        obtain ⟨g1, g2, g3, g4, g5⟩ := ih.1 _ _ _ _ _ _ _ _ ha hx
        have hitem : acc.length + 1 ≤ 64 := by
          cases f with
          | zero => rw [pval] at hx; cases hx
          | succ f =>
            rw [pval] at hx
            rw [if_neg h0] at hx
            by_cases q : valE (nx l a).1 m (deep + 1) (acc.length + 1) ≠ 0
            · rw [if_pos q] at hx; cases hx
            · exact (valE_zero (Decidable.not_not.1 q)).2.1
        have e2 := (read_ends f).2 _ _ _ _ _ _ _ _ _ e1.2 hy
        obtain ⟨r, hu, hl, hf, hdp, hsz, hmx, hw⟩ := ih.2 _ _ _ _ _ _ _ _ _ e1.2 hd (by simp; omega) g4 hy
        refine ⟨u :: r, by rw [hu]; simp, hl, fun x hx => ?_, ?_, by rw [V.sizes]; omega, hmx, by rw [wide]; omega⟩
        · rcases List.mem_cons.1 hx with rfl | hx
          · exact g1
          · exact hf x hx
        · rw [V.deeps]; omega
/-- What stands behind a blank or a bracket changes nothing, but where a text ends too early. -/
theorem read_app : ∀ f, (∀ l a m deep item s, a ≤ l.length → Stops s → 2 * ((l ++ s).length - a) + 1 ≤ f → (∀ v a' m', pval f l a m deep item = .ok v a' m' → pval f (l ++ s) a m deep item = .ok v a' m') ∧ (∀ p e, pval f l a m deep item = .bad p e → e ≠ 4 → pval f (l ++ s) a m deep item = .bad p e)) ∧
    (∀ l a m k deep acc s, a ≤ l.length → Stops s → 2 * ((l ++ s).length - a) + 2 ≤ f → (∀ vs a' m', pitems f l a m k deep acc = .ok vs a' m' → pitems f (l ++ s) a m k deep acc = .ok vs a' m') ∧ (∀ p e, pitems f l a m k deep acc = .bad p e → e ≠ 4 → pitems f (l ++ s) a m k deep acc = .bad p e)) := by
  have hstop : ∀ f l a m deep item, (nx l a).1.1 = 10 → pval (f + 1) l a m deep item = .bad (nx l a).1.2.1 4 := by
    intro f l a m deep item hst
    have hv : valE (nx l a).1 m deep item = 4 := by
      unfold valE beginV
      rw [if_pos hst, if_pos (by decide)]
    have h0 : (nx l a).2.2 = 0 := by
      have := fromRest_stop a (l.drop a) hst
      unfold nx; rw [this]
    rw [pval, if_neg (by omega), hv, if_pos (by decide)]
  intro f
  induction f with
  | zero => exact ⟨(fun _ _ _ _ _ _ _ _ h => by omega), (fun _ _ _ _ _ _ _ _ _ h => by omega)⟩
  | succ f ih =>
    refine ⟨fun l a m deep item s ha hs hfu => ?_, fun l a m k deep acc s ha hs hfu => ?_⟩
    · by_cases hst : (nx l a).1.1 = 10
      · rw [hstop f l a m deep item hst]
        exact ⟨(fun _ _ _ h => by cases h), (fun p e h he => by cases h; exact absurd rfl he)⟩
      · have hn := nx_app ha hs hst
        rw [pval, pval, hn]
        by_cases h0 : (nx l a).2.2 ≠ 0
        · rw [if_pos h0, if_pos h0]; exact ⟨fun _ _ _ h => h, fun _ _ h _ => h⟩
        rw [if_neg h0, if_neg h0]
        by_cases h1 : valE (nx l a).1 m deep item ≠ 0
        · rw [if_pos h1, if_pos h1]; exact ⟨fun _ _ _ h => h, fun _ _ h _ => h⟩
        rw [if_neg h1, if_neg h1]
        have he := nx_end ha (by omega) hst
        have hle : l.length ≤ (l ++ s).length := by rw [List.length_append]; omega
        by_cases h2 : (beginV (nx l a).1).1.k = 3 ∨ (beginV (nx l a).1).1.k = 4
        · rw [if_pos h2, if_pos h2]
          have := ih.2 l (nx l a).1.2.2.1 (m + 1) (beginV (nx l a).1).1.k deep [] s he.2 hs (by omega)
          cases hx : pitems f l (nx l a).1.2.2.1 (m + 1) (beginV (nx l a).1).1.k deep [] with
          | ok u b n => rw [this.1 _ _ _ hx]; exact ⟨fun _ _ _ h => h, fun _ _ h _ => h⟩
          | bad p e => exact ⟨(fun _ _ _ h => by cases h), (fun p' e' h he' => by cases h; rw [this.2 _ _ hx he']; rfl)⟩
        · rw [if_neg h2, if_neg h2]; exact ⟨fun _ _ _ h => h, fun _ _ h _ => h⟩
    · obtain ⟨f, rfl⟩ : ∃ f', f = f' + 1 := ⟨f - 1, by omega⟩
      by_cases hst : (nx l a).1.1 = 10
      · have h0 : (nx l a).2.2 = 0 := by
          have := fromRest_stop a (l.drop a) hst
          unfold nx; rw [this]
        have hsh : ¬ shutsK (nx l a).1.1 := by unfold shutsK; omega
        rw [pitems, if_neg (by omega), if_neg hsh, hstop f l a m (deep + 1) (acc.length + 1) hst]
        exact ⟨(fun _ _ _ h => by cases h), (fun p' e' h he' => by cases h; exact absurd rfl he')⟩
      · have hn := nx_app ha hs hst
        rw [pitems, pitems, hn]
        by_cases h0 : (nx l a).2.2 ≠ 0
        · rw [if_pos h0, if_pos h0]; exact ⟨fun _ _ _ h => h, fun _ _ h _ => h⟩
        rw [if_neg h0, if_neg h0]
        by_cases h1 : shutsK (nx l a).1.1
        · rw [if_pos h1, if_pos h1]
          exact ⟨fun _ _ _ h => h, fun _ _ h _ => h⟩
        rw [if_neg h1, if_neg h1]
        have := ih.1 l a m (deep + 1) (acc.length + 1) s ha hs (by omega)
        cases hx : pval (f + 1) l a m (deep + 1) (acc.length + 1) with
        | ok u b n =>
          have e1 := (read_ends (f + 1)).1 _ _ _ _ _ _ _ _ ha hx
          have hle : l.length ≤ (l ++ s).length := by rw [List.length_append]; omega
          rw [this.1 _ _ _ hx]
          exact ih.2 l b n k deep (acc ++ [u]) s e1.2 hs (by omega)
        | bad p e => exact ⟨(fun _ _ _ h => by cases h), (fun p' e' h he' => by cases h; rw [this.2 _ _ hx he']; rfl)⟩
end

/-! A text of a Tuple or a List, cut, is refused: plain laws. No program in sight. -/
section
open Go

/-- How many brackets are open. -/
def balB (b : UInt8) : Int := if b = 60 ∨ b = 91 then 1 else if b = 62 ∨ b = 93 then -1 else 0
def bal : List UInt8 → Int
  | [] => 0
  | b :: r => balB b + bal r
theorem bal_append (x y : List UInt8) : bal (x ++ y) = bal x + bal y := by
  induction x with
  | nil => rw [List.nil_append, bal]; omega
  | cons b r ih => rw [List.cons_append, bal, bal, ih]; omega
theorem bal_go {b : UInt8} (h : stopB b = false) : balB b = 0 := by
  unfold balB
  rw [if_neg (by rintro (rfl | rfl) <;> exact absurd h (by decide)), if_neg (by rintro (rfl | rfl) <;> exact absurd h (by decide))]
theorem bal_blank {b : UInt8} (h : blankB b = true) : balB b = 0 := by
  unfold balB
  rw [if_neg (by rintro (rfl | rfl) <;> exact absurd h (by decide)), if_neg (by rintro (rfl | rfl) <;> exact absurd h (by decide))]
theorem bal_zero {x : List UInt8} (h : ∀ c ∈ x, balB c = 0) : bal x = 0 := by
  induction x with
  | nil => rfl
  | cons b r ih => rw [bal, h b List.mem_cons_self, ih fun c hc => h c (List.mem_cons_of_mem _ hc)]; rfl
/-- What a mark does to the count. -/
def balK (k : Nat) : Int := if k = 3 ∨ k = 5 then 1 else if k = 4 ∨ k = 6 then -1 else 0
theorem run_bal {x t : List UInt8} (h : Cut x t) (h0 : (lexRun x).2 = 0) : bal x = balK (lexRun x).1.1 := by
  rcases h.run with ⟨hb, hl⟩ | ⟨hg, _⟩
  · cases x with
    | nil => cases hl
    | cons b r =>
      have hr : r = [] := List.length_eq_zero_iff.1 (by simpa using hl)
      subst hr
      have hb' : brB b = true := hb
      have hx : (lexRun [b]).1.1 = brK b := by unfold lexRun; rw [if_pos hb]; rfl
      rw [hx, bal, bal]
      have hk : b = 40 ∨ b = 41 ∨ b = 91 ∨ b = 93 ∨ b = 60 ∨ b = 62 := by
        unfold brB brK at hb'
        by_cases q1 : b = 40
        · exact .inl q1
        by_cases q2 : b = 41
        · exact .inr (.inl q2)
        by_cases q3 : b = 91
        · exact .inr (.inr (.inl q3))
        by_cases q4 : b = 93
        · exact .inr (.inr (.inr (.inl q4)))
        by_cases q5 : b = 60
        · exact .inr (.inr (.inr (.inr (.inl q5))))
        by_cases q6 : b = 62
        · exact .inr (.inr (.inr (.inr (.inr q6))))
        · simp [q1, q2, q3, q4, q5, q6] at hb'
      rcases hk with rfl | rfl | rfl | rfl | rfl | rfl <;> decide
  · rw [bal_zero fun c hc => bal_go (hg c hc)]
    have hnb : ¬ brB (x.headD 0) = true := by
      cases x with
      | nil => exact absurd rfl h.ne
      | cons b r =>
        have := go_br (hg b List.mem_cons_self)
        show ¬ brB b = true
        rw [this]; decide
    have hk : (lexRun x).1.1 = 7 ∨ (lexRun x).1.1 = 8 ∨ (lexRun x).1.1 = 9 := by
      unfold lexRun lexNum lexRow at h0 ⊢
      rw [if_neg hnb] at h0 ⊢
      repeat' split at h0
      all_goals first | exact absurd h0 (by decide) | simp_all
    unfold balK
    rcases hk with e | e | e <;> rw [e] <;> decide
theorem nx_bal {l : List UInt8} {a : Nat} (ha : a ≤ l.length) (h0 : (nx l a).2.2 = 0) (hk : (nx l a).1.1 ≠ 10) : bal ((l.drop a).take ((nx l a).1.2.2.1 - a)) = balK (nx l a).1.1 := by
  have hle := skipN_le (l.drop a)
  unfold nx at h0 hk ⊢
  generalize l.drop a = r at *
  rcases Nat.lt_or_eq_of_le hle with hs | hs
  · obtain ⟨bl, x, t, rfl, hb, hc⟩ := split_text r hs
    rw [rest_blanks bl a _ hb, rest_run _ hc] at h0 hk ⊢
    unfold ofGot at h0 hk ⊢
    by_cases h1 : (lexRun x).2 = 0
    · rw [if_pos h1] at h0 hk ⊢
      show bal ((bl ++ (x ++ t)).take (a + bl.length + x.length - a)) = balK (lexRun x).1.1
      rw [show a + bl.length + x.length - a = (bl ++ x).length by rw [List.length_append]; omega, ← List.append_assoc, List.take_left, bal_append, run_bal hc h1, bal_zero fun c hc => bal_blank (List.all_eq_true.1 hb c hc)]
      omega
    · rw [if_neg h1] at h0; exact absurd h0 h1
  · rw [fromRest_end a r hs] at hk
    exact absurd rfl hk
theorem bal_two {l : List UInt8} {a b c : Nat} (h1 : a ≤ b) (h2 : b ≤ c) : bal ((l.drop a).take (c - a)) = bal ((l.drop a).take (b - a)) + bal ((l.drop b).take (c - b)) := by
  have e : (l.drop a).take (c - a) = (l.drop a).take (b - a) ++ ((l.drop a).drop (b - a)).take (c - b) := by
    rw [show c - a = (b - a) + (c - b) by omega, List.take_add]
  rw [e, bal_append, List.drop_drop, show a + (b - a) = b by omega]
theorem begin_bal {x : MarkT} (h : (beginV x).2 = 0) : balK x.1 = if (beginV x).1.k = 3 ∨ (beginV x).1.k = 4 then 1 else 0 := by
  unfold beginV at h ⊢
  by_cases k10 : x.1 = 10
  · rw [if_pos k10] at h; exact absurd h (by decide)
  rw [if_neg k10] at h ⊢
  by_cases k8 : x.1 = 8
  · rw [if_pos k8, k8]; simp [balK, V.k]
  rw [if_neg k8] at h ⊢
  by_cases k7 : x.1 = 7 ∧ (x.2.2.2.2 = trueW ∨ x.2.2.2.2 = falseW)
  · rw [if_pos k7, k7.1]; rfl
  rw [if_neg k7] at h ⊢
  by_cases k5 : x.1 = 5
  · rw [if_pos k5, k5]; decide
  rw [if_neg k5] at h ⊢
  by_cases k3 : x.1 = 3
  · rw [if_pos k3, k3]; decide
  rw [if_neg k3] at h
  exact absurd h (by decide)
/-- What is read closes as many as it opens. -/
theorem read_bal : ∀ f, (∀ l a m deep item v a' m', a ≤ l.length → pval f l a m deep item = .ok v a' m' → bal ((l.drop a).take (a' - a)) = 0) ∧
    (∀ l a m k deep acc vs a' m', a ≤ l.length → pitems f l a m k deep acc = .ok vs a' m' → bal ((l.drop a).take (a' - a)) = -1) := by
  intro f
  induction f with
  | zero => exact ⟨(fun _ _ _ _ _ _ _ _ _ h => by rw [pval] at h; cases h), (fun _ _ _ _ _ _ _ _ _ _ h => by rw [pitems] at h; cases h)⟩
  | succ f ih =>
    refine ⟨fun l a m deep item v a' m' ha h => ?_, fun l a m k deep acc vs a' m' ha h => ?_⟩
    · rw [pval] at h
      by_cases h0 : (nx l a).2.2 ≠ 0
      · rw [if_pos h0] at h; cases h
      rw [if_neg h0] at h
      by_cases h1 : valE (nx l a).1 m deep item ≠ 0
      · rw [if_pos h1] at h; cases h
      rw [if_neg h1] at h
      have hz : valE (nx l a).1 m deep item = 0 := by omega
      have he := nx_end ha (by omega) (valE_stop hz)
      have hb := nx_bal ha (by omega) (valE_stop hz)
      rw [begin_bal (valE_zero hz).1] at hb
      by_cases h2 : (beginV (nx l a).1).1.k = 3 ∨ (beginV (nx l a).1).1.k = 4
      · rw [if_pos h2] at h hb
        obtain ⟨u, b, n, hx, hy⟩ := bindP_ok h
        have e1 := (read_ends f).2 _ _ _ _ _ _ _ _ _ he.2 hx
        have e2 := ih.2 _ _ _ _ _ _ _ _ _ he.2 hx
        cases hy
        rw [bal_two (by omega : a ≤ (nx l a).1.2.2.1) (by omega), hb, e2]
        rfl
      · rw [if_neg h2] at h hb
        cases h
        exact hb
    · rw [pitems] at h
      by_cases h0 : (nx l a).2.2 ≠ 0
      · rw [if_pos h0] at h; cases h
      rw [if_neg h0] at h
      by_cases h1 : shutsK (nx l a).1.1
      · rw [if_pos h1] at h
        by_cases h2 : (nx l a).1.1 ≠ overK k
        · rw [if_pos h2] at h; cases h
        · rw [if_neg h2] at h
          have hb := nx_bal ha (by omega) (by unfold shutsK at h1; omega)
          cases h
          rw [hb, show (nx l a).1.1 = overK k by omega]
          unfold balK overK
          split <;> decide
      · rw [if_neg h1] at h
        obtain ⟨u, b, n, hx, hy⟩ := bindP_ok h
        have e1 := (read_ends f).1 _ _ _ _ _ _ _ _ ha hx
        have e2 := (read_ends f).2 _ _ _ _ _ _ _ _ _ e1.2 hy
        rw [bal_two (by omega : a ≤ b) (by omega), ih.1 _ _ _ _ _ _ _ _ ha hx, ih.2 _ _ _ _ _ _ _ _ _ e1.2 hy]
        rfl
/-- Cut anywhere, a text never closes more than it opens. -/
theorem text_bal : ∀ v : V, v.first = 0 → bal v.text = 0 ∧ ∀ j, 0 ≤ bal (v.text.take j) := by
  intro v
  induction v using V.ind with
  | h k n l ih =>
    intro hf
    obtain ⟨hn, hl⟩ := first_zero.1 hf
    have hgo : ∀ x : List UInt8, GoRun x → brB (x.headD 0) = false → bal x = 0 ∧ ∀ j, 0 ≤ bal (x.take j) := fun x hg hb => by
      have hall : ∀ c ∈ x, stopB c = false := by
        rcases hg.2 with ⟨q, _⟩ | q
        · rw [hb] at q; cases q
        · exact q
      refine ⟨bal_zero fun c hc => bal_go (hall c hc), fun j => ?_⟩
      rw [bal_zero fun c hc => bal_go (hall c (List.mem_of_mem_take hc))]
      exact Int.le_refl _
    rcases node_cases hn with ⟨rfl, rfl, h1, h2⟩ | ⟨rfl, rfl, h1⟩ | ⟨hk, rfl, h64⟩
    · rw [V.text, if_pos rfl]
      obtain ⟨hg, hr⟩ := num_tok n (by omega) (by omega)
      refine hgo _ hg ?_
      cases hb : brB ((Lib.itoa n).headD 0) with
      | false => rfl
      | true =>
        have : (lexRun (Lib.itoa n)).1.1 = brK ((Lib.itoa n).headD 0) := by unfold lexRun; rw [if_pos hb]
        rw [hr] at this
        have h6 := brK_le ((Lib.itoa n).headD 0)
        have : 8 = brK ((Lib.itoa n).headD 0) := this
        omega
    · rw [V.text, if_neg (by decide), if_pos rfl]
      rcases h1 with rfl | rfl
      · exact hgo _ false_tok.1 (by decide)
      · exact hgo _ true_tok.1 (by decide)
    · have hit : ∀ (l : List V), (∀ x ∈ l, x.first = 0 → bal x.text = 0 ∧ ∀ j, 0 ≤ bal (x.text.take j)) → (∀ x ∈ l, x.first = 0) → ∀ b, bal (V.texts b l) = 0 ∧ ∀ j, 0 ≤ bal ((V.texts b l).take j) := by
        intro l
        induction l with
        | nil => intro _ _ b; rw [V.texts]; exact ⟨rfl, fun j => by rw [List.take_nil]; exact Int.le_refl _⟩
        | cons x r ihr =>
          intro hx hl b
          obtain ⟨x1, x2⟩ := hx x List.mem_cons_self (hl x List.mem_cons_self)
          obtain ⟨r1, r2⟩ := ihr (fun y hy => hx y (List.mem_cons_of_mem _ hy)) (fun y hy => hl y (List.mem_cons_of_mem _ hy)) false
          have two : bal (x.text ++ V.texts false r) = 0 ∧ ∀ j, 0 ≤ bal ((x.text ++ V.texts false r).take j) := by
            refine ⟨by rw [bal_append, x1, r1]; rfl, fun j => ?_⟩
            rw [List.take_append, bal_append]
            have := x2 j; have := r2 (j - x.text.length)
            omega
          rw [V.texts]
          cases b with
          | true => rw [if_pos rfl]; exact two
          | false =>
            rw [if_neg (by decide), List.cons_append]
            refine ⟨by rw [bal, two.1]; decide, fun j => ?_⟩
            cases j with
            | zero => rw [List.take_zero]; exact Int.le_refl _
            | succ j =>
              rw [List.take_succ_cons, bal]
              have := two.2 j
              have h32 : balB 32 = 0 := by decide
              omega
      obtain ⟨t1, t2⟩ := hit l (fun x hx hf => ih x hx hf) hl true
      have ho : balB (openB k) = 1 := by rcases hk with rfl | rfl <;> decide
      have hs : balB (shutB k) = -1 := by rcases hk with rfl | rfl <;> decide
      rw [V.text, if_neg (by omega), if_neg (by omega)]
      refine ⟨by rw [bal, bal_append, t1, bal, bal, ho, hs]; rfl, fun j => ?_⟩
      cases j with
      | zero => rw [List.take_zero]; exact Int.le_refl _
      | succ j =>
        rw [List.take_succ_cons, bal, List.take_append, bal_append]
        have := t2 j
        have h1 : -1 ≤ bal (([shutB k] : List UInt8).take (j - (V.texts true l).length)) := by
          cases j - (V.texts true l).length with
          | zero => rw [List.take_zero]; decide
          | succ i => rw [List.take_succ_cons, List.take_nil, bal, bal, hs]; decide
        omega
theorem tuple_cut {k : Nat} {n : Int} {l : List V} (hk : k = 3 ∨ k = 4) (hf : (V.mk k n l).first = 0) (j : Nat) (h0 : 0 < j) (hj : j < (V.mk k n l).text.length) : 0 < bal ((V.mk k n l).text.take j) := by
  obtain ⟨hn, hl⟩ := first_zero.1 hf
  have hit : ∀ (l : List V), (∀ x ∈ l, x.first = 0) → ∀ b j, 0 ≤ bal ((V.texts b l).take j) := by
    intro l
    induction l with
    | nil => intro _ b j; rw [V.texts, List.take_nil]; exact Int.le_refl _
    | cons x r ihr =>
      intro hl b j
      have x2 := (text_bal x (hl x List.mem_cons_self)).2
      have r2 := ihr (fun y hy => hl y (List.mem_cons_of_mem _ hy)) false
      have two : ∀ j, 0 ≤ bal ((x.text ++ V.texts false r).take j) := fun j => by
        rw [List.take_append, bal_append]
        have := x2 j; have := r2 (j - x.text.length)
        omega
      rw [V.texts]
      cases b with
      | true => rw [if_pos rfl]; exact two j
      | false =>
        rw [if_neg (by decide), List.cons_append]
        cases j with
        | zero => rw [List.take_zero]; exact Int.le_refl _
        | succ j =>
          rw [List.take_succ_cons, bal]
          have := two j
          have h32 : balB 32 = 0 := by decide
          omega
  have ho : balB (openB k) = 1 := by rcases hk with rfl | rfl <;> decide
  rw [V.text, if_neg (by omega), if_neg (by omega)] at hj ⊢
  obtain ⟨j, rfl⟩ : ∃ i, j = i + 1 := ⟨j - 1, by omega⟩
  rw [List.length_cons, List.length_append, List.length_singleton] at hj
  rw [List.take_succ_cons, bal, List.take_append, show j - (V.texts true l).length = 0 by omega, List.take_zero, List.append_nil, ho]
  have := hit l hl true j
  omega
end

/-! The laws of values' texts: Part, Back, First, Cut. Plain. No program in sight. -/
section
open Go

theorem showV_ok {v : V} {t : List UInt8} (h : showV v = (t, 0)) : v.check = 0 ∧ t = v.text ∧ t.length ≤ 65536 := by
  unfold showV at h
  by_cases h1 : v.check ≠ 0
  · rw [if_pos h1] at h; exact absurd (Prod.mk.inj h).2 h1
  rw [if_neg h1] at h
  by_cases h2 : 65536 < v.text.length
  · rw [if_pos h2] at h; cases h
  rw [if_neg h2] at h
  obtain ⟨rfl, _⟩ := Prod.mk.inj h
  exact ⟨by omega, rfl, by omega⟩
theorem showV_of {v : V} (h : v.check = 0) (hl : v.text.length ≤ 65536) : showV v = (v.text, 0) := by
  unfold showV; rw [if_neg (by omega), if_neg (by omega)]
theorem partV_in {l : List UInt8} {a : Nat} (h : a ≤ l.length) : partV l a = pval (fuelV l) l a 0 1 1 := by
  unfold partV; rw [if_neg (by omega), Int.toNat_natCast]
/-- From where a value's text stands, with a stop behind: that value. -/
theorem part_text {v : V} (h : v.check = 0) (p s : List UInt8) (hs : Stops s) : partV (p ++ (v.text ++ s)) p.length = .ok v (p.length + v.text.length) v.size := by
  obtain ⟨h1, h2, h3⟩ := check_first h
  rw [partV_in (by simp)]
  have := pval_text v p s (fuelV (p ++ (v.text ++ s))) 0 1 1 h1 (by omega) (by omega) (by omega) hs (by unfold fuelV; simp; omega)
  rw [this, Nat.zero_add]
theorem nx_last (l : List UInt8) : nx l l.length = ((10, l.length, l.length, 0, []), 0, 0) := by
  unfold nx
  rw [List.drop_length, fromRest_end _ _ rfl]
  simp
theorem read_text {v : V} (h : v.check = 0) (hl : v.text.length ≤ 65536) : ∃ m, readV v.text = .ok v 0 m := by
  have hp := part_text h [] [] Stops.nil
  rw [List.nil_append, List.append_nil, List.length_nil, Nat.zero_add] at hp
  have hp' : partV v.text 0 = .ok v v.text.length v.size := hp
  refine ⟨v.size, ?_⟩
  unfold readV
  rw [if_neg (by omega), hp']
  show (if (nx v.text v.text.length).2.2 ≠ 0 then _ else _) = _
  rw [nx_last, if_neg (by simp), if_neg (by simp)]
theorem read_ok {l : List UInt8} {v : V} {a m : Nat} (h : readV l = .ok v a m) : a = 0 ∧ l.length ≤ 65536 ∧ ∃ b, pval (fuelV l) l 0 0 1 1 = .ok v b m ∧ (nx l b).2.2 = 0 ∧ (nx l b).1.1 = 10 := by
  unfold readV at h
  by_cases h1 : 65536 < l.length
  · rw [if_pos h1] at h; cases h
  rw [if_neg h1] at h
  obtain ⟨u, b, n, hx, hy⟩ := bindP_ok h
  have hx' : pval (fuelV l) l 0 0 1 1 = .ok u b n := by
    have := partV_in (l := l) (a := 0) (Nat.zero_le _)
    exact this.symm.trans hx
  by_cases h2 : (nx l b).2.2 ≠ 0
  · rw [if_pos h2] at hy; cases hy
  rw [if_neg h2] at hy
  by_cases h3 : (nx l b).1.1 ≠ 10
  · rw [if_pos h3] at hy; cases hy
  rw [if_neg h3] at hy
  cases hy
  exact ⟨rfl, by omega, b, hx', by omega, by omega⟩
/-- What is read may be, has a text, and is read of it. -/
theorem read_back {l : List UInt8} {v : V} {a m : Nat} (hl : l.length ≤ 20000) (h : readV l = .ok v a m) : v.check = 0 ∧ v.text.length ≤ 65536 := by
  obtain ⟨_, _, b, hp, _⟩ := read_ok h
  obtain ⟨h1, h2, h3, h4, h5⟩ := (read_may _).1 _ _ _ _ _ _ _ _ (Nat.zero_le _) hp
  have := (read_ends _).1 _ _ _ _ _ _ _ _ (Nat.zero_le _) hp
  exact ⟨check_zero h1 (by omega) (by omega), by omega⟩
theorem part_bad_in {l s : List UInt8} {p e : Nat} (hs : Stops s) (h : pval (fuelV l) l 0 0 1 1 = .bad p e) (he : e ≠ 4) : pval (fuelV (l ++ s)) (l ++ s) 0 0 1 1 = .bad p e := by
  have hf := (read_fuel (fuelV l) (fuelV (l ++ s))).1 l 0 0 1 1 (Nat.zero_le _) (by unfold fuelV; omega) (by unfold fuelV; rw [List.length_append]; omega)
  rw [hf] at h
  exact ((read_app _).1 l 0 0 1 1 s (Nat.zero_le _) hs (by unfold fuelV; omega)).2 p e h he
theorem part_ok_in {l s : List UInt8} {v : V} {a m : Nat} (hs : Stops s) (h : pval (fuelV l) l 0 0 1 1 = .ok v a m) : pval (fuelV (l ++ s)) (l ++ s) 0 0 1 1 = .ok v a m := by
  have hf := (read_fuel (fuelV l) (fuelV (l ++ s))).1 l 0 0 1 1 (Nat.zero_le _) (by unfold fuelV; omega) (by unfold fuelV; rw [List.length_append]; omega)
  rw [hf] at h
  exact ((read_app _).1 l 0 0 1 1 s (Nat.zero_le _) hs (by unfold fuelV; omega)).1 v a m h
/-- What is refused, but as too short, is refused by the same, there, whatever stands behind a blank. -/
theorem read_first {l t : List UInt8} {p e : Nat} (hl : (l ++ 32 :: t).length ≤ 65536) (h : readV l = .bad p e) (he : e ≠ 4) : readV (l ++ 32 :: t) = .bad p e := by
  have hs : Stops (32 :: t) := by intro b u q; injection q with q _; subst q; decide
  have hll : l.length ≤ 65536 := by rw [List.length_append] at hl; omega
  unfold readV at h ⊢
  rw [if_neg (by omega)] at h ⊢
  have e1 : ∀ l : List UInt8, partV l 0 = pval (fuelV l) l 0 0 1 1 := fun l => partV_in (l := l) (a := 0) (Nat.zero_le _)
  rw [e1] at h ⊢
  cases hx : pval (fuelV l) l 0 0 1 1 with
  | bad p' e' =>
    rw [hx] at h
    cases h
    rw [part_bad_in hs hx he]
    rfl
  | ok v a m =>
    rw [hx] at h
    rw [part_ok_in hs hx]
    have ha := ((read_ends _).1 _ _ _ _ _ _ _ _ (Nat.zero_le _) hx).2
    change (if (nx l a).2.2 ≠ 0 then _ else _) = _ at h
    show (if (nx (l ++ 32 :: t) a).2.2 ≠ 0 then _ else _) = _
    by_cases hst : (nx l a).1.1 = 10
    · have h0 := fromRest_stop a (l.drop a) hst
      have h0' : nx l a = ((10, a + (l.drop a).length, a + (l.drop a).length, 0, []), 0, 0) := h0
      rw [h0'] at h
      simp at h
    · rw [nx_app ha hs hst]
      exact h
theorem bal_all {l : List UInt8} (h : ∀ c ∈ l, blankB c = true) : bal l = 0 := bal_zero fun c hc => bal_blank (h c hc)
/-- A text of a Tuple or a List, cut anywhere ahead of its end, is refused. -/
theorem read_cut {v : V} (hk : v.k = 3 ∨ v.k = 4) (h : v.check = 0) (j : Nat) (hj : j < v.text.length) {u : V} {a m : Nat} : readV (v.text.take j) ≠ .ok u a m := by
  intro hr
  obtain ⟨_, _, b, hp, h0, h1⟩ := read_ok hr
  have hf := (check_first h).1
  have hb := (read_bal _).1 _ _ _ _ _ _ _ _ (Nat.zero_le _) hp
  have he := (read_ends _).1 _ _ _ _ _ _ _ _ (Nat.zero_le _) hp
  rw [List.drop_zero, Nat.sub_zero] at hb
  have hst := rest_stop b ((v.text.take j).drop b) h0 h1
  have hall : bal (v.text.take j) = 0 := by
    have : v.text.take j = (v.text.take j).take b ++ (v.text.take j).drop b := (List.take_append_drop _ _).symm
    rw [this, bal_append, hb, bal_all hst]; rfl
  have hj0 : 0 < j := by
    rcases Nat.eq_zero_or_pos j with e | e
    · subst e
      have := he.2
      simp at this
      omega
    · exact e
  have hpos := tuple_cut (k := v.k) (n := v.n) (l := v.l) hk (by rw [← V.eta v]; exact hf) j hj0 (by rw [← V.eta v]; exact hj)
  rw [← V.eta v, hall] at hpos
  exact absurd hpos (by decide)
end

/-! Blanks more between two marks change nothing but places: plain laws. No program in sight. -/
section
open Go

/-- A mark, or an error, so much farther on. -/
def shiftNX (d : Nat) (x : NextR) : NextR := if x.2.2 = 0 then (shiftM d x.1, 0, 0) else (noMark, x.2.1 + d, x.2.2)
def shiftPR {α : Type} (d : Nat) : PR α → PR α
  | .ok v a m => .ok v (a + d) m
  | .bad p e => .bad (p + d) e
theorem ofGot_shift (a m d : Nat) (g : Got) : ofGot (a + d) m g = shiftNX d (ofGot a m g) := by
  unfold ofGot shiftNX
  by_cases h : g.2 = 0
  · rw [if_pos h, if_pos h, if_pos rfl]
    show ((_, a + d, a + d + m, _, _), 0, 0) = ((_, a + d, a + m + d, _, _), 0, 0)
    rw [show a + d + m = a + m + d by omega]
  · rw [if_neg h, if_neg h, if_neg h]
theorem rest_shift (a d : Nat) (r : List UInt8) : fromRest (a + d) r = shiftNX d (fromRest a r) := by
  rcases Nat.lt_or_eq_of_le (skipN_le r) with hl | hl
  · obtain ⟨bl, x, t, rfl, hb, hc⟩ := split_text r hl
    rw [rest_blanks _ _ _ hb, rest_blanks _ _ _ hb, rest_run _ hc, rest_run _ hc, show a + d + bl.length = a + bl.length + d by omega, ofGot_shift]
  · rw [fromRest_end _ _ hl, fromRest_end _ _ hl]
    unfold shiftNX
    rw [if_pos rfl]
    show ((10, a + d + r.length, a + d + r.length, 0, []), 0, 0) = ((10, a + r.length + d, a + r.length + d, 0, []), 0, 0)
    rw [show a + d + r.length = a + r.length + d by omega]
theorem valE_shift (d : Nat) (x : MarkT) (m deep item : Nat) : valE (shiftM d x) m deep item = valE x m deep item := rfl
theorem begin_shift (d : Nat) (x : MarkT) : beginV (shiftM d x) = beginV x := rfl
/-! ### One step of a reader, by its cases -/
section
variable {f : Nat} {l : List UInt8} {a m deep item k : Nat} {acc : List V} {x : NextR}
theorem pval_e1 (hx : nx l a = x) (h : x.2.2 ≠ 0) : pval (f + 1) l a m deep item = .bad x.2.1 x.2.2 := by
  subst hx; rw [pval, if_pos h]
theorem pval_e2 (hx : nx l a = x) (h0 : x.2.2 = 0) (h1 : valE x.1 m deep item ≠ 0) : pval (f + 1) l a m deep item = .bad x.1.2.1 (valE x.1 m deep item) := by
  subst hx; rw [pval, if_neg (not_not_intro h0), if_pos h1]
theorem pval_e3 (hx : nx l a = x) (h0 : x.2.2 = 0) (h1 : valE x.1 m deep item = 0) (h2 : (beginV x.1).1.k = 3 ∨ (beginV x.1).1.k = 4) :
    pval (f + 1) l a m deep item = bindP (pitems f l x.1.2.2.1 (m + 1) (beginV x.1).1.k deep []) fun vs a' m' => .ok (.mk (beginV x.1).1.k 0 vs) a' m' := by
  subst hx; rw [pval, if_neg (not_not_intro h0), if_neg (not_not_intro h1), if_pos h2]
theorem pval_e4 (hx : nx l a = x) (h0 : x.2.2 = 0) (h1 : valE x.1 m deep item = 0) (h2 : ¬ ((beginV x.1).1.k = 3 ∨ (beginV x.1).1.k = 4)) :
    pval (f + 1) l a m deep item = .ok (beginV x.1).1 x.1.2.2.1 (m + 1) := by
  subst hx; rw [pval, if_neg (not_not_intro h0), if_neg (not_not_intro h1), if_neg h2]
theorem pitems_e1 (hx : nx l a = x) (h : x.2.2 ≠ 0) : pitems (f + 1) l a m k deep acc = .bad x.2.1 x.2.2 := by
  subst hx; rw [pitems, if_pos h]
theorem pitems_e2 (hx : nx l a = x) (h0 : x.2.2 = 0) (h1 : shutsK x.1.1) (h2 : x.1.1 ≠ overK k) : pitems (f + 1) l a m k deep acc = .bad x.1.2.1 3 := by
  subst hx; rw [pitems, if_neg (not_not_intro h0), if_pos h1, if_pos h2]
theorem pitems_e3 (hx : nx l a = x) (h0 : x.2.2 = 0) (h1 : shutsK x.1.1) (h2 : x.1.1 = overK k) : pitems (f + 1) l a m k deep acc = .ok acc x.1.2.2.1 m := by
  subst hx; rw [pitems, if_neg (not_not_intro h0), if_pos h1, if_neg (not_not_intro h2)]
theorem pitems_e4 (hx : nx l a = x) (h0 : x.2.2 = 0) (h1 : ¬ shutsK x.1.1) : pitems (f + 1) l a m k deep acc = bindP (pval f l a m (deep + 1) (acc.length + 1)) fun v a' m' => pitems f l a' m' k deep (acc ++ [v]) := by
  subst hx; rw [pitems, if_neg (not_not_intro h0), if_neg h1]
end
/-- Where the rest of two texts is the same, what is read is the same, farther on. -/
theorem read_shift (L L' : List UInt8) (d b0 : Nat) (hn : ∀ b, b0 ≤ b → b ≤ L.length → nx L' (b + d) = shiftNX d (nx L b)) : ∀ f,
    (∀ a m deep item, b0 ≤ a → a ≤ L.length → 2 * (L.length - a) + 1 ≤ f → pval f L' (a + d) m deep item = shiftPR d (pval f L a m deep item)) ∧
    (∀ a m k deep acc, b0 ≤ a → a ≤ L.length → 2 * (L.length - a) + 2 ≤ f → pitems f L' (a + d) m k deep acc = shiftPR d (pitems f L a m k deep acc)) := by
  intro f
  induction f with
  | zero => exact ⟨fun _ _ _ _ _ _ h => by omega, fun _ _ _ _ _ _ _ h => by omega⟩
  | succ f ih =>
    refine ⟨fun a m deep item hb ha hf => ?_, fun a m k deep acc hb ha hf => ?_⟩
    · have hx := hn a hb ha
      by_cases h0 : (nx L a).2.2 = 0
      · have hx' : nx L' (a + d) = (shiftM d (nx L a).1, 0, 0) := by rw [hx]; unfold shiftNX; rw [if_pos h0]
        by_cases h1 : valE (nx L a).1 m deep item = 0
        · have he := nx_end ha h0 (valE_stop h1)
          by_cases h2 : (beginV (nx L a).1).1.k = 3 ∨ (beginV (nx L a).1).1.k = 4
          · rw [pval_e3 rfl h0 h1 h2, pval_e3 hx' rfl h1 h2]
            show bindP (pitems f L' ((nx L a).1.2.2.1 + d) (m + 1) (beginV (nx L a).1).1.k deep []) _ = _
            rw [ih.2 _ _ _ _ _ (by omega) he.2 (by omega)]
            cases pitems f L (nx L a).1.2.2.1 (m + 1) (beginV (nx L a).1).1.k deep [] <;> rfl
          · rw [pval_e4 rfl h0 h1 h2, pval_e4 hx' rfl h1 h2]; rfl
        · rw [pval_e2 rfl h0 h1, pval_e2 hx' rfl h1]; rfl
      · have hx' : nx L' (a + d) = (noMark, (nx L a).2.1 + d, (nx L a).2.2) := by rw [hx]; unfold shiftNX; rw [if_neg h0]
        rw [pval_e1 rfl h0, pval_e1 hx' h0]; rfl
    · have hx := hn a hb ha
      by_cases h0 : (nx L a).2.2 = 0
      · have hx' : nx L' (a + d) = (shiftM d (nx L a).1, 0, 0) := by rw [hx]; unfold shiftNX; rw [if_pos h0]
        by_cases h1 : shutsK (nx L a).1.1
        · by_cases h2 : (nx L a).1.1 = overK k
          · rw [pitems_e3 rfl h0 h1 h2, pitems_e3 hx' rfl h1 h2]; rfl
          · rw [pitems_e2 rfl h0 h1 h2, pitems_e2 hx' rfl h1 h2]; rfl
        · rw [pitems_e4 rfl h0 h1, pitems_e4 hx' rfl h1, ih.1 _ _ _ _ hb ha (by omega)]
          cases hy : pval f L a m (deep + 1) (acc.length + 1) with
          | ok v b n =>
            have e1 := (read_ends f).1 _ _ _ _ _ _ _ _ ha hy
            exact ih.2 _ _ _ _ _ (by omega) e1.2 (by omega)
          | bad p e => rfl
      · have hx' : nx L' (a + d) = (noMark, (nx L a).2.1 + d, (nx L a).2.2) := by rw [hx]; unfold shiftNX; rw [if_neg h0]
        rw [pitems_e1 rfl h0, pitems_e1 hx' h0]; rfl

/-- So far on, behind marks that are right, a mark begins, or the text ends. -/
inductive Ahead : List UInt8 → Nat → Prop
  | stop (bl : List UInt8) (hb : bl.all blankB = true) : Ahead bl bl.length
  | here (bl x t : List UInt8) (hb : bl.all blankB = true) (hc : Cut x t) : Ahead (bl ++ (x ++ t)) bl.length
  | past (bl x t : List UInt8) (j : Nat) (hb : bl.all blankB = true) (hc : Cut x t) (h0 : (lexRun x).2 = 0) (h : Ahead t j) : Ahead (bl ++ (x ++ t)) (bl.length + x.length + j)
theorem Ahead.le {r : List UInt8} {j : Nat} (h : Ahead r j) : j ≤ r.length := by
  induction h with
  | stop bl hb => exact Nat.le_refl _
  | here bl x t hb hc => simp
  | past bl x t j hb hc h0 h ih => simp; omega
/-- Where All is right, a mark's place, or the end, is ahead. -/
theorem ahead_marks (r : List UInt8) : ∀ a k j, (marks a r).2.2 = 0 → ((k = (marks a r).1.length ∧ j = r.length) ∨ (∃ m, (marks a r).1[k]? = some m ∧ a + j = m.2.1)) → Ahead r j := by
  refine text_ind (fun r => ∀ a k j, (marks a r).2.2 = 0 → ((k = (marks a r).1.length ∧ j = r.length) ∨ (∃ m, (marks a r).1[k]? = some m ∧ a + j = m.2.1)) → Ahead r j) ?_ ?_ r
  · intro bl hb a k j _ h
    rw [marks_blank bl a hb] at h
    rcases h with ⟨_, rfl⟩ | ⟨m, hm, _⟩
    · exact .stop bl hb
    · simp at hm
  · intro bl x t hb hc ih a k j h0 h
    rw [marks_blanks bl a _ hb, marks_run _ hc] at h0 h
    by_cases h1 : (lexRun x).2 = 0
    · rw [if_pos h1] at h0 h
      have h2 : (marks (a + bl.length + x.length) t).2.2 = 0 := by
        unfold prep at h0
        split at h0
        · assumption
        · exact h0
      have hp : (prep [runMark (a + bl.length) x] (marks (a + bl.length + x.length) t)).1 = runMark (a + bl.length) x :: (marks (a + bl.length + x.length) t).1 := by
        unfold prep; rw [if_pos h2]; rfl
      rw [hp] at h
      rcases h with ⟨hk, rfl⟩ | ⟨m, hm, hj⟩
      · have := ih (a + bl.length + x.length) _ t.length h2 (.inl ⟨rfl, rfl⟩)
        have e : (bl ++ (x ++ t)).length = bl.length + x.length + t.length := by simp; omega
        rw [e]
        exact .past bl x t _ hb hc h1 this
      · cases k with
        | zero =>
          simp at hm
          subst hm
          have : j = bl.length := by have : a + j = a + bl.length := hj; omega
          subst this
          exact .here bl x t hb hc
        | succ k =>
          have hm' : (marks (a + bl.length + x.length) t).1[k]? = some m := by simpa using hm
          have hs := (marks_stand t _ m (List.mem_of_getElem? hm')).at1
          have := ih (a + bl.length + x.length) k (j - (bl.length + x.length)) h2 (.inr ⟨m, hm', by omega⟩)
          have e : j = bl.length + x.length + (j - (bl.length + x.length)) := by omega
          rw [e]
          exact .past bl x t _ hb hc h1 this
    · rw [if_neg h1] at h0
      exact absurd h0 h1
theorem stops_more {t bl : List UInt8} (j : Nat) (hs : Stops t) (hb : bl.all blankB = true) : Stops (t.take j ++ (bl ++ t.drop j)) := by
  cases t with
  | nil => rw [List.take_nil, List.drop_nil, List.nil_append, List.append_nil]; have := Stops.blanks hb Stops.nil; rwa [List.append_nil] at this
  | cons b r =>
    cases j with
    | zero => rw [List.take_zero, List.drop_zero, List.nil_append]; exact Stops.blanks hb hs
    | succ j =>
      intro c u e
      rw [List.take_succ_cons, List.cons_append] at e
      injection e with e _
      subst e
      exact hs b r rfl
/-- What two readers tell: the same, but for places. -/
def Rel {α : Type} (d at_ : Nat) (P : Nat → Prop) (x y : PR α) : Prop :=
  (∃ v a a' m, x = .ok v a m ∧ y = .ok v a' m ∧ ((a' = a ∧ P a) ∨ (a' = a + d ∧ at_ ≤ a))) ∨ (∃ p p' e, x = .bad p e ∧ y = .bad p' e ∧ (p' = p ∨ p' = p + d))
section
variable (l bl : List UInt8) (at_ : Nat)
def PlB (a : Nat) : Prop := a ≤ at_ ∧ at_ ≤ l.length ∧ Ahead (l.drop a) (at_ - a)
theorem more_drop {a : Nat} (h1 : a ≤ at_) (h2 : at_ ≤ l.length) : (l.take at_ ++ (bl ++ l.drop at_)).drop a = (l.drop a).take (at_ - a) ++ (bl ++ (l.drop a).drop (at_ - a)) := by
  rw [List.drop_append_of_le_length (by rw [List.length_take]; omega), List.drop_drop, show a + (at_ - a) = at_ by omega, List.drop_take]
theorem more_past {b : Nat} (h1 : at_ ≤ b) (h2 : b ≤ l.length) : (l.take at_ ++ (bl ++ l.drop at_)).drop (b + bl.length) = l.drop b := by
  rw [← List.append_assoc, show b + bl.length = (l.take at_ ++ bl).length + (b - at_) by rw [List.length_append, List.length_take]; omega, ← List.drop_drop, List.drop_left, List.drop_drop, show at_ + (b - at_) = b by omega]
/-- The next mark of both texts, ahead of the place where they part. -/
theorem nx_more (hb : bl.all blankB = true) {a : Nat} (h : PlB l at_ a) :
    (nx (l.take at_ ++ (bl ++ l.drop at_)) a = nx l a ∧ (nx l a).2.2 = 0 ∧ (nx l a).1.1 ≠ 10 ∧ PlB l at_ (nx l a).1.2.2.1) ∨
    (nx (l.take at_ ++ (bl ++ l.drop at_)) a = shiftNX bl.length (nx l a) ∧ ((nx l a).1.1 ≠ 10 → (nx l a).2.2 = 0 → at_ ≤ (nx l a).1.2.2.1)) := by
  obtain ⟨h1, h2, h3⟩ := h
  have hd := more_drop l bl at_ h1 h2
  unfold nx
  rw [hd]
  have hz : a + (at_ - a) = at_ := by omega
  generalize hj : at_ - a = j at *
  generalize hr : l.drop a = r at *
  cases h3 with
  | stop b0 hb0 =>
    right
    rw [List.take_length, List.drop_length, List.append_nil]
    have e : ∀ (c : List UInt8), c.all blankB = true → ∀ a, fromRest a c = ((10, a + c.length, a + c.length, 0, []), 0, 0) := fun c hc a => by
      have := rest_blanks c a [] hc
      rw [List.append_nil] at this
      rw [this, fromRest_end _ _ rfl]; rfl
    rw [e _ (by rw [List.all_append, hb0, hb]; rfl), e _ hb0]
    refine ⟨?_, fun hk => absurd rfl hk⟩
    unfold shiftNX
    rw [if_pos rfl]
    show ((10, a + (r ++ bl).length, a + (r ++ bl).length, 0, []), 0, 0) = ((10, a + r.length + bl.length, a + r.length + bl.length, 0, []), 0, 0)
    rw [List.length_append, Nat.add_assoc]
  | here b0 x t hb0 hc =>
    right
    rw [List.take_left, List.drop_left, rest_blanks _ _ _ hb0, rest_blanks _ _ _ hb, rest_blanks _ _ _ hb0, rest_run _ hc, rest_run _ hc, ofGot_shift]
    refine ⟨rfl, fun _ h0 => ?_⟩
    unfold ofGot at h0 ⊢
    split
    · show at_ ≤ a + b0.length + x.length; omega
    · rename_i q; rw [if_neg q] at h0; exact absurd h0 q
  | past b0 x t j0 hb0 hc h0 hA =>
    left
    have e1 : (b0 ++ (x ++ t)).take (b0.length + x.length + j0) = b0 ++ (x ++ t.take j0) := by
      rw [← List.append_assoc, show b0.length + x.length + j0 = (b0 ++ x).length + j0 by rw [List.length_append], List.take_length_add_append, List.append_assoc]
    have e2 : (b0 ++ (x ++ t)).drop (b0.length + x.length + j0) = t.drop j0 := by
      rw [← List.append_assoc, show b0.length + x.length + j0 = (b0 ++ x).length + j0 by rw [List.length_append], ← List.drop_drop, List.drop_left]
    have hc' : Cut x (t.take j0 ++ (bl ++ t.drop j0)) := hc.to fun hs => stops_more j0 hs hb
    rw [e1, e2, List.append_assoc, List.append_assoc, rest_blanks _ _ _ hb0, rest_blanks _ _ _ hb0, rest_run _ hc', rest_run _ hc]
    have hg : ofGot (a + b0.length) x.length (lexRun x) = (((lexRun x).1.1, a + b0.length, a + b0.length + x.length, (lexRun x).1.2.1, (lexRun x).1.2.2), 0, 0) := by unfold ofGot; rw [if_pos h0]
    rw [hg]
    refine ⟨rfl, rfl, ?_, ?_, h2, ?_⟩
    · have := lexRun_kind x
      show (lexRun x).1.1 ≠ 10
      omega
    · show a + b0.length + x.length ≤ at_
      omega
    · have e3 : l.drop (a + b0.length + x.length) = t := by
        rw [Nat.add_assoc, ← List.drop_drop, hr, ← List.append_assoc, show b0.length + x.length = (b0 ++ x).length by rw [List.length_append], List.drop_left]
      show Ahead (l.drop (a + b0.length + x.length)) (at_ - (a + b0.length + x.length))
      rw [e3, show at_ - (a + b0.length + x.length) = j0 by omega]
      exact hA
theorem read_more (hb : bl.all blankB = true) : ∀ f,
    (∀ a m deep item, PlB l at_ a → 2 * (l.length - a) + 1 ≤ f → Rel bl.length at_ (PlB l at_) (pval f l a m deep item) (pval f (l.take at_ ++ (bl ++ l.drop at_)) a m deep item)) ∧
    (∀ a m k deep acc, PlB l at_ a → 2 * (l.length - a) + 2 ≤ f → Rel bl.length at_ (PlB l at_) (pitems f l a m k deep acc) (pitems f (l.take at_ ++ (bl ++ l.drop at_)) a m k deep acc)) := by
  have hsh : ∀ b, at_ ≤ b → b ≤ l.length → nx (l.take at_ ++ (bl ++ l.drop at_)) (b + bl.length) = shiftNX bl.length (nx l b) := fun b h1 h2 => by
    unfold nx; rw [more_past l bl at_ h1 h2, rest_shift]
  have hS := read_shift l (l.take at_ ++ (bl ++ l.drop at_)) bl.length at_ hsh
  intro f
  induction f with
  | zero => exact ⟨fun _ _ _ _ _ h => by omega, fun _ _ _ _ _ _ h => by omega⟩
  | succ f ih =>
    refine ⟨fun a m deep item hP hf => ?_, fun a m k deep acc hP hf => ?_⟩
    · have ha : a ≤ l.length := Nat.le_trans hP.1 hP.2.1
      rcases nx_more l bl at_ hb hP with ⟨hn, h0, hk, hQ⟩ | ⟨hn, hat⟩
      · by_cases h1 : valE (nx l a).1 m deep item = 0
        · have he := nx_end ha h0 hk
          by_cases h2 : (beginV (nx l a).1).1.k = 3 ∨ (beginV (nx l a).1).1.k = 4
          · rw [pval_e3 rfl h0 h1 h2, pval_e3 hn h0 h1 h2]
            rcases ih.2 _ (m + 1) (beginV (nx l a).1).1.k deep [] hQ (by omega) with ⟨v, b, b', n, e1, e2, hh⟩ | ⟨p, p', e, e1, e2, hh⟩
            · rw [e1, e2]; exact .inl ⟨_, _, _, _, rfl, rfl, hh⟩
            · rw [e1, e2]; exact .inr ⟨_, _, _, rfl, rfl, hh⟩
          · rw [pval_e4 rfl h0 h1 h2, pval_e4 hn h0 h1 h2]; exact .inl ⟨_, _, _, _, rfl, rfl, .inl ⟨rfl, hQ⟩⟩
        · rw [pval_e2 rfl h0 h1, pval_e2 hn h0 h1]; exact .inr ⟨_, _, _, rfl, rfl, .inl rfl⟩
      · by_cases h0 : (nx l a).2.2 = 0
        · have hx' : nx (l.take at_ ++ (bl ++ l.drop at_)) a = (shiftM bl.length (nx l a).1, 0, 0) := by rw [hn]; unfold shiftNX; rw [if_pos h0]
          by_cases h1 : valE (nx l a).1 m deep item = 0
          · have hk := valE_stop h1
            have he := nx_end ha h0 hk
            have hat' := hat hk h0
            by_cases h2 : (beginV (nx l a).1).1.k = 3 ∨ (beginV (nx l a).1).1.k = 4
            · rw [pval_e3 rfl h0 h1 h2, pval_e3 hx' rfl h1 h2]
              show Rel _ _ _ _ (bindP (pitems f _ ((nx l a).1.2.2.1 + bl.length) (m + 1) (beginV (nx l a).1).1.k deep []) _)
              rw [(hS f).2 _ _ _ _ _ hat' he.2 (by omega)]
              cases hx : pitems f l (nx l a).1.2.2.1 (m + 1) (beginV (nx l a).1).1.k deep [] with
              | ok v b n =>
                have e1 := (read_ends f).2 _ _ _ _ _ _ _ _ _ he.2 hx
                exact .inl ⟨_, _, _, _, rfl, rfl, .inr ⟨rfl, by omega⟩⟩
              | bad p e => exact .inr ⟨_, _, _, rfl, rfl, .inr rfl⟩
            · rw [pval_e4 rfl h0 h1 h2, pval_e4 hx' rfl h1 h2]; exact .inl ⟨_, _, _, _, rfl, rfl, .inr ⟨rfl, hat'⟩⟩
          · rw [pval_e2 rfl h0 h1, pval_e2 hx' rfl h1]; exact .inr ⟨_, _, _, rfl, rfl, .inr rfl⟩
        · have hx' : nx (l.take at_ ++ (bl ++ l.drop at_)) a = (noMark, (nx l a).2.1 + bl.length, (nx l a).2.2) := by rw [hn]; unfold shiftNX; rw [if_neg h0]
          rw [pval_e1 rfl h0, pval_e1 hx' h0]; exact .inr ⟨_, _, _, rfl, rfl, .inr rfl⟩
    · have ha : a ≤ l.length := Nat.le_trans hP.1 hP.2.1
      have hcont : Rel bl.length at_ (PlB l at_) (bindP (pval f l a m (deep + 1) (acc.length + 1)) fun v a' m' => pitems f l a' m' k deep (acc ++ [v])) (bindP (pval f (l.take at_ ++ (bl ++ l.drop at_)) a m (deep + 1) (acc.length + 1)) fun v a' m' => pitems f (l.take at_ ++ (bl ++ l.drop at_)) a' m' k deep (acc ++ [v])) := by
        rcases ih.1 a m (deep + 1) (acc.length + 1) hP (by omega) with ⟨v, b, b', n, e1, e2, hh⟩ | ⟨p, p', e, e1, e2, hh⟩
        · have en := (read_ends f).1 _ _ _ _ _ _ _ _ ha e1
          rw [e1, e2]
          rcases hh with ⟨rfl, hB⟩ | ⟨rfl, hB⟩
          · exact ih.2 _ n k deep (acc ++ [v]) hB (by omega)
          · show Rel _ _ _ (pitems f l b n k deep (acc ++ [v])) (pitems f _ (b + bl.length) n k deep (acc ++ [v]))
            rw [(hS f).2 _ _ _ _ _ hB en.2 (by omega)]
            cases hx : pitems f l b n k deep (acc ++ [v]) with
            | ok v' b' n' =>
              have e3 := (read_ends f).2 _ _ _ _ _ _ _ _ _ en.2 hx
              exact .inl ⟨_, _, _, _, rfl, rfl, .inr ⟨rfl, by omega⟩⟩
            | bad p e => exact .inr ⟨_, _, _, rfl, rfl, .inr rfl⟩
        · rw [e1, e2]; exact .inr ⟨_, _, _, rfl, rfl, hh⟩
      rcases nx_more l bl at_ hb hP with ⟨hn, h0, hk, hQ⟩ | ⟨hn, hat⟩
      · by_cases h1 : shutsK (nx l a).1.1
        · by_cases h2 : (nx l a).1.1 = overK k
          · rw [pitems_e3 rfl h0 h1 h2, pitems_e3 hn h0 h1 h2]; exact .inl ⟨_, _, _, _, rfl, rfl, .inl ⟨rfl, hQ⟩⟩
          · rw [pitems_e2 rfl h0 h1 h2, pitems_e2 hn h0 h1 h2]; exact .inr ⟨_, _, _, rfl, rfl, .inl rfl⟩
        · rw [pitems_e4 rfl h0 h1, pitems_e4 hn h0 h1]; exact hcont
      · by_cases h0 : (nx l a).2.2 = 0
        · have hx' : nx (l.take at_ ++ (bl ++ l.drop at_)) a = (shiftM bl.length (nx l a).1, 0, 0) := by rw [hn]; unfold shiftNX; rw [if_pos h0]
          by_cases h1 : shutsK (nx l a).1.1
          · have hat' := hat (by unfold shutsK at h1; omega) h0
            by_cases h2 : (nx l a).1.1 = overK k
            · rw [pitems_e3 rfl h0 h1 h2, pitems_e3 hx' rfl h1 h2]; exact .inl ⟨_, _, _, _, rfl, rfl, .inr ⟨rfl, hat'⟩⟩
            · rw [pitems_e2 rfl h0 h1 h2, pitems_e2 hx' rfl h1 h2]; exact .inr ⟨_, _, _, rfl, rfl, .inr rfl⟩
          · rw [pitems_e4 rfl h0 h1, pitems_e4 hx' rfl h1]; exact hcont
        · have hx' : nx (l.take at_ ++ (bl ++ l.drop at_)) a = (noMark, (nx l a).2.1 + bl.length, (nx l a).2.2) := by rw [hn]; unfold shiftNX; rw [if_neg h0]
          rw [pitems_e1 rfl h0, pitems_e1 hx' h0]; exact .inr ⟨_, _, _, rfl, rfl, .inr rfl⟩
/-- What Read tells of both texts. -/
theorem readV_more (hb : bl.all blankB = true) (hA : Ahead l at_) (hl : l.length + bl.length ≤ 65536) :
    (∃ v m, readV l = .ok v 0 m ∧ readV (l.take at_ ++ (bl ++ l.drop at_)) = .ok v 0 m) ∨
    (∃ p p' e, readV l = .bad p e ∧ readV (l.take at_ ++ (bl ++ l.drop at_)) = .bad p' e ∧ (p' = p ∨ p' = p + bl.length)) := by
  have hat := hA.le
  have hP : PlB l at_ 0 := ⟨Nat.zero_le _, hat, by rw [List.drop_zero, Nat.sub_zero]; exact hA⟩
  have hlen : (l.take at_ ++ (bl ++ l.drop at_)).length = l.length + bl.length := by
    rw [List.length_append, List.length_append, List.length_take, List.length_drop]; omega
  have e1 : ∀ l : List UInt8, partV l 0 = pval (fuelV l) l 0 0 1 1 := fun l => partV_in (l := l) (a := 0) (Nat.zero_le _)
  have hf := (read_fuel (fuelV l) (fuelV (l.take at_ ++ (bl ++ l.drop at_)))).1 l 0 0 1 1 (Nat.zero_le _) (by unfold fuelV; omega) (by unfold fuelV; rw [hlen]; omega)
  have hR := (read_more l bl at_ hb (fuelV (l.take at_ ++ (bl ++ l.drop at_)))).1 0 0 1 1 hP (by unfold fuelV; rw [hlen]; omega)
  rw [← hf] at hR
  unfold readV
  rw [if_neg (by omega), if_neg (by rw [hlen]; omega), e1, e1]
  rcases hR with ⟨v, b, b', n, q1, q2, hh⟩ | ⟨p, p', e, q1, q2, hh⟩
  · rw [q1, q2]
    have hbl : b ≤ l.length := ((read_ends _).1 _ _ _ _ _ _ _ _ (Nat.zero_le _) q1).2
    have key : nx (l.take at_ ++ (bl ++ l.drop at_)) b' = nx l b ∨ nx (l.take at_ ++ (bl ++ l.drop at_)) b' = shiftNX bl.length (nx l b) := by
      rcases hh with ⟨rfl, hB⟩ | ⟨rfl, hB⟩
      · rcases nx_more l bl at_ hb hB with ⟨q, _⟩ | ⟨q, _⟩
        · exact .inl q
        · exact .inr q
      · right; unfold nx; rw [more_past l bl at_ hB hbl, rest_shift]
    have fin : ∀ (x : NextR) (w : V) (i : Nat), (fun (v : V) (a m : Nat) => if x.2.2 ≠ 0 then PR.bad x.2.1 x.2.2 else if x.1.1 ≠ 10 then PR.bad x.1.2.1 6 else PR.ok v 0 m) w i n = if x.2.2 ≠ 0 then PR.bad x.2.1 x.2.2 else if x.1.1 ≠ 10 then PR.bad x.1.2.1 6 else PR.ok w 0 n := fun _ _ _ => rfl
    have g1 : ∀ L c, bindP (PR.ok v c n) (fun v a m => if (nx L a).2.2 ≠ 0 then PR.bad (nx L a).2.1 (nx L a).2.2 else if (nx L a).1.1 ≠ 10 then PR.bad (nx L a).1.2.1 6 else PR.ok v 0 m) = if (nx L c).2.2 ≠ 0 then PR.bad (nx L c).2.1 (nx L c).2.2 else if (nx L c).1.1 ≠ 10 then PR.bad (nx L c).1.2.1 6 else PR.ok v 0 n := fun _ _ => rfl
    rw [g1, g1]
    clear g1 fin
    rcases key with key | key
    · rw [key]
      by_cases h0 : (nx l b).2.2 ≠ 0
      · rw [if_pos h0]; exact .inr ⟨_, _, _, rfl, rfl, .inl rfl⟩
      rw [if_neg h0]
      by_cases h1 : (nx l b).1.1 ≠ 10
      · rw [if_pos h1]; exact .inr ⟨_, _, _, rfl, rfl, .inl rfl⟩
      · rw [if_neg h1]; exact .inl ⟨v, n, rfl, rfl⟩
    · by_cases h0 : (nx l b).2.2 ≠ 0
      · have hk : shiftNX bl.length (nx l b) = (noMark, (nx l b).2.1 + bl.length, (nx l b).2.2) := by unfold shiftNX; rw [if_neg h0]
        rw [key, hk, if_pos h0, if_pos h0]
        exact .inr ⟨_, _, _, rfl, rfl, .inr rfl⟩
      have hk : shiftNX bl.length (nx l b) = (shiftM bl.length (nx l b).1, 0, 0) := by unfold shiftNX; rw [if_pos (Decidable.not_not.1 h0)]
      rw [key, hk, if_neg h0, if_neg (show ¬ ((shiftM bl.length (nx l b).1, 0, 0) : NextR).2.2 ≠ 0 from fun h => h rfl)]
      by_cases h1 : (nx l b).1.1 ≠ 10
      · rw [if_pos h1, if_pos (show ((shiftM bl.length (nx l b).1, 0, 0) : NextR).1.1 ≠ 10 from h1)]
        exact .inr ⟨_, _, _, rfl, rfl, .inr rfl⟩
      · rw [if_neg h1, if_neg (show ¬ ((shiftM bl.length (nx l b).1, 0, 0) : NextR).1.1 ≠ 10 from h1)]
        exact .inl ⟨v, n, rfl, rfl⟩
  · rw [q1, q2]
    exact .inr ⟨p, p', e, rfl, rfl, hh⟩
end
end
end Go.Proofs.YtbhekkkijomglaaGreatDoor
