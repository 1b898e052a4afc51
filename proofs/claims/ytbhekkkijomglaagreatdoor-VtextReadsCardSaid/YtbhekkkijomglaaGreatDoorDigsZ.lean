/- Put together: Digs, Bits. -/
import Derived.Test.YtbhekkkijomglaaGreatDoorProg
import Derived.Test.YtbhekkkijomglaaGreatDoorBaseZ
import Derived.WalkSpells
import Derived.WalkLawsBesides
namespace Go.Proofs.YtbhekkkijomglaaGreatDoor
/-! Naturals as rows of digits. No program in sight. -/
section
/-- The number that digits are, the lowest one first. -/
def dv (B : Nat) : List Nat → Nat
  | [] => 0
  | x :: r => x + B * dv B r
/-- The digits of a number, without 0s at the end. -/
def dgs (B v : Nat) : List Nat := if h : v = 0 ∨ B < 2 then [] else (v % B) :: dgs B (v / B)
termination_by v
decreasing_by
  have : ¬ v = 0 := fun e => h (.inl e)
  have : ¬ B < 2 := fun e => h (.inr e)
  exact Nat.div_lt_self (by omega) (by omega)
theorem dgs_zero (B : Nat) : dgs B 0 = [] := by rw [dgs, dif_pos (.inl rfl)]
theorem dgs_pos {B v : Nat} (hB : 2 ≤ B) (hv : 0 < v) : dgs B v = (v % B) :: dgs B (v / B) := by rw [dgs, dif_neg (by omega)]
theorem dv_dgs {B : Nat} (hB : 2 ≤ B) (v : Nat) : dv B (dgs B v) = v := by
  induction v using Nat.strongRecOn with
  | _ v ih =>
    rcases Nat.eq_zero_or_pos v with h | h
    · subst h; rw [dgs_zero]; rfl
    · rw [dgs_pos hB h, dv, ih _ (Nat.div_lt_self h (by omega))]
      have := Nat.mod_add_div v B
      omega
theorem dgs_lt {B : Nat} (hB : 2 ≤ B) (v : Nat) : ∀ x ∈ dgs B v, x < B := by
  induction v using Nat.strongRecOn with
  | _ v ih =>
    rcases Nat.eq_zero_or_pos v with h | h
    · subst h; rw [dgs_zero]; intro x hx; simp at hx
    · rw [dgs_pos hB h]
      intro x hx
      rcases List.mem_cons.1 hx with rfl | hx
      · exact Nat.mod_lt _ (by omega)
      · exact ih _ (Nat.div_lt_self h (by omega)) x hx
theorem dv_append (B : Nat) : ∀ (l m : List Nat), dv B (l ++ m) = dv B l + B ^ l.length * dv B m
  | [], m => by simp [dv]
  | x :: r, m => by
    rw [List.cons_append, dv, dv, dv_append B r m, List.length_cons, Nat.pow_succ, Nat.mul_add, ← Nat.mul_assoc, ← Nat.add_assoc, Nat.mul_comm B (B ^ r.length)]
theorem dv_lt {B : Nat} : ∀ (l : List Nat), (∀ x ∈ l, x < B) → dv B l < B ^ l.length
  | [], _ => by simp [dv]
  | x :: r, h => by
    have h1 := h x (by simp)
    have h2 := dv_lt r (fun y hy => h y (by simp [hy]))
    rw [dv, List.length_cons, Nat.pow_succ, Nat.mul_comm (B ^ r.length)]
    have h3 : B * dv B r + B ≤ B * B ^ r.length := by
      rw [← Nat.mul_succ]
      exact Nat.mul_le_mul_left _ h2
    omega
/-- Digits whose last one is not 0. -/
theorem dgs_of {B : Nat} (hB : 2 ≤ B) : ∀ (l : List Nat) (y : Nat), (∀ x ∈ l, x < B) → 0 < y → y < B → dgs B (dv B (l ++ [y])) = l ++ [y]
  | [], y, _, h0, h1 => by
    show dgs B (y + B * 0) = [y]
    rw [Nat.mul_zero, Nat.add_zero, dgs_pos hB h0, Nat.mod_eq_of_lt h1, Nat.div_eq_of_lt h1, dgs_zero]
  | x :: r, y, h, h0, h1 => by
    have ih := dgs_of hB r y (fun z hz => h z (by simp [hz])) h0 h1
    have hx := h x (by simp)
    have hp : 0 < dv B (r ++ [y]) := by
      rw [dv_append]
      have : 0 < B ^ r.length * dv B [y] := Nat.mul_pos (Nat.pow_pos (by omega)) (by show 0 < y + B * 0; omega)
      omega
    have hpos : 0 < x + B * dv B (r ++ [y]) := by
      have := Nat.mul_pos (show 0 < B by omega) hp
      omega
    rw [List.cons_append, dv, dgs_pos hB hpos, Nat.add_mul_mod_self_left, Nat.mod_eq_of_lt hx, Nat.add_mul_div_left _ _ (by omega), Nat.div_eq_of_lt hx, Nat.zero_add, ih]
theorem dgs_last {B : Nat} (hB : 2 ≤ B) (v : Nat) (hv : 0 < v) : ∃ l y, dgs B v = l ++ [y] ∧ 0 < y := by
  induction v using Nat.strongRecOn with
  | _ v ih =>
    rw [dgs_pos hB hv]
    rcases Nat.eq_zero_or_pos (v / B) with h | h
    · rw [h, dgs_zero]
      have := Nat.mod_add_div v B
      rw [h] at this
      exact ⟨[], v % B, rfl, by omega⟩
    · obtain ⟨l, y, e, hy⟩ := ih _ (Nat.div_lt_self hv (by omega)) h
      exact ⟨(v % B) :: l, y, by rw [e]; rfl, hy⟩
theorem dgs_nil {B : Nat} (hB : 2 ≤ B) (v : Nat) : dgs B v = [] ↔ v = 0 := by
  constructor
  · intro h
    rcases Nat.eq_zero_or_pos v with h0 | h0
    · exact h0
    · rw [dgs_pos hB h0] at h; cases h
  · rintro rfl; exact dgs_zero B
/-- 0s cut off at the end. -/
theorem cut_zero {B : Nat} (l : List Nat) (k : Nat) (hk : k < l.length) (h0 : l[k]? = some 0) : dv B (l.take (k + 1)) = dv B (l.take k) := by
  rw [List.take_add_one, h0]
  show dv B (l.take k ++ [0]) = _
  rw [dv_append]
  simp [dv]
theorem cut_done {B : Nat} (hB : 2 ≤ B) (l : List Nat) (k : Nat) (y : Nat) (hl : ∀ x ∈ l, x < B) (hy : l[k]? = some y) (h0 : 0 < y) : dgs B (dv B (l.take (k + 1))) = l.take (k + 1) := by
  have e : l.take (k + 1) = l.take k ++ [y] := by rw [List.take_add_one, hy]; rfl
  rw [e]
  exact dgs_of hB _ y (fun x hx => hl x (List.mem_of_mem_take hx)) h0 (hl y (List.mem_of_getElem? hy))

/-- Digits, four by four. -/
def packs (B : Nat) : List Nat → List Nat
  | [] => []
  | x :: r => dv B ((x :: r).take 4) :: packs B ((x :: r).drop 4)
termination_by l => l.length
decreasing_by simp; omega
theorem packs_nil (B : Nat) : packs B [] = [] := by rw [packs]
theorem packs_cons (B : Nat) (l : List Nat) (h : l ≠ []) : packs B l = dv B (l.take 4) :: packs B (l.drop 4) := by
  cases l with
  | nil => exact absurd rfl h
  | cons x r => rw [packs]
theorem dv_four (B : Nat) (l : List Nat) : dv B l = dv B (l.take 4) + B ^ 4 * dv B (l.drop 4) := by
  by_cases h : l.length ≤ 4
  · rw [List.take_of_length_le h, List.drop_eq_nil_of_le h]; simp [dv]
  · have e : (l.take 4).length = 4 := by rw [List.length_take]; omega
    have := dv_append B (l.take 4) (l.drop 4)
    rw [List.take_append_drop, e] at this
    exact this
theorem packs_dgs {B : Nat} (hB : 2 ≤ B) (v : Nat) : packs B (dgs B v) = dgs (B ^ 4) v := by
  have hB4 : 2 ≤ B ^ 4 := Nat.le_trans hB (Nat.le_self_pow (by decide) B)
  induction v using Nat.strongRecOn with
  | _ v ih =>
    rcases Nat.eq_zero_or_pos v with h | h
    · subst h; rw [dgs_zero, dgs_zero, packs_nil]
    · have hne : dgs B v ≠ [] := fun e => by rw [dgs_nil hB] at e; omega
      have hv := dv_four B (dgs B v)
      rw [dv_dgs hB] at hv
      have hlt : dv B ((dgs B v).take 4) < B ^ 4 := by
        refine Nat.lt_of_lt_of_le (dv_lt _ fun x hx => dgs_lt hB v x (List.mem_of_mem_take hx)) (Nat.pow_le_pow_right (by omega) ?_)
        rw [List.length_take]; omega
      have hmod : v % B ^ 4 = dv B ((dgs B v).take 4) := by rw [hv, Nat.add_mul_mod_self_left, Nat.mod_eq_of_lt hlt, ← hv]
      have hdiv : v / B ^ 4 = dv B ((dgs B v).drop 4) := by
        have : (dv B ((dgs B v).take 4) + B ^ 4 * dv B ((dgs B v).drop 4)) / B ^ 4 = dv B ((dgs B v).drop 4) := by
          rw [Nat.add_mul_div_left _ _ (by omega), Nat.div_eq_of_lt hlt, Nat.zero_add]
        rw [← hv] at this
        exact this
      have hrest : dgs B (v / B ^ 4) = (dgs B v).drop 4 := by
        rw [hdiv]
        rcases Nat.eq_zero_or_pos (dv B ((dgs B v).drop 4)) with h0 | h0
        · rw [h0, dgs_zero]
          obtain ⟨l, y, e, hy⟩ := dgs_last hB v h
          rcases Nat.lt_or_ge 4 (dgs B v).length with h4 | h4
          · exfalso
            rw [e] at h0 h4
            rw [List.length_append, List.length_singleton] at h4
            rw [List.drop_append_of_le_length (by omega), dv_append] at h0
            have : 0 < B ^ (l.drop 4).length * dv B [y] := Nat.mul_pos (Nat.pow_pos (by omega)) (by show 0 < y + B * 0; omega)
            omega
          · exact (List.drop_eq_nil_of_le h4).symm
        · obtain ⟨l, y, e, hy⟩ := dgs_last hB v h
          have hl4 : 4 ≤ l.length := by
            rcases Nat.lt_or_ge l.length 4 with h4 | h4
            · exfalso
              have : (dgs B v).drop 4 = [] := List.drop_eq_nil_of_le (by rw [e, List.length_append, List.length_singleton]; omega)
              rw [this] at h0
              exact absurd h0 (Nat.lt_irrefl 0)
            · exact h4
          have e2 : (dgs B v).drop 4 = l.drop 4 ++ [y] := by rw [e, List.drop_append_of_le_length hl4]
          rw [e2]
          have hall := dgs_lt hB v
          rw [e] at hall
          exact dgs_of hB _ y (fun x hx => hall x (List.mem_append_left _ (List.mem_of_mem_drop hx))) hy (hall y (by simp))
      rw [packs_cons B _ hne, ← hmod, ← hrest, dgs_pos hB4 h, ih _ (Nat.div_lt_self h (by omega))]

/-- A number's four digits. -/
def four (B x : Nat) : List Nat := [x % B, x / B % B, x / B / B % B, x / B / B / B % B]
def unp (B : Nat) (l : List Nat) : List Nat := l.flatMap (four B)
theorem four_dv {B : Nat} (hB : 0 < B) (x : Nat) (hx : x < B ^ 4) : dv B (four B x) = x := by
  have h1 := Nat.mod_add_div x B
  have h2 := Nat.mod_add_div (x / B) B
  have h3 := Nat.mod_add_div (x / B / B) B
  have h4 : x / B / B / B < B := by
    rw [Nat.div_div_eq_div_mul, Nat.div_div_eq_div_mul, Nat.div_lt_iff_lt_mul (Nat.mul_pos hB (Nat.mul_pos hB hB))]
    have : B ^ 4 = B * (B * (B * B)) := by rw [Nat.pow_succ, Nat.pow_succ, Nat.pow_succ, Nat.pow_succ, Nat.pow_zero]; simp [Nat.mul_assoc]
    omega
  show x % B + B * (x / B % B + B * (x / B / B % B + B * (x / B / B / B % B + B * 0))) = x
  rw [Nat.mul_zero, Nat.add_zero, Nat.mod_eq_of_lt h4, h3, h2, h1]
theorem unp_dv {B : Nat} (hB : 0 < B) : ∀ (l : List Nat), (∀ x ∈ l, x < B ^ 4) → dv B (unp B l) = dv (B ^ 4) l
  | [], _ => rfl
  | x :: r, h => by
    have e : unp B (x :: r) = four B x ++ unp B r := rfl
    rw [e, dv_append, four_dv hB x (h x (by simp)), unp_dv hB r (fun y hy => h y (by simp [hy]))]
    rfl
theorem unp_lt {B : Nat} (hB : 0 < B) (l : List Nat) : ∀ x ∈ unp B l, x < B := by
  intro x hx
  obtain ⟨y, _, hy⟩ := List.mem_flatMap.1 hx
  simp only [four, List.mem_cons, List.not_mem_nil, or_false] at hy
  rcases hy with rfl | rfl | rfl | rfl <;> exact Nat.mod_lt _ hB
theorem unp_snoc (B : Nat) (l : List Nat) (x : Nat) : unp B (l ++ [x]) = unp B l ++ four B x := by unfold unp; rw [List.flatMap_append]; simp
theorem unp_length (B : Nat) (l : List Nat) : (unp B l).length = 4 * l.length := by
  induction l with
  | nil => rfl
  | cons x r ih =>
    have e : unp B (x :: r) = four B x ++ unp B r := rfl
    rw [e, List.length_append, ih, List.length_cons]
    show 4 + _ = _
    omega

/-- Times ten, and some more. -/
def tenGo (B : Nat) : Nat → List Nat → List Nat
  | c, [] => if 0 < c then [c] else []
  | c, x :: r => ((x * 10 + c) % B) :: tenGo B ((x * 10 + c) / B) r
theorem tenGo_dv {B : Nat} (hB : 0 < B) : ∀ (l : List Nat) (c : Nat), dv B (tenGo B c l) = dv B l * 10 + c
  | [], c => by
    unfold tenGo
    split
    · show c + B * 0 = 0 * 10 + c; omega
    · show 0 = 0 * 10 + c; omega
  | x :: r, c => by
    rw [tenGo, dv, tenGo_dv hB r, dv]
    have := Nat.mod_add_div (x * 10 + c) B
    rw [Nat.mul_add, ← Nat.mul_assoc, Nat.add_mul, Nat.mul_assoc B (dv B r) 10] 
    have e : B * (dv B r * 10) = B * dv B r * 10 := (Nat.mul_assoc _ _ _).symm
    omega
theorem tenGo_lt {B : Nat} (hB : 11 ≤ B) : ∀ (l : List Nat) (c : Nat), c < B → (∀ x ∈ l, x < B) → ∀ y ∈ tenGo B c l, y < B
  | [], c, hc, _, y, hy => by
    unfold tenGo at hy
    split at hy
    · obtain rfl := List.mem_singleton.1 hy; exact hc
    · simp at hy
  | x :: r, c, hc, h, y, hy => by
    rw [tenGo] at hy
    rcases List.mem_cons.1 hy with rfl | hy
    · exact Nat.mod_lt _ (by omega)
    · refine tenGo_lt hB r _ ?_ (fun z hz => h z (by simp [hz])) y hy
      have := h x (by simp)
      rw [Nat.div_lt_iff_lt_mul (by omega)]
      have h10 : 11 * B ≤ B * B := Nat.mul_le_mul_right B hB
      omega
theorem tenGo_length (B : Nat) : ∀ (l : List Nat) (c : Nat), (tenGo B c l).length ≤ l.length + 1
  | [], c => by unfold tenGo; split <;> simp
  | x :: r, c => by rw [tenGo, List.length_cons, List.length_cons]; have := tenGo_length B r ((x * 10 + c) / B); omega
end

/-! The walks of bits.odd, bits.Is. -/
section
open Go.RowKit

theorem odd_any (s : ByteArray) (w : World) (hs : s.size ≤ maxLen) :
    Calls Tryz.prog 131 #[.string s] w fun e w' => e = .returned (.bool (oddB s.data.toList)) ∧ w = w' := by
  unfold maxLen at hs
  go_enter Tryz.func131, Tryz.ntmps131
  go_wp2
  go_loop [6] (fun i => ∃ k : Nat, k ≤ s.size ∧ i = .int .i64 k ∧ (s.data.toList.take k).all bitB = true) (fun i => s.size - (intOf i).toNat)
  case atStart => exact ⟨0, Nat.zero_le _, rfl, rfl⟩
  case round =>
    obtain ⟨k, hk, rfl, hall⟩ := hrel
    have HA := Lib.hid hall; clear hall
    go_wp2
    · have hlt : k < s.size := by assumption
      have h48 : (s[k].toNat : Int) = 48 := by assumption
      go_round
      case rel => exact ⟨k + 1, by omega, by go_num, by rw [take_all_snoc s k hlt, HA.out, bitB_48 _ h48]; rfl⟩
      case measure => simp [intOf]; omega
    · have hlt : k < s.size := by assumption
      have hno : ((s[k].toNat : Int) != 48) = true ∧ ((s[k].toNat : Int) != 49) = true := by assumption
      go_ret
      exact ⟨ret_bool (oddB_of_bad s k hlt (bitB_no _ hno)).symm, rfl⟩
    · have hlt : k < s.size := by assumption
      have hor : ((s[k].toNat : Int) != 48) = false ∨ ((s[k].toNat : Int) != 49) = false := by assumption
      go_round
      case rel => exact ⟨k + 1, by omega, by go_num, by rw [take_all_snoc s k hlt, HA.out, bitB_or _ hor]; rfl⟩
      case measure => simp [intOf]; omega
    · have hge : ¬ k < s.size := by assumption
      obtain rfl : k = s.size := by omega
      go_ret
      exact ⟨ret_bool (oddB_of_all s HA.out).symm, rfl⟩

theorem is_any (s : ByteArray) (w : World) (hs : s.size ≤ maxLen) :
    Calls Tryz.prog 114 #[.string s] w fun e w' => e = .returned (.bool (isB s.data.toList)) ∧ w = w' := by
  have hs' := hs
  unfold maxLen at hs
  by_cases h : s.size ≤ 1024
  · go_enter Tryz.func114, Tryz.ntmps114
    go_wp2_with (go_at_call 131; refine (odd_any s _ hs').mono ?_; rintro e w' ⟨rfl, rfl⟩)
    go_ret
    exact ⟨by simp [isB, h], rfl⟩
  · go_enter Tryz.func114, Tryz.ntmps114
    go_wp2_with fail
    go_ret
    exact ⟨by simp [isB, h], rfl⟩
end
end Go.Proofs.YtbhekkkijomglaaGreatDoor
