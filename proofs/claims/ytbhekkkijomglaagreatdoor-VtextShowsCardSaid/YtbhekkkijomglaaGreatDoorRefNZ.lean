/- Put together: RefN, RefJ, RefD, RefR, RefS, RefI, RefK, RefL, RefP, RefB, RefU. -/
import Derived.Test.YtbhekkkijomglaaGreatDoorBase
import Derived.Test.YtbhekkkijomglaaGreatDoorDigs
import Derived.Test.YtbhekkkijomglaaGreatDoorLexW4
import Derived.Test.YtbhekkkijomglaaGreatDoorNumA
import Derived.Test.YtbhekkkijomglaaGreatDoorLexW1
import Derived.OwnWalk
import Derived.WalkSpells
import Derived.WalkLawsBesides
import Derived.Laws.AppendOwn
import Derived.Handy
namespace Go.Proofs.YtbhekkkijomglaaGreatDoor
/-! The walks of the references' naturals: cut, Join, Digits, Trim, Small. -/
section
open Go.RowKit

def uCells (xs : List Nat) : List Value := xs.map fun (x : Nat) => Value.int .u64 (x : Int)
theorem uCells_append (a b : List Nat) : uCells (a ++ b) = uCells a ++ uCells b := by unfold uCells; exact List.map_append
theorem uCells_length (a : List Nat) : (uCells a).length = a.length := by unfold uCells; exact List.length_map _
/-- A slice's value holds numbers. -/
def Nsl (w : World) (A : Option Addr) (xs : List Nat) : Prop := xs ≠ [] → ∃ g o, A = some ⟨g, o, none⟩ ∧ g < w.heap.size ∧ ∀ (k x : Nat), xs[k]? = some x → w.cell? ⟨g, o + k, none⟩ = some (.int .u64 x)
theorem Nsl.nil (w : World) (A : Option Addr) : Nsl w A [] := fun h => absurd rfl h
theorem Nsl.below {w w' : World} {A : Option Addr} {xs : List Nat} (h : Nsl w A xs) (hb : Below w.heap.size w w') : Nsl w' A xs := fun hn => by
  obtain ⟨g, o, e, hg, hc⟩ := h hn
  exact ⟨g, o, e, Nat.lt_of_lt_of_le hg hb.size, fun k x hx => by rw [hb.cell (p := ⟨g, o + k, none⟩) hg]; exact hc k x hx⟩
theorem Nsl.take {w : World} {A : Option Addr} {xs : List Nat} (h : Nsl w A xs) (n : Nat) : Nsl w A (xs.take n) := fun hn => by
  have hne : xs ≠ [] := by intro e; rw [e] at hn; simp at hn
  obtain ⟨g, o, e, hg, hc⟩ := h hne
  refine ⟨g, o, e, hg, fun k x hx => hc k x ?_⟩
  rw [List.getElem?_take] at hx
  split at hx
  · exact hx
  · cases hx
theorem own_nsl {w : World} {B : Nat} {T : TypeId} {v : Value} {xs : List Nat} (h : w.ownsRow B T 1 v xs.length (uCells xs)) :
    ∃ A c, v = .slice A xs.length c ∧ Nsl w A xs ∧ xs.length ≤ c := by
  rcases Nat.eq_zero_or_pos xs.length with h0 | h0
  · have hnil : xs = [] := List.length_eq_zero_iff.1 h0
    subst hnil
    rcases h.2 with ⟨hv, _⟩ | ⟨g, cap, cur, hv, _⟩
    · exact ⟨none, 0, hv, Nsl.nil _ _, Nat.zero_le _⟩
    · exact ⟨_, cap, hv, Nsl.nil _ _, Nat.zero_le _⟩
  · rcases h.2 with ⟨_, hz⟩ | ⟨g, cap, cur, hv, _, _, hcap, _⟩
    · omega
    · subst hv
      obtain ⟨g', cap', hv', hg⟩ := h.form h0
      simp only [Value.slice.injEq, Option.some.injEq, Addr.mk.injEq, true_and, and_true] at hv'
      obtain ⟨rfl, rfl⟩ := hv'
      refine ⟨_, cap, rfl, fun _ => ⟨g, 0, rfl, hg.2, fun k x hx => ?_⟩, hcap⟩
      have h1 := h.cells (g := g) rfl k (.int .u64 x) (by unfold uCells; rw [List.getElem?_map, hx]; rfl)
      by_cases hj0 : k = 0
      · subst hj0; simpa [Addr.add] using h1
      · simpa [Addr.add, hj0] using h1
theorem u_one (xs : List Nat) : ∀ u ∈ uCells xs, u.oneCell' = true := by
  intro u hu
  obtain ⟨x, _, rfl⟩ := List.mem_map.1 hu
  rfl
theorem one_new (w : World) (v : Value) (t : TypeId) : ∀ j u, [v][j]? = some u → (w.alloc (.cells #[v] t)).cell? ((⟨w.heap.size, 0, none⟩ : Addr).add j) = some u := by
  intro j u hj
  match j, hj with
  | 0, hj => simp at hj; subst hj; simp [Addr.add]
  | j + 1, hj => simp at hj

set_option maxRecDepth 100000 in
set_option maxHeartbeats 1000000 in
theorem cut_any (xs : List Nat) (A : Option Addr) (c : Nat) (w : World) (hn : xs.length ≤ 1048576) (hc : xs.length ≤ c) (hA : Nsl w A xs) (hlt : ∀ x ∈ xs, x < 65536) :
    Calls Tryz.prog 120 #[.slice A xs.length c] w fun e w' => ∃ n, e = .returned (.slice A n c) ∧ n ≤ xs.length ∧ Hid (xs.take n = dgs 65536 (dv 65536 xs)) ∧ w = w' := by
  have HLT := Lib.hid hlt; clear hlt
  have h0 : Hid (dv 65536 (xs.take xs.length) = dv 65536 xs) := by show _ = _; rw [List.take_length]
  go_enter Tryz.func120, Tryz.ntmps120
  go_wp2_with fail
  go_loop [3] (fun n => ∃ k : Nat, k ≤ xs.length ∧ n = .int .i64 k ∧ Hid (dv 65536 (xs.take k) = dv 65536 xs)) (fun n => (intOf n).toNat)
  case atStart => exact ⟨_, Nat.le_refl _, rfl, h0⟩
  case round =>
    obtain ⟨k, hk, rfl, HK⟩ := hrel
    have kc : (k : Int) ≤ (c : Int) := by omega
    rcases Nat.eq_zero_or_pos k with hk0 | hk0
    · subst hk0
      have hfin : Hid (xs.take 0 = dgs 65536 (dv 65536 xs)) := by
        show _ = _
        rw [← HK.out, List.take_zero]
        exact (dgs_zero _).symm
      clear HK h0
      go_wp2_with fail
      go_ret
      exact ⟨0, rfl, Nat.zero_le _, hfin, rfl⟩
    · obtain ⟨j, rfl⟩ : ∃ j, k = j + 1 := ⟨k - 1, by omega⟩
      obtain ⟨x, hx⟩ : ∃ x, xs[j]? = some x := ⟨xs[j], List.getElem?_eq_getElem (by omega)⟩
      obtain ⟨g, o, rfl, hg, hcl⟩ := hA (by intro h; rw [h] at hk; simp at hk)
      have cj := hcl j x hx
      have hjn : (j : Int) < (xs.length : Int) := by omega
      have hx6 := HLT.out x (List.mem_of_getElem? hx)
      have HX := Lib.hid hx; clear hx hcl
      by_cases hx0 : x = 0
      · subst hx0
        have hstep : Hid (dv 65536 (xs.take j) = dv 65536 xs) := by show _ = _; rw [← HK.out, cut_zero xs j (by omega) HX.out]
        clear HK
        go_wp2_with fail
        go_round
        case rel => exact ⟨j, by omega, by go_num, hstep⟩
        case measure => simp [intOf] <;> omega
      · have hfin : Hid (xs.take (j + 1) = dgs 65536 (dv 65536 xs)) := by
          show _ = _
          rw [← HK.out]
          exact (cut_done (by decide) xs j x HLT.out HX.out (by omega)).symm
        have hx1 : ((x : Int) == 0) = false := beq_eq_false_iff_ne.2 (by omega)
        clear HK
        go_wp2_with fail
        go_ret
        exact ⟨j + 1, rfl, hk, hfin, rfl⟩
end

/-! The walks of the references' Join, Digits, Trim, Small (naturals). -/
section
open Go.RowKit

/-- Digits, from the j-th on, of the first e ones. -/
def win (ys : List Nat) (e j : Nat) : Nat := dv 65536 ((ys.take e).drop j)
theorem win_end (ys : List Nat) (e : Nat) (h : e ≤ ys.length) : win ys e e = 0 := by
  unfold win
  rw [List.drop_eq_nil_of_le (by rw [List.length_take]; omega)]
  rfl
theorem win_step (ys : List Nat) (e j y : Nat) (hj : j < e) (he : e ≤ ys.length) (hy : ys[j]? = some y) : win ys e j = y + 65536 * win ys e (j + 1) := by
  unfold win
  have hl : (ys.take e).length = e := by rw [List.length_take]; omega
  have hg : (ys.take e)[j]? = some y := by rw [List.getElem?_take, if_pos hj]; exact hy
  obtain ⟨h1, h2⟩ := List.getElem?_eq_some_iff.1 hg
  rw [List.drop_eq_getElem_cons h1, h2]
  rfl
theorem win_lt (ys : List Nat) (e j : Nat) (hlt : ∀ x ∈ ys, x < 65536) : win ys e j < 65536 ^ (e - j) := by
  unfold win
  refine Nat.lt_of_lt_of_le (dv_lt _ fun x hx => hlt x (List.mem_of_mem_take (List.mem_of_mem_drop hx))) (Nat.pow_le_pow_right (by decide) ?_)
  rw [List.length_drop, List.length_take]
  omega
theorem win_four (ys : List Nat) (k e : Nat) (he : e = min ys.length (k + 4)) : win ys e k = dv 65536 ((ys.drop k).take 4) := by
  unfold win
  congr 1
  rw [he]
  apply List.ext_getElem?
  intro i
  rw [List.getElem?_drop, List.getElem?_take, List.getElem?_take, List.getElem?_drop]
  by_cases h4 : i < 4
  · rw [if_pos h4]
    by_cases hl : k + i < ys.length
    · rw [if_pos (by omega)]
    · rw [if_neg (by omega), List.getElem?_eq_none (by omega)]
  · rw [if_neg h4, if_neg (by omega)]

set_option maxRecDepth 100000 in
set_option maxHeartbeats 2000000 in
theorem njoin_any (xs : List Nat) (A : Option Addr) (c : Nat) (w : World) (hn : xs.length ≤ 1048576) (hc : xs.length ≤ c) (hA : Nsl w A xs) (hlt : ∀ x ∈ xs, x < 65536) :
    Calls Tryz.prog 102 #[.slice A xs.length c] w fun e w' => ∃ v, e = .returned v ∧ w'.ownsRow w.heap.size 130 1 v (dgs (65536 ^ 4) (dv 65536 xs)).length (uCells (dgs (65536 ^ 4) (dv 65536 xs))) ∧ Below w.heap.size w w' := by
  obtain ⟨i0, hi, hz0, hz1, hz2⟩ := info_parts (P := Tryz.prog) (e := 130) (z := .int .u64 0) (size := 1) (bytes := 8) (by kernel_rfl)
  have HU : Tryz.prog.underlying 102 = some (.slice 130) := by kernel_rfl
  have HI := Lib.hid (And.intro hi (And.intro hz0 (And.intro hz1 (And.intro hz2 HU))))
  clear hi hz0 hz1 hz2 HU
  have CC := fun W hA => cut_any xs A c W hn hc hA hlt
  have HC := Lib.hid CC; clear CC
  have HLT := Lib.hid hlt; clear hlt
  have HP : Hid (packs 65536 (dgs 65536 (dv 65536 xs)) = dgs (65536 ^ 4) (dv 65536 xs)) := packs_dgs (by decide) _
  generalize dgs (65536 ^ 4) (dv 65536 xs) = outs at *
  go_enter Tryz.func102, Tryz.ntmps102
  go_wp2_with fail
  refine (HC.out _ hA).mono ?_
  rintro e w1 ⟨n, rfl, hnl, HN, rfl⟩
  have hy1 : Nsl w A (xs.take n) := hA.take n
  have hy2 : (xs.take n).length = n := by rw [List.length_take]; omega
  have hy3 : ∀ x ∈ xs.take n, x < 65536 := fun x hx => HLT.out x (List.mem_of_mem_take hx)
  have hy4 : packs 65536 (xs.take n) = outs := by rw [HN.out, HP.out]
  clear HP HN hA HLT HC
  generalize xs.take n = ys at *
  have HY2 := Lib.hid hy2
  have HY3 := Lib.hid hy3
  have HY4 : Hid ([] ++ packs 65536 (ys.drop 0) = outs) := by show _ = _; rw [List.nil_append, List.drop_zero]; exact hy4
  clear hy2 hy3 hy4
  go_wp2_with fail
  go_loopw [3, 4] (fun v i wr => ∃ (k : Nat) (done : List Nat), i = .int .i64 k ∧ k ≤ n + 3 ∧ done.length ≤ k ∧ wr.ownsRow w.heap.size 130 1 v done.length (uCells done) ∧ Below w.heap.size w wr ∧ Hid (done ++ packs 65536 (ys.drop k) = outs)) (fun _ i _ => n + 4 - (intOf i).toNat)
  case atStart => exact ⟨0, [], rfl, by omega, Nat.le_refl _, World.ownsRow_nil _ _ _ _, Below.refl _ _, HY4.out⟩
  case round =>
    obtain ⟨k, done, rfl, hk, hdl, hown, hbw, HS⟩ := hrel
    by_cases hlt : k < n
    · obtain ⟨e, he⟩ : ∃ e, e = min n (k + 4) := ⟨_, rfl⟩
      have hke : k < e := by omega
      have hen : e ≤ n := by omega
      have he4 : e ≤ k + 4 := by omega
      have hne : ys.drop k ≠ [] := by
        intro h
        have := congrArg List.length h
        rw [List.length_drop, HY2.out] at this
        simp at this
        omega
      have hpk := packs_cons 65536 (ys.drop k) hne
      have hw4 := win_four ys k e (by rw [HY2.out]; exact he)
      rw [← hw4, List.drop_drop] at hpk
      have hnext : (done ++ [win ys e k]) ++ packs 65536 (ys.drop (k + 4)) = outs := by rw [← HS.out, hpk, List.append_assoc]; rfl
      have HNX := Lib.hid hnext
      have HWE := Lib.hid (win_end ys e (by rw [HY2.out]; exact hen))
      clear hnext hpk hw4 hne HS
      obtain ⟨g, o, rfl, hg, hcl⟩ := hy1 (by intro h; have := HY2.out; rw [h] at this; simp at this; omega)
      have hgw := hg
      have hcw : ∀ (k x : Nat), ys[k]? = some x → wr.cell? ⟨g, o + k, none⟩ = some (.int .u64 x) := fun k x hx => by rw [hbw.cell (p := ⟨g, o + k, none⟩) hg]; exact hcl k x hx
      have HCW := Lib.hid hcw; clear hcw hcl
      have HE := Lib.hid he; clear he
      have hpw : ∀ j, k < j → win ys e j ≤ 281474976710655 := fun j hj => by
        have h1 := win_lt ys e j HY3.out
        have h2 : 65536 ^ (e - j) ≤ 65536 ^ 3 := Nat.pow_le_pow_right (by decide) (by omega)
        have h3 : (65536 : Nat) ^ 3 = 281474976710656 := by decide
        omega
      have HPW := Lib.hid hpw; clear hpw
      have hws : ∀ j y, j < e → ys[j]? = some y → win ys e j = y + 65536 * win ys e (j + 1) := fun j y h1 h2 => win_step ys e j y h1 (by rw [HY2.out]; exact hen) h2
      have HWS := Lib.hid hws; clear hws
      rcases (by omega : n ≤ k + 4 ∨ k + 4 < n) with hmin | hmin
      all_goals
        go_wp2_with fail
        go_loop [5, 6] (fun x t => ∃ j : Nat, k ≤ j ∧ j ≤ e ∧ t = .int .i64 ((j : Int) - 1) ∧ x = .int .u64 (win ys e j : Nat)) (fun _ t => (intOf t + 1).toNat)
        case atStart => exact ⟨e, by omega, Nat.le_refl _, by have := HE.out; congr 1; omega, by rw [HWE.out]; rfl⟩
        case round =>
          obtain ⟨j, hj1, hj2, rfl, rfl⟩ := hrel
          rcases (by omega : j = k ∨ k < j) with hjk | hjk
          · subst hjk
            have hexit : ¬ ((j : Int) ≤ (j : Int) - 1) := by omega
            go_wp2_with (first
              | (at_builtin; refine wpList_append_own _ rfl _ _ 102 rfl w.heap.size 130 i0 (.int .u64 0) 1 8 HI.out.2.2.2.2 HI.out.1 HI.out.2.1 HI.out.2.2.1 HI.out.2.2.2.1 rfl (by decide) _ _ _ rfl (hown.alloc _) ⟨wr.heap.size, 0, none⟩ 1 1 [.int .u64 (win ys e j : Nat)] rfl rfl ?_ ?_ ?_ ?_ ?_ ?_
                 · exact one_new _ _ _
                 · intro u hu; simp at hu; subst hu; rfl
                 · unfold maxLen; omega
                 · omega
                 · have := hbw.size; simp at this ⊢; omega
                 intro v' w3 hown' hgrow3 _
                 have hal := hown.alloc (.cells #[.int .u64 (win ys e j : Nat)] 130)
                 have hbw3 := Below.grown (hbw.alloc hbw.size (.cells #[.int .u64 (win ys e j : Nat)] 130)) hgrow3 (Nat.le_trans hbw.size (by simp)) (fun j hj => (hal.lt _ hj).1)
                 have X := Lib.hid (And.intro hown' hbw3)
                 clear hown' hbw3 hgrow3 hal))
            go_roundw
            case rel => exact ⟨j + 4, done ++ [win ys e j], by go_num, by omega, by rw [List.length_append, List.length_singleton]; omega, by rw [List.length_append, List.length_singleton, uCells_append]; exact X.out.1, X.out.2, HNX.out⟩
            case measure => simp [intOf] <;> omega
          · obtain ⟨j, rfl⟩ : ∃ i, j = i + 1 := ⟨j - 1, by omega⟩
            obtain ⟨y, hy⟩ : ∃ y, ys[j]? = some y := ⟨ys[j]'(by have := HY2.out; omega), List.getElem?_eq_getElem _⟩
            have cj := HCW.out j y hy
            have hyl := HY3.out y (List.mem_of_getElem? hy)
            have hwl := HPW.out (j + 1) hjk
            have hst := HWS.out j y (by omega) hy
            have HST := Lib.hid hst
            clear hy hst
            have jk : (k : Int) ≤ (j : Int) := by omega
            have jn : (j : Int) < (n : Int) := by omega
            generalize win ys e (j + 1) = x at *
            go_wp2_with fail
            go_round
            case rel => exact ⟨j, by omega, by omega, by first | rfl | (congr 1; omega), by rw [HST.out]; congr 1; omega⟩
            case measure => simp [intOf] <;> omega
    · have hnil : ys.drop k = [] := List.drop_eq_nil_of_le (by rw [HY2.out]; omega)
      have hfin := HS.out
      rw [hnil, packs_nil, List.append_nil] at hfin
      subst hfin
      clear hnil HS HY4
      go_wp2_with fail
      go_ret
      exact ⟨_, rfl, hown, hbw⟩
end

/-! The walks of the references' Digits, Trim, Small (naturals). -/
section
open Go.RowKit

theorem four_at (z t : Nat) (ht : t < 4) : (four 65536 z)[t]? = some (z / 65536 ^ t % 65536) := by
  have h2 : z / 65536 ^ 2 = z / 65536 / 65536 := by rw [Nat.div_div_eq_div_mul]
  have h3 : z / 65536 ^ 3 = z / 65536 / 65536 / 65536 := by rw [Nat.div_div_eq_div_mul, Nat.div_div_eq_div_mul]
  match t, ht with
  | 0, _ => simp [four]
  | 1, _ => simp [four]
  | 2, _ => rw [h2]; rfl
  | 3, _ => rw [h3]; rfl
theorem div_succ (z t : Nat) : z / 65536 ^ (t + 1) = z / 65536 ^ t / 65536 := by rw [Nat.pow_succ, Nat.div_div_eq_div_mul]
theorem four_take (z t : Nat) (ht : t < 4) : (four 65536 z).take (t + 1) = (four 65536 z).take t ++ [z / 65536 ^ t % 65536] := by
  rw [List.take_add_one, four_at z t ht]; rfl
theorem unp_take (zs : List Nat) (k z : Nat) (h : zs[k]? = some z) : unp 65536 (zs.take (k + 1)) = unp 65536 (zs.take k) ++ four 65536 z := by
  rw [List.take_add_one, h]
  exact unp_snoc 65536 _ z

set_option maxRecDepth 100000 in
set_option maxHeartbeats 2000000 in
theorem digits_any (zs : List Nat) (A : Option Addr) (c : Nat) (w : World) (hn : zs.length ≤ 100000) (hA : Nsl w A zs) (hlt : ∀ x ∈ zs, x < 65536 ^ 4) :
    Calls Tryz.prog 99 #[.slice A zs.length c] w fun e w' => ∃ B d, e = .returned (.slice B (dgs 65536 (dv (65536 ^ 4) zs)).length d) ∧ Nsl w' B (dgs 65536 (dv (65536 ^ 4) zs)) ∧ (dgs 65536 (dv (65536 ^ 4) zs)).length ≤ d ∧ (dgs 65536 (dv (65536 ^ 4) zs)).length ≤ 4 * zs.length ∧ Below w.heap.size w w' := by
  obtain ⟨i0, hi, hz0, hz1, hz2⟩ := info_parts (P := Tryz.prog) (e := 130) (z := .int .u64 0) (size := 1) (bytes := 8) (by kernel_rfl)
  have HU : Tryz.prog.underlying 101 = some (.slice 130) := by kernel_rfl
  have HI := Lib.hid (And.intro hi (And.intro hz0 (And.intro hz1 (And.intro hz2 HU))))
  clear hi hz0 hz1 hz2 HU
  have hp4 : (65536 : Nat) ^ 4 = 18446744073709551616 := by decide
  have hdv : dv 65536 (unp 65536 zs) = dv (65536 ^ 4) zs := unp_dv (by decide) zs hlt
  have hul : (unp 65536 zs).length = 4 * zs.length := unp_length _ _
  have hult : ∀ x ∈ unp 65536 zs, x < 65536 := unp_lt (by decide) zs
  rw [← hdv]
  have HLT : Hid (∀ x ∈ zs, x ≤ 18446744073709551615) := fun x hx => by have := hlt x hx; rw [hp4] at this; omega
  clear hlt hdv hp4
  have HUL := Lib.hid hul; clear hul
  have HULT := Lib.hid hult; clear hult
  have hz : unp 65536 (zs.take 0) = [] := rfl
  have HZ := Lib.hid hz; clear hz
  go_enter Tryz.func99, Tryz.ntmps99
  go_wp2_with fail
  go_loopw [3, 4] (fun v i wr => ∃ k : Nat, k ≤ zs.length ∧ i = .int .i64 k ∧ ∃ out : List Nat, Hid (out = unp 65536 (zs.take k)) ∧ out.length ≤ 4 * k ∧ wr.ownsRow w.heap.size 130 1 v out.length (uCells out) ∧ Below w.heap.size w wr) (fun _ i _ => zs.length - (intOf i).toNat)
  case atStart => exact ⟨0, Nat.zero_le _, rfl, [], HZ.out.symm, by simp, World.ownsRow_nil _ _ _ _, Below.refl _ _⟩
  case round =>
    obtain ⟨k, hk, rfl, out, HO, hol, hown, hbw⟩ := hrel
    by_cases hlt : k < zs.length
    · obtain ⟨z, hz⟩ : ∃ z, zs[k]? = some z := ⟨zs[k], List.getElem?_eq_getElem hlt⟩
      obtain ⟨g, o, rfl, hg, hcl⟩ := hA (by intro h; rw [h] at hlt; simp at hlt)
      have ck : wr.cell? ⟨g, o + k, none⟩ = some (.int .u64 (z : Nat)) := by rw [hbw.cell (p := ⟨g, o + k, none⟩) hg]; exact hcl k z hz
      have hzl := HLT.out z (List.mem_of_getElem? hz)
      have HUT := Lib.hid (unp_take zs k z hz)
      have H0 : Hid (out ++ (four 65536 z).take 0 = out ∧ z / 65536 ^ 0 = z) := ⟨by simp, by simp⟩
      clear hz hcl
      go_wp2_with fail
      obtain ⟨wo, rfl⟩ : ∃ wo : World, wo = wr := ⟨_, rfl⟩
      go_loopw [3, 5, 6] (fun v x t ws => ∃ q : Nat, q ≤ 4 ∧ t = .int .i64 q ∧ ∃ (y : Nat) (cur : List Nat), x = .int .u64 y ∧ y ≤ 18446744073709551615 ∧ Hid (y = z / 65536 ^ q) ∧ Hid (cur = out ++ (four 65536 z).take q) ∧ cur.length ≤ 4 * k + q ∧ ws.ownsRow w.heap.size 130 1 v cur.length (uCells cur) ∧ Below w.heap.size w ws) (fun _ _ t _ => 4 - (intOf t).toNat)
      case atStart => exact ⟨0, by omega, rfl, z, out, rfl, hzl, H0.out.2.symm, H0.out.1.symm, by omega, hown, hbw⟩
      case round =>
        obtain ⟨q, hq, rfl, y, cur, rfl, hyl, HY, HC, hcl, hown2, hbw2⟩ := hrel
        by_cases hq4 : q < 4
        · have hy1 : y / 65536 = z / 65536 ^ (q + 1) := by rw [HY.out, div_succ]
          have hcur : cur ++ [y % 65536] = out ++ (four 65536 z).take (q + 1) := by rw [HC.out, HY.out, four_take z q hq4, List.append_assoc]
          have HY1 := Lib.hid hy1
          have HCU := Lib.hid hcur
          clear hy1 hcur HY HC
          have hmod : Hid ((y : Int) % 65536 = ((y % 65536 : Nat) : Int)) := by show _ = _; omega
          have hdiv : Hid ((y : Int) / 65536 = ((y / 65536 : Nat) : Int)) := by show _ = _; omega
          have hmb : y % 65536 ≤ 65535 := by omega
          have hdb : y / 65536 ≤ 18446744073709551615 := by omega
          go_wp2_with (first
            | (at_builtin; refine wpList_append_own _ rfl _ _ 101 rfl w.heap.size 130 i0 (.int .u64 0) 1 8 HI.out.2.2.2.2 HI.out.1 HI.out.2.1 HI.out.2.2.1 HI.out.2.2.2.1 rfl (by decide) _ _ _ rfl (hown2.alloc _) ⟨wr.heap.size, 0, none⟩ 1 1 [.int .u64 ((y : Int) % 65536)] rfl rfl ?_ ?_ ?_ ?_ ?_ ?_
               · exact one_new _ _ _
               · intro u hu; simp at hu; subst hu; rfl
               · unfold maxLen; omega
               · omega
               · have := hbw2.size; simp at this ⊢; omega
               intro v' w3 hown' hgrow3 _
               have hal := hown2.alloc (.cells #[.int .u64 ((y : Int) % 65536)] 130)
               have hbw3 := Below.grown (hbw2.alloc hbw2.size (.cells #[.int .u64 ((y : Int) % 65536)] 130)) hgrow3 (Nat.le_trans hbw2.size (by simp)) (fun j hj => (hal.lt _ hj).1)
               rw [hmod.out] at hown'
               have X := Lib.hid (And.intro hown' hbw3)
               clear hown' hbw3 hgrow3 hal))
          go_roundw
          case rel => exact ⟨q + 1, by omega, by go_num, y / 65536, cur ++ [y % 65536], by rw [← hdiv.out], hdb, HY1, HCU, by rw [List.length_append, List.length_singleton]; omega, by rw [List.length_append, List.length_singleton, uCells_append]; exact X.out.1, X.out.2⟩
          case measure => simp [intOf] <;> omega
        · obtain rfl : q = 4 := by omega
          have hfin : cur = unp 65536 (zs.take (k + 1)) := by rw [HC.out, HUT.out, HO.out]; rfl
          have HF := Lib.hid hfin
          clear hfin HC HY
          go_wp2_with fail
          go_roundw
          case rel => exact ⟨k + 1, by omega, by go_num, cur, HF, by omega, hown2, hbw2⟩
          case measure => simp [intOf] <;> omega
    · obtain rfl : k = zs.length := by omega
      have ho := HO.out
      rw [List.take_length] at ho
      subst ho
      obtain ⟨B, d, rfl, hB, hd⟩ := own_nsl hown
      have CC := fun W h => cut_any (unp 65536 zs) B d W (by rw [HUL.out]; omega) hd h HULT.out
      have HC := Lib.hid CC; clear CC
      clear HO hown
      go_wp2_with fail
      refine (HC.out _ hB).mono ?_
      rintro e w1 ⟨n, rfl, hnl, HN, rfl⟩
      go_wp2_with fail
      go_ret
      have hln : n = (dgs 65536 (dv 65536 (unp 65536 zs))).length := by rw [← HN.out, List.length_take]; omega
      exact ⟨B, d, by rw [← hln]; rfl, by rw [← HN.out]; exact hB.take n, by rw [← hln]; omega, by rw [← hln]; have := HUL.out; omega, hbw⟩

theorem own_below' {w w1 w2 : World} {e : TypeId} {k : Nat} {v : Value} {n : Nat} {xs : List Value} (h : w2.ownsRow w1.heap.size e k v n xs) (hb : Below w.heap.size w w1) : w2.ownsRow w.heap.size e k v n xs := by
  refine ⟨h.1, ?_⟩
  rcases h.2 with h0 | ⟨g, cap, cur, h1, h2, h3⟩
  · exact .inl h0
  · exact .inr ⟨g, cap, cur, h1, Nat.le_trans hb.size h2, h3⟩
theorem trim_any' (zs : List Nat) (A : Option Addr) (n c : Nat) (w : World) (hl : zs.length = n) (hn : zs.length ≤ 100000) (hA : Nsl w A zs) (hlt : ∀ x ∈ zs, x < 65536 ^ 4) :
    Calls Tryz.prog 101 #[.slice A n c] w fun e w' => ∃ v, e = .returned v ∧ w'.ownsRow w.heap.size 130 1 v (dgs (65536 ^ 4) (dv (65536 ^ 4) zs)).length (uCells (dgs (65536 ^ 4) (dv (65536 ^ 4) zs))) ∧ Below w.heap.size w w' := by
  subst hl
  have DD := fun W h => digits_any zs A c W hn h hlt
  have HD := Lib.hid DD; clear DD
  have hl4 : ∀ x ∈ dgs 65536 (dv (65536 ^ 4) zs), x < 65536 := dgs_lt (by decide) _
  have hv : dv 65536 (dgs 65536 (dv (65536 ^ 4) zs)) = dv (65536 ^ 4) zs := dv_dgs (by decide) _
  generalize dv (65536 ^ 4) zs = v at *
  have JJ := fun B d W (h1 : (dgs 65536 v).length ≤ 1048576) h2 h3 => njoin_any (dgs 65536 v) B d W h1 h2 h3 hl4
  rw [hv] at JJ
  have HJ := Lib.hid JJ
  clear JJ hv hl4 hlt
  go_enter Tryz.func101, Tryz.ntmps101
  go_wp2_with fail
  refine (HD.out _ hA).mono ?_
  rintro e w1 ⟨B, d, rfl, hB, hd, h4, hb1⟩
  go_wp2_with fail
  refine (HJ.out B d _ (by omega) hd hB).mono ?_
  rintro e w2 ⟨v2, rfl, hown, hb2⟩
  have hx := own_below' hown hb1
  go_wp2_with fail
  go_ret
  exact ⟨_, rfl, hx, hb1.trans (hb2.mono hb1.size)⟩
/-- What Small tells. -/
def smallN (v : Nat) : Nat × Bool := if v < 65536 ^ 4 then (v, true) else (0, false)
theorem dgs_one (v : Nat) : (dgs (65536 ^ 4) v).length ≤ 1 ↔ v < 65536 ^ 4 := by
  have h2 : 2 ≤ (65536 : Nat) ^ 4 := by decide
  rcases Nat.eq_zero_or_pos v with h | h
  · subst h; rw [dgs_zero]; exact ⟨fun _ => by decide, fun _ => by simp⟩
  · rw [dgs_pos h2 h, List.length_cons]
    constructor
    · intro h1
      have h0 : dgs (65536 ^ 4) (v / 65536 ^ 4) = [] := List.length_eq_zero_iff.1 (by omega)
      have := (dgs_nil h2 _).1 h0
      exact (Nat.div_eq_zero_iff_lt (by decide)).1 this
    · intro h1
      rw [Nat.div_eq_of_lt h1, dgs_zero]
      simp
theorem dgs_single (v : Nat) (h : v < 65536 ^ 4) (h0 : 0 < v) : dgs (65536 ^ 4) v = [v] := by
  rw [dgs_pos (by decide) h0, Nat.mod_eq_of_lt h, Nat.div_eq_of_lt h, dgs_zero]
set_option maxRecDepth 100000 in
set_option maxHeartbeats 1000000 in
theorem nsmall_any (zs : List Nat) (A : Option Addr) (n c : Nat) (w : World) (hl : zs.length = n) (hn : zs.length ≤ 100000) (hA : Nsl w A zs) (hlt : ∀ x ∈ zs, x < 65536 ^ 4) :
    Calls Tryz.prog 104 #[.slice A n c] w fun e w' => e = .returned (.tuple #[.int .u64 ((smallN (dv (65536 ^ 4) zs)).1 : Nat), .bool (smallN (dv (65536 ^ 4) zs)).2]) ∧ Below w.heap.size w w' := by
  have TT := fun W h => trim_any' zs A n c W hl hn h hlt
  have HT := Lib.hid TT
  clear TT hl hn hlt
  generalize dv (65536 ^ 4) zs = v at *
  have h1 := dgs_one v
  by_cases hv : v < 65536 ^ 4
  · have hs : smallN v = (v, true) := by unfold smallN; rw [if_pos hv]
    rw [hs]
    have hlen := h1.2 hv
    rcases Nat.eq_zero_or_pos v with hz | hz
    · subst hz
      have hd := dgs_zero (65536 ^ 4)
      rw [hd] at HT
      clear h1 hlen hd hs hv
      go_enter Tryz.func104, Tryz.ntmps104
      go_wp2_with fail
      refine (HT.out _ hA).mono ?_
      rintro e w1 ⟨v1, rfl, hown, hb⟩
      obtain ⟨B, d, rfl, hB, _⟩ := own_nsl hown
      clear hown
      go_wp2_with fail
      go_ret2
      exact ⟨rfl, hb⟩
    · have hd := dgs_single v hv hz
      rw [hd] at HT
      clear h1 hlen hd hs hv
      go_enter Tryz.func104, Tryz.ntmps104
      go_wp2_with fail
      refine (HT.out _ hA).mono ?_
      rintro e w1 ⟨v1, rfl, hown, hb⟩
      obtain ⟨B, d, rfl, hB, _⟩ := own_nsl hown
      obtain ⟨g, o, rfl, hg, hc⟩ := hB (by simp)
      have c0 := hc 0 v rfl
      rw [Nat.add_zero] at c0
      clear hown hc
      go_wp2_with fail
      go_ret2
      exact ⟨rfl, hb⟩
  · have hs : smallN v = (0, false) := by unfold smallN; rw [if_neg hv]
    rw [hs]
    have hlen : 1 < (dgs (65536 ^ 4) v).length := by
      rcases Nat.lt_or_ge 1 (dgs (65536 ^ 4) v).length with h | h
      · exact h
      · exact absurd (h1.1 h) hv
    clear h1 hs hv
    generalize dgs (65536 ^ 4) v = out at *
    go_enter Tryz.func104, Tryz.ntmps104
    go_wp2_with fail
    refine (HT.out _ hA).mono ?_
    rintro e w1 ⟨v1, rfl, hown, hb⟩
    obtain ⟨B, d, rfl, hB, _⟩ := own_nsl hown
    clear hown
    go_wp2_with fail
    go_ret2
    exact ⟨rfl, hb⟩
end

/-! The walk of the reference's Read (a natural's decimal numeral). -/
section
open Go.RowKit

/-- The error, and the number. -/
def read4 (l : List UInt8) : Nat × Nat :=
  if l = [] then (4, 0) else if l.all digB = false then (3, 0) else if l.head? = some 48 ∧ 1 < l.length then (3, 0) else (0, decVal 0 l)
/-- What it returns. -/
def Read4 (w : World) (x : Nat × Nat) (e : Ending) (w' : World) : Prop :=
  ∃ A c, e = .returned (.tuple #[.slice A (dgs (65536 ^ 4) x.2).length c, .int .i64 x.1]) ∧ Nsl w' A (dgs (65536 ^ 4) x.2) ∧ Below w.heap.size w w'
theorem Read4.err (w : World) (n : Nat) : Read4 w (n, 0) (.returned (.tuple #[.slice none 0 0, .int .i64 n])) w :=
  ⟨none, 0, by rw [show dgs (65536 ^ 4) (n, 0).2 = [] from dgs_zero _]; rfl, by rw [show dgs (65536 ^ 4) (n, 0).2 = [] from dgs_zero _]; exact Nsl.nil _ _, Below.refl _ _⟩
theorem set_mid (pre rest : List Nat) (x z : Nat) : (uCells (pre ++ x :: rest)).set pre.length (.int .u64 (z : Nat)) = uCells ((pre ++ [z]) ++ rest) := by
  rw [uCells_append, List.set_append_right _ _ (by rw [uCells_length]; exact Nat.le_refl _), uCells_length, Nat.sub_self, List.append_assoc, uCells_append]
  rfl
theorem dig_byte (b : UInt8) (h : digB b = true) : 48 ≤ (b.toNat : Int) ∧ (b.toNat : Int) ≤ 57 := by
  have := (dig_iff b).1 h
  omega
theorem data_get (s : ByteArray) (k : Nat) (h : k < s.size) : s.data.toList[k]? = some s[k] := by
  rw [List.getElem?_eq_getElem (by simpa using h)]; rfl

set_option maxRecDepth 100000 in
set_option maxHeartbeats 2000000 in
theorem read4_bad (s : ByteArray) (w : World) (hs : s.size ≤ 20000) (h : (read4 s.data.toList).1 ≠ 0) :
    Calls Tryz.prog 103 #[.string s] w (Read4 w (read4 s.data.toList)) := by
  have hl : s.data.toList.length = s.size := by simp
  obtain ⟨P, hP⟩ : ∃ P, P = Read4 w (read4 s.data.toList) := ⟨_, rfl⟩
  rw [← hP]
  by_cases h0 : s.data.toList = []
  · have hr : read4 s.data.toList = (4, 0) := by rw [read4, if_pos h0]
    have hz : s.size = 0 := by rw [← hl, h0]; rfl
    have HE := Lib.hid (hP.trans (congrArg (Read4 w) hr))
    clear hP hr h h0 hl
    have hz1 : ((s.size : Int) == 0) = true := beq_iff_eq.2 (by omega)
    clear hz
    go_enter Tryz.func103, Tryz.ntmps103
    go_wp2_with fail
    rw [HE.out]
    exact Read4.err w 4
  · have hpos : 0 < s.size := by
      rcases Nat.eq_zero_or_pos s.size with hz | hz
      · exact absurd (List.length_eq_zero_iff.1 (by rw [hl]; exact hz)) h0
      · exact hz
    have hz1 : ((s.size : Int) == 0) = false := beq_eq_false_iff_ne.2 (by omega)
    by_cases hall : s.data.toList.all digB = false
    · have hr : read4 s.data.toList = (3, 0) := by rw [read4, if_neg h0, if_pos hall]
      have HE := Lib.hid (hP.trans (congrArg (Read4 w) hr))
      have HALL := Lib.hid hall
      clear hP hr h h0 hl hall
      go_enter Tryz.func103, Tryz.ntmps103
      go_wp2_with fail
      go_loop [4] (fun i => ∃ k : Nat, k ≤ s.size ∧ i = .int .i64 k ∧ Hid ((s.data.toList.take k).all digB = true)) (fun i => s.size - (intOf i).toNat)
      case atStart => exact ⟨0, Nat.zero_le _, rfl, rfl⟩
      case round =>
        obtain ⟨k, hk, rfl, HA⟩ := hrel
        by_cases hlt : k < s.size
        · by_cases hd : digB s[k] = true
          · obtain ⟨d1, d2⟩ := dig_byte _ hd
            go_wp2_with fail
            go_round
            case rel => exact ⟨k + 1, by omega, by go_num, all_take_succ digB s k hlt HA.out hd⟩
            case measure => simp [intOf] <;> omega
          · have hd2 : digB s[k] = false := by simpa using hd
            have hd3 : (s[k].toNat : Int) < 48 ∨ 57 < (s[k].toNat : Int) := by
              have h9 : ¬ (48 ≤ s[k].toNat ∧ s[k].toNat ≤ 57) := fun e => hd ((dig_iff _).2 e)
              omega
            rcases hd3 with hd3 | hd3
            all_goals
              go_wp2_with fail
              rw [HE.out]
              exact Read4.err w 3
        · exfalso
          obtain rfl : k = s.size := by omega
          have := all_done digB s HA.out
          rw [HALL.out] at this
          cases this
    · have hall2 : s.data.toList.all digB = true := by simpa using hall
      have hlz : s.data.toList.head? = some 48 ∧ 1 < s.data.toList.length := by
        rcases Classical.em (s.data.toList.head? = some 48 ∧ 1 < s.data.toList.length) with h1 | h1
        · exact h1
        · exfalso
          apply h
          rw [read4, if_neg h0, if_neg hall, if_neg h1]
      have hr : read4 s.data.toList = (3, 0) := by rw [read4, if_neg h0, if_neg hall, if_pos hlz]
      have HE := Lib.hid (hP.trans (congrArg (Read4 w) hr))
      have hD : ∀ k, (hk : k < s.size) → digB s[k] = true := fun k hk => List.all_eq_true.1 hall2 _ (List.mem_of_getElem? (data_get s k hk))
      have HD := Lib.hid hD
      have h48 : ((s[0].toNat : Int) == 48) = true := by
        have h1 := hlz.1
        rw [List.head?_eq_getElem?, data_get s 0 hpos] at h1
        rw [Option.some.inj h1]
        rfl
      have hl1 : (1 : Int) < (s.size : Int) := by have := hlz.2; omega
      clear hP hr h h0 hl hall hall2 hD hlz
      go_enter Tryz.func103, Tryz.ntmps103
      go_wp2_with fail
      go_loop [4] (fun i => ∃ k : Nat, k ≤ s.size ∧ i = .int .i64 k) (fun i => s.size - (intOf i).toNat)
      case atStart => exact ⟨0, Nat.zero_le _, rfl⟩
      case round =>
        obtain ⟨k, hk, rfl⟩ := hrel
        by_cases hlt : k < s.size
        · obtain ⟨d1, d2⟩ := dig_byte _ (HD.out k hlt)
          go_wp2_with fail
          go_round
          case rel => exact ⟨k + 1, by omega, by go_num⟩
          case measure => simp [intOf] <;> omega
        · obtain rfl : k = s.size := by omega
          go_wp2_with fail
          rw [HE.out]
          exact Read4.err w 3
end

/-! The walk of the reference's Read, where the numeral is right. -/
section
open Go.RowKit

theorem tenGo_nil (c : Nat) : tenGo 65536 c [] = if 0 < c then [c] else [] := rfl
theorem tenGo_cons (c x : Nat) (r : List Nat) : tenGo 65536 c (x :: r) = ((x * 10 + c) % 65536) :: tenGo 65536 ((x * 10 + c) / 65536) r := rfl
theorem u_at (pre rest : List Nat) (x : Nat) : (uCells (pre ++ x :: rest))[pre.length]? = some (.int .u64 (x : Nat)) := by
  rw [uCells_append, List.getElem?_append_right (by rw [uCells_length]; exact Nat.le_refl _), uCells_length, Nat.sub_self]
  rfl

set_option maxRecDepth 100000 in
set_option maxHeartbeats 3000000 in
theorem read4_good (s : ByteArray) (w : World) (hs : s.size ≤ 20000) (h : (read4 s.data.toList).1 = 0) :
    Calls Tryz.prog 103 #[.string s] w (Read4 w (read4 s.data.toList)) := by
  have hl : s.data.toList.length = s.size := by simp
  obtain ⟨P, hP⟩ : ∃ P, P = Read4 w (read4 s.data.toList) := ⟨_, rfl⟩
  rw [← hP]
  have h0 : ¬ s.data.toList = [] := fun e => by rw [read4, if_pos e] at h; exact absurd h (by decide)
  have hall : ¬ s.data.toList.all digB = false := fun e => by rw [read4, if_neg h0, if_pos e] at h; exact absurd h (by decide)
  have hlz : ¬ (s.data.toList.head? = some 48 ∧ 1 < s.data.toList.length) := fun e => by rw [read4, if_neg h0, if_neg hall, if_pos e] at h; exact absurd h (by decide)
  have hr : read4 s.data.toList = (0, decVal 0 s.data.toList) := by rw [read4, if_neg h0, if_neg hall, if_neg hlz]
  have HE := Lib.hid (hP.trans (congrArg (Read4 w) hr))
  have hall2 : s.data.toList.all digB = true := by simpa using hall
  have hD : ∀ k, (hk : k < s.size) → digB s[k] = true := fun k hk => List.all_eq_true.1 hall2 _ (List.mem_of_getElem? (data_get s k hk))
  have HD := Lib.hid hD
  have hpos : 0 < s.size := by
    rcases Nat.eq_zero_or_pos s.size with hz | hz
    · exact absurd (List.length_eq_zero_iff.1 (by rw [hl]; exact hz)) h0
    · exact hz
  have hz1 : ((s.size : Int) == 0) = false := beq_eq_false_iff_ne.2 (by omega)
  have hlead : ((s[0].toNat : Int) == 48) = false ∨ (((s[0].toNat : Int) == 48) = true ∧ ¬ (1 : Int) < (s.size : Int)) := by
    by_cases hb : s[0] = 48
    · refine .inr ⟨by rw [hb]; rfl, fun h1 => hlz ⟨?_, by omega⟩⟩
      rw [List.head?_eq_getElem?, data_get s 0 hpos, hb]
    · exact .inl (beq_eq_false_iff_ne.2 fun e => hb (UInt8.toNat_inj.1 (by simpa using (by omega : s[0].toNat = 48))))
  have hstep : ∀ k, (hk : k < s.size) → ∃ c : Nat, c ≤ 9 ∧ (s[k].toNat : Int) - 48 = (c : Int) ∧ decVal 0 (s.data.toList.take (k + 1)) = decVal 0 (s.data.toList.take k) * 10 + c := by
    intro k hk
    have hd := (dig_iff _).1 (hD k hk)
    refine ⟨s[k].toNat - 48, by omega, by omega, ?_⟩
    rw [data_take_succ s k hk, decVal_snoc]
  have HST := Lib.hid hstep
  have HFIN : Hid (s.data.toList.take s.size = s.data.toList) := List.take_of_length_le (by rw [hl]; exact Nat.le_refl _)
  have HBEG : Hid (dv 65536 [] = decVal 0 (s.data.toList.take 0)) := rfl
  clear hP hr h h0 hl hall hall2 hD hlz hstep
  obtain ⟨i0, hi, hz0, hz2, hz3⟩ := info_parts (P := Tryz.prog) (e := 130) (z := .int .u64 0) (size := 1) (bytes := 8) (by kernel_rfl)
  have HU : Tryz.prog.underlying 101 = some (.slice 130) := by kernel_rfl
  have HI := Lib.hid (And.intro hi (And.intro hz0 (And.intro hz2 (And.intro hz3 HU))))
  clear hi hz0 hz2 hz3 HU
  go_enter Tryz.func103, Tryz.ntmps103
  go_wp2_with fail
  go_loop [4] (fun i => ∃ k : Nat, k ≤ s.size ∧ i = .int .i64 k) (fun i => s.size - (intOf i).toNat)
  case atStart => exact ⟨0, Nat.zero_le _, rfl⟩
  case round =>
    obtain ⟨k, hk, rfl⟩ := hrel
    by_cases hlt : k < s.size
    · obtain ⟨d1, d2⟩ := dig_byte _ (HD.out k hlt)
      go_wp2_with fail
      go_round
      case rel => exact ⟨k + 1, by omega, by go_num⟩
      case measure => simp [intOf] <;> omega
    · obtain rfl : k = s.size := by omega
      rcases hlead with hl1 | ⟨hl1, hl2⟩
      all_goals
        go_wp2_with fail
        go_loopw [5, 6] (fun v i wr => ∃ (k : Nat) (ds : List Nat), i = .int .i64 k ∧ k ≤ s.size ∧ ds.length ≤ k ∧ wr.ownsRow w.heap.size 130 1 v ds.length (uCells ds) ∧ Below w.heap.size w wr ∧ Hid (∀ x ∈ ds, x < 65536) ∧ Hid (dv 65536 ds = decVal 0 (s.data.toList.take k))) (fun _ i _ => s.size - (intOf i).toNat)
        case atStart => exact ⟨0, [], rfl, Nat.zero_le _, Nat.le_refl _, World.ownsRow_nil _ _ _ _, Below.refl _ _, (fun x hx => by simp at hx), HBEG.out⟩
        case round =>
          obtain ⟨k, ds, rfl, hk, hdl, hown, hbw, HLT, HV⟩ := hrel
          by_cases hlt : k < s.size
          · obtain ⟨c0, hc0, hc1, hc2⟩ := HST.out k hlt
            obtain ⟨d1, d2⟩ := dig_byte _ (HD.out k hlt)
            have hnew : dv 65536 (tenGo 65536 c0 ds) = decVal 0 (s.data.toList.take (k + 1)) := by rw [tenGo_dv (by decide), HV.out, hc2]
            have hnlt : ∀ x ∈ tenGo 65536 c0 ds, x < 65536 := tenGo_lt (by decide) ds c0 (by omega) HLT.out
            have HNEW := Lib.hid hnew
            have HNLT := Lib.hid hnlt
            clear hc2 hnew hnlt HV
            rcases (by cases ds <;> simp : ds = [] ∨ ds ≠ []) with hds | hds
            · subst hds
              obtain ⟨A, c, rfl, _, _⟩ := own_nsl hown
              go_wp2_with fail
              go_loopw [7, 8] (fun x t ws => x = .int .u64 (c0 : Nat) ∧ t = .int .i64 0 ∧ ws = wr) (fun _ _ _ => 0)
              case atStart => exact ⟨rfl, rfl, rfl⟩
              case round =>
                obtain ⟨rfl, rfl, rfl⟩ := hrel
                rcases Nat.eq_zero_or_pos c0 with hz | hz
                · subst hz
                  go_wp2_with fail
                  go_roundw
                  case rel => exact ⟨k + 1, [], by go_num, by omega, by simp, hown, hbw, HNLT.out, HNEW.out⟩
                  case measure => simp [intOf] <;> omega
                · have hz' : (0 : Int) < (c0 : Int) := by omega
                  have HT : Hid (tenGo 65536 c0 [] = [] ++ [c0]) := by show _ = _; rw [tenGo_nil, if_pos hz]; rfl
                  go_wp2_with (first
                    | (at_builtin; refine wpList_append_own _ rfl _ _ 101 rfl w.heap.size 130 i0 (.int .u64 0) 1 8 HI.out.2.2.2.2 HI.out.1 HI.out.2.1 HI.out.2.2.1 HI.out.2.2.2.1 rfl (by decide) _ _ _ rfl (hown.alloc _) ⟨wr.heap.size, 0, none⟩ 1 1 [.int .u64 (c0 : Nat)] rfl rfl ?_ ?_ ?_ ?_ ?_ ?_
                       · exact one_new _ _ _
                       · intro u hu; simp at hu; subst hu; rfl
                       · unfold maxLen; omega
                       · omega
                       · have := hbw.size; simp at this ⊢; omega
                       intro v' w3 hown' hgrow3 _
                       have hal := hown.alloc (.cells #[.int .u64 (c0 : Nat)] 130)
                       have hbw3 := Below.grown (hbw.alloc hbw.size (.cells #[.int .u64 (c0 : Nat)] 130)) hgrow3 (Nat.le_trans hbw.size (by simp)) (fun j hj => (hal.lt _ hj).1)
                       have X := Lib.hid (And.intro hown' hbw3)
                       clear hown' hbw3 hgrow3 hal))
                  go_roundw
                  case rel => exact ⟨k + 1, [] ++ [c0], by go_num, by omega, by simp, by rw [uCells_append]; exact X.out.1, X.out.2, by rw [← HT.out]; exact HNLT.out, by rw [← HT.out]; exact HNEW.out⟩
                  case measure => simp [intOf] <;> omega
            · have hdp : 0 < ds.length := by
                rcases Nat.eq_zero_or_pos ds.length with h1 | h1
                · exact absurd (List.length_eq_zero_iff.1 h1) hds
                · exact h1
              try (exfalso; omega)
              all_goals
                obtain ⟨g, cap, rfl, hg⟩ := hown.form hdp
                have hgB : w.heap.size ≤ g := by omega
                have H0 : Hid (tenGo 65536 c0 ds = [] ++ tenGo 65536 c0 (ds.drop 0) ∧ uCells ([] ++ ds.drop 0) = uCells ds) := ⟨by simp, by simp⟩
                obtain ⟨wo, rfl⟩ : ∃ wo : World, wo = wr := ⟨_, rfl⟩
                go_wp2_with fail
                go_loopw [7, 8] (fun x t ws => ∃ (j cc : Nat) (pre : List Nat), t = .int .i64 j ∧ j ≤ ds.length ∧ x = .int .u64 (cc : Nat) ∧ cc ≤ 65535 ∧ pre.length = j ∧ ws.ownsRow w.heap.size 130 1 (.slice (some ⟨g, 0, none⟩) ds.length cap) ds.length (uCells (pre ++ ds.drop j)) ∧ Below w.heap.size w ws ∧ Hid (tenGo 65536 c0 ds = pre ++ tenGo 65536 cc (ds.drop j))) (fun _ t _ => ds.length - (intOf t).toNat)
                case atStart => exact ⟨0, c0, [], rfl, Nat.zero_le _, rfl, by omega, rfl, by rw [H0.out.2]; exact hown, hbw, H0.out.1⟩
                case round =>
                  obtain ⟨j, cc, pre, rfl, hj, rfl, hcc, hpre, hown2, hbw2, HT⟩ := hrel
                  have HPRE := Lib.hid hpre; clear hpre
                  by_cases hjl : j < ds.length
                  · obtain ⟨x, hx⟩ : ∃ x, ds[j]? = some x := ⟨ds[j], List.getElem?_eq_getElem hjl⟩
                    have hdrop : ds.drop j = x :: ds.drop (j + 1) := by
                      rw [List.drop_eq_getElem_cons hjl]
                      rw [List.getElem?_eq_getElem hjl] at hx
                      rw [Option.some.inj hx]
                    have hx6 := HLT.out x (List.mem_of_getElem? hx)
                    rw [hdrop] at hown2
                    have hat := u_at pre (ds.drop (j + 1)) x
                    rw [HPRE.out] at hat
                    have c1 := (hown2.cellAt j (by omega)).trans hat
                    have f1 := hown2.frozenAt j
                    have hst := (hown2.stored j (.int .u64 (((x * 10 + cc) % 65536 : Nat) : Int))).1
                    have hset := set_mid pre (ds.drop (j + 1)) x ((x * 10 + cc) % 65536)
                    rw [HPRE.out] at hset
                    rw [hset] at hst
                    have hnext : tenGo 65536 c0 ds = (pre ++ [(x * 10 + cc) % 65536]) ++ tenGo 65536 ((x * 10 + cc) / 65536) (ds.drop (j + 1)) := by
                      rw [HT.out, hdrop, tenGo_cons, List.append_assoc]; rfl
                    have hmod : ((x : Int) * 10 + (cc : Int)) % 65536 = (((x * 10 + cc) % 65536 : Nat) : Int) := by omega
                    have hdiv : ((x : Int) * 10 + (cc : Int)) / 65536 = (((x * 10 + cc) / 65536 : Nat) : Int) := by omega
                    have hcb : (x * 10 + cc) / 65536 ≤ 65535 := by omega
                    rw [← hmod] at hst
                    have HMOD := Lib.hid hmod
                    have HDIV := Lib.hid hdiv
                    have HSTT := Lib.hid hst
                    have HNXT := Lib.hid hnext
                    have HBW2 := Lib.hid hbw2
                    have HCB := Lib.hid hcb
                    clear hmod hdiv hst hnext hset hat hown2 hdrop hx hbw2 hcb HT
                    have j0 : (0 : Int) ≤ (j : Int) := by omega
                    have j1 : (j : Int) < (ds.length : Int) := by omega
                    go_wp2_with fail
                    go_roundw
                    case rel => exact ⟨j + 1, (x * 10 + cc) / 65536, pre ++ [(x * 10 + cc) % 65536], by go_num, by omega, by rw [← HDIV.out], HCB.out, by rw [List.length_append, List.length_singleton, HPRE.out], HSTT.out, HBW2.out.setCell (p := ⟨g, _, none⟩) hgB _, HNXT.out⟩
                    case measure => simp [intOf] <;> omega
                  · obtain rfl : j = ds.length := by omega
                    have hfin := HT.out
                    rw [List.drop_length, tenGo_nil] at hfin
                    rw [List.drop_length, List.append_nil] at hown2
                    rcases Nat.eq_zero_or_pos cc with hz | hz
                    · subst hz
                      rw [if_neg (Nat.lt_irrefl 0), List.append_nil] at hfin
                      have HF := Lib.hid hfin
                      clear hfin HT
                      go_wp2_with fail
                      go_roundw
                      case rel => exact ⟨k + 1, pre, by go_num, by omega, by rw [HPRE.out]; omega, by rw [HPRE.out]; exact hown2, hbw2, by rw [← HF.out]; exact HNLT.out, by rw [← HF.out]; exact HNEW.out⟩
                      case measure => simp [intOf] <;> omega
                    · have hz' : (0 : Int) < (cc : Int) := by omega
                      rw [if_pos hz] at hfin
                      have HF := Lib.hid hfin
                      clear hfin HT
                      go_wp2_with (first
                        | (at_builtin; refine wpList_append_own _ rfl _ _ 101 rfl w.heap.size 130 i0 (.int .u64 0) 1 8 HI.out.2.2.2.2 HI.out.1 HI.out.2.1 HI.out.2.2.1 HI.out.2.2.2.1 rfl (by decide) _ _ _ rfl (hown2.alloc _) ⟨wr.heap.size, 0, none⟩ 1 1 [.int .u64 (cc : Nat)] rfl rfl ?_ ?_ ?_ ?_ ?_ ?_
                           · exact one_new _ _ _
                           · intro u hu; simp at hu; subst hu; rfl
                           · unfold maxLen; omega
                           · omega
                           · have := hbw2.size; simp at this ⊢; omega
                           intro v' w3 hown' hgrow3 _
                           have hal := hown2.alloc (.cells #[.int .u64 (cc : Nat)] 130)
                           have hbw3 := Below.grown (hbw2.alloc hbw2.size (.cells #[.int .u64 (cc : Nat)] 130)) hgrow3 (Nat.le_trans hbw2.size (by simp)) (fun j hj => (hal.lt _ hj).1)
                           have X := Lib.hid (And.intro hown' hbw3)
                           clear hown' hbw3 hgrow3 hal))
                      go_roundw
                      case rel => exact ⟨k + 1, pre ++ [cc], by go_num, by omega, by rw [List.length_append, List.length_singleton, HPRE.out]; omega, by rw [List.length_append, List.length_singleton, HPRE.out, uCells_append]; exact X.out.1, X.out.2, by rw [← HF.out]; exact HNLT.out, by rw [← HF.out]; exact HNEW.out⟩
                      case measure => simp [intOf] <;> omega
          · obtain rfl : k = s.size := by omega
            obtain ⟨A, c, rfl, hA, hcap⟩ := own_nsl hown
            have hv := HV.out
            rw [HFIN.out] at hv
            have JJ := fun W h => njoin_any ds A c W (by omega) hcap h HLT.out
            rw [hv] at JJ
            have HJ := Lib.hid JJ
            clear JJ hv HV hown
            go_wp2_with fail
            refine (HJ.out _ hA).mono ?_
            rintro e w2 ⟨v2, rfl, hown2, hb2⟩
            obtain ⟨B, d, rfl, hB, _⟩ := own_nsl hown2
            clear hown2
            have hx := hbw.trans (hb2.mono hbw.size)
            go_wp2_with fail
            rw [HE.out]
            exact ⟨B, d, rfl, hB, hx⟩
end

/-! The walks of the reference's whole numbers: Make, Read, Small. -/
section
open Go.RowKit

/-- A whole number's value holds a sign and a natural. -/
def IntVal (b : Nat) (w : World) (neg : Bool) (v : Nat) (x : Value) : Prop := ∃ B d, x = .agg #[.bool neg, .slice B (dgs (65536 ^ 4) v).length d] ∧ Nsl w B (dgs (65536 ^ 4) v) ∧ ∀ a, B = some a → b ≤ a.block
theorem IntVal.below {b : Nat} {w w' : World} {neg : Bool} {v : Nat} {x : Value} (h : IntVal b w neg v x) (hb : Below w.heap.size w w') : IntVal b w' neg v x := by
  obtain ⟨B, d, e, hB, hg⟩ := h
  exact ⟨B, d, e, hB.below hb, hg⟩
theorem IntVal.zero (b : Nat) (w : World) : IntVal b w false 0 (.agg #[.bool false, .slice none 0 0]) :=
  ⟨none, 0, by rw [dgs_zero]; rfl, by rw [dgs_zero]; exact Nsl.nil _ _, fun _ h => by cases h⟩

theorem own_nsl_ge {w : World} {B : Nat} {T : TypeId} {v : Value} {xs : List Nat} (h : w.ownsRow B T 1 v xs.length (uCells xs)) :
    ∃ A c, v = .slice A xs.length c ∧ Nsl w A xs ∧ xs.length ≤ c ∧ ∀ a, A = some a → B ≤ a.block := by
  obtain ⟨A, c, rfl, hA, hc⟩ := own_nsl h
  exact ⟨A, c, rfl, hA, hc, fun a ha => (h.lt a.block (by subst ha; rfl)).1⟩
theorem Nsl.set_ {w : World} {A : Option Addr} {xs : List Nat} (h : Nsl w A xs) {p : Addr} (hp : ∀ a, A = some a → a.block ≠ p.block) (u : Value) : Nsl (w.setCell p u) A xs := fun hn => by
  obtain ⟨g, o, e, hg, hc⟩ := h hn
  refine ⟨g, o, e, by simpa [World.setCell] using hg, fun k x hx => ?_⟩
  rw [World.cell?_setCell_other w p ⟨g, o + k, none⟩ u (by intro e2; exact hp _ e (by first | exact congrArg Addr.block e2 | exact (congrArg Addr.block e2).symm))]
  exact hc k x hx

set_option maxRecDepth 100000 in
set_option maxHeartbeats 1000000 in
theorem make_any (neg : Bool) (zs : List Nat) (A : Option Addr) (n c : Nat) (w : World) (hl : zs.length = n) (hn : zs.length ≤ 100000) (hA : Nsl w A zs) (hlt : ∀ x ∈ zs, x < 65536 ^ 4) :
    Calls Tryz.prog 73 #[.bool neg, .slice A n c] w fun e w' => ∃ x, e = .returned x ∧ IntVal w.heap.size w' (neg && decide (0 < dv (65536 ^ 4) zs)) (dv (65536 ^ 4) zs) x ∧ Below w.heap.size w w' := by
  have TT := fun W h => trim_any' zs A n c W hl hn h hlt
  have HT := Lib.hid TT
  clear TT hl hn hlt
  generalize dv (65536 ^ 4) zs = v at *
  have hlen : (dgs (65536 ^ 4) v).length = 0 ↔ v = 0 := by rw [List.length_eq_zero_iff]; exact dgs_nil (by decide) v
  have HIV : Hid (∀ (W : World) b B d, Nsl W B (dgs (65536 ^ 4) v) → b = (neg && decide (0 < v)) → (∀ a, B = some a → w.heap.size ≤ a.block) → IntVal w.heap.size W (neg && decide (0 < v)) v (.agg #[.bool b, .slice B (dgs (65536 ^ 4) v).length d])) := fun W b B d hB hb hg => ⟨B, d, by rw [hb], hB, hg⟩
  by_cases hv : 0 < v
  · have hp : 0 < (dgs (65536 ^ 4) v).length := by
      rcases Nat.eq_zero_or_pos (dgs (65536 ^ 4) v).length with h | h
      · have := hlen.1 h; omega
      · exact h
    have hdec : decide (0 < v) = true := decide_eq_true hv
    rw [hdec] at HIV ⊢
    clear hlen hdec hv
    generalize dgs (65536 ^ 4) v = out at *
    cases neg
    · go_enter Tryz.func73, Tryz.ntmps73
      go_wp2_with fail
      refine (HT.out _ (hA.below ((Below.refl _ _).alloc (Nat.le_refl _) _))).mono ?_
      rintro e w1 ⟨v1, rfl, hown, hb⟩
      obtain ⟨B, d, rfl, hB, _, hge⟩ := own_nsl_ge hown
      clear hown
      have hz : w.heap.size + 1 ≤ w1.heap.size := by have := hb.size; simpa using this
      have hge2 : ∀ a, B = some a → a.block ≠ w.heap.size := fun a ha e => by have := hge a ha; simp at this; omega
      have hbw : Below w.heap.size w w1 := ((Below.refl w.heap.size w).alloc (Nat.le_refl _) (.cells #[.bool false, .slice none 0 0] 104)).trans (hb.mono (by simp))
      have hblk : Blk w1 w.heap.size 104 #[.bool false, .slice none 0 0] := (Blk.new w _ _).below hb (by simp)
      have c0 : w1.cell? ⟨w.heap.size, 0, none⟩ = some (.bool false) := by rw [hb.cell (p := ⟨w.heap.size, 0, none⟩) (by simp)]; simp
      have c1 : w1.cell? ⟨w.heap.size, 1, none⟩ = some (.slice none 0 0) := by rw [hb.cell (p := ⟨w.heap.size, 1, none⟩) (by simp)]; simp
      have f0 : w1.frozen? ⟨w.heap.size, 0, none⟩ = false := by rw [hb.frozen (p := ⟨w.heap.size, 0, none⟩) (by simp)]; simp
      have f1 : w1.frozen? ⟨w.heap.size, 1, none⟩ = false := by rw [hb.frozen (p := ⟨w.heap.size, 1, none⟩) (by simp)]; simp
      have HGE := Lib.hid hge2
      have HGW : Hid (∀ a, B = some a → w.heap.size ≤ a.block) := fun a ha => by have := hge a ha; simp at this; omega
      clear hge hge2
      go_wp2_with fail
      have k1 : (w1.setCell ⟨w.heap.size, 0, none⟩ (.bool false)).cell? ⟨w.heap.size, 0, none⟩ = some (.bool false) := (hblk.set_ 0 _).cell 0
      have k2 : ((w1.setCell ⟨w.heap.size, 0, none⟩ (.bool false)).setCell ⟨w.heap.size, 1, none⟩ (.slice B out.length d)).cell? ⟨w.heap.size, 1, none⟩ = some (.slice B out.length d) := ((hblk.set_ 0 _).set_ 1 _).cell 1
      refine bodyPost_ret (v := .agg #[.bool false, .slice B out.length d]) (by simp [results, Tryz.results73, go_sem, hz, k1, k2]) rfl ⟨_, rfl, HIV.out _ _ B d ((hB.set_ HGE.out _).set_ HGE.out _) rfl HGW.out, (hbw.setCell (p := ⟨w.heap.size, 0, none⟩) (Nat.le_refl _) _).setCell (p := ⟨w.heap.size, 1, none⟩) (Nat.le_refl _) _⟩
    · go_enter Tryz.func73, Tryz.ntmps73
      go_wp2_with fail
      refine (HT.out _ (hA.below ((Below.refl _ _).alloc (Nat.le_refl _) _))).mono ?_
      rintro e w1 ⟨v1, rfl, hown, hb⟩
      obtain ⟨B, d, rfl, hB, _, hge⟩ := own_nsl_ge hown
      clear hown
      have hz : w.heap.size + 1 ≤ w1.heap.size := by have := hb.size; simpa using this
      have hge2 : ∀ a, B = some a → a.block ≠ w.heap.size := fun a ha e => by have := hge a ha; simp at this; omega
      have hbw : Below w.heap.size w w1 := ((Below.refl w.heap.size w).alloc (Nat.le_refl _) (.cells #[.bool false, .slice none 0 0] 104)).trans (hb.mono (by simp))
      have hblk : Blk w1 w.heap.size 104 #[.bool false, .slice none 0 0] := (Blk.new w _ _).below hb (by simp)
      have c0 : w1.cell? ⟨w.heap.size, 0, none⟩ = some (.bool false) := by rw [hb.cell (p := ⟨w.heap.size, 0, none⟩) (by simp)]; simp
      have c1 : w1.cell? ⟨w.heap.size, 1, none⟩ = some (.slice none 0 0) := by rw [hb.cell (p := ⟨w.heap.size, 1, none⟩) (by simp)]; simp
      have f0 : w1.frozen? ⟨w.heap.size, 0, none⟩ = false := by rw [hb.frozen (p := ⟨w.heap.size, 0, none⟩) (by simp)]; simp
      have f1 : w1.frozen? ⟨w.heap.size, 1, none⟩ = false := by rw [hb.frozen (p := ⟨w.heap.size, 1, none⟩) (by simp)]; simp
      have HGE := Lib.hid hge2
      have HGW : Hid (∀ a, B = some a → w.heap.size ≤ a.block) := fun a ha => by have := hge a ha; simp at this; omega
      clear hge hge2
      go_wp2_with fail
      have k1 : (w1.setCell ⟨w.heap.size, 0, none⟩ (.bool true)).cell? ⟨w.heap.size, 0, none⟩ = some (.bool true) := (hblk.set_ 0 _).cell 0
      have k2 : ((w1.setCell ⟨w.heap.size, 0, none⟩ (.bool true)).setCell ⟨w.heap.size, 1, none⟩ (.slice B out.length d)).cell? ⟨w.heap.size, 1, none⟩ = some (.slice B out.length d) := ((hblk.set_ 0 _).set_ 1 _).cell 1
      refine bodyPost_ret (v := .agg #[.bool true, .slice B out.length d]) (by simp [results, Tryz.results73, go_sem, hz, k1, k2]) rfl ⟨_, rfl, HIV.out _ _ B d ((hB.set_ HGE.out _).set_ HGE.out _) rfl HGW.out, (hbw.setCell (p := ⟨w.heap.size, 0, none⟩) (Nat.le_refl _) _).setCell (p := ⟨w.heap.size, 1, none⟩) (Nat.le_refl _) _⟩
  · obtain rfl : v = 0 := by omega
    have hd := dgs_zero (65536 ^ 4)
    have hdec : decide (0 < 0) = false := rfl
    rw [hdec, Bool.and_false] at HIV ⊢
    rw [hd] at HT HIV
    clear hlen hdec hv hd
    cases neg
    · go_enter Tryz.func73, Tryz.ntmps73
      go_wp2_with fail
      refine (HT.out _ (hA.below ((Below.refl _ _).alloc (Nat.le_refl _) _))).mono ?_
      rintro e w1 ⟨v1, rfl, hown, hb⟩
      obtain ⟨B, d, rfl, hB, _, hge⟩ := own_nsl_ge hown
      clear hown
      have hz : w.heap.size + 1 ≤ w1.heap.size := by have := hb.size; simpa using this
      have hge2 : ∀ a, B = some a → a.block ≠ w.heap.size := fun a ha e => by have := hge a ha; simp at this; omega
      have hbw : Below w.heap.size w w1 := ((Below.refl w.heap.size w).alloc (Nat.le_refl _) (.cells #[.bool false, .slice none 0 0] 104)).trans (hb.mono (by simp))
      have hblk : Blk w1 w.heap.size 104 #[.bool false, .slice none 0 0] := (Blk.new w _ _).below hb (by simp)
      have c0 : w1.cell? ⟨w.heap.size, 0, none⟩ = some (.bool false) := by rw [hb.cell (p := ⟨w.heap.size, 0, none⟩) (by simp)]; simp
      have c1 : w1.cell? ⟨w.heap.size, 1, none⟩ = some (.slice none 0 0) := by rw [hb.cell (p := ⟨w.heap.size, 1, none⟩) (by simp)]; simp
      have f0 : w1.frozen? ⟨w.heap.size, 0, none⟩ = false := by rw [hb.frozen (p := ⟨w.heap.size, 0, none⟩) (by simp)]; simp
      have f1 : w1.frozen? ⟨w.heap.size, 1, none⟩ = false := by rw [hb.frozen (p := ⟨w.heap.size, 1, none⟩) (by simp)]; simp
      have HGE := Lib.hid hge2
      have HGW : Hid (∀ a, B = some a → w.heap.size ≤ a.block) := fun a ha => by have := hge a ha; simp at this; omega
      clear hge hge2
      go_wp2_with fail
      have k1 : (w1.setCell ⟨w.heap.size, 0, none⟩ (.bool false)).cell? ⟨w.heap.size, 0, none⟩ = some (.bool false) := (hblk.set_ 0 _).cell 0
      have k2 : ((w1.setCell ⟨w.heap.size, 0, none⟩ (.bool false)).setCell ⟨w.heap.size, 1, none⟩ (.slice B 0 d)).cell? ⟨w.heap.size, 1, none⟩ = some (.slice B 0 d) := ((hblk.set_ 0 _).set_ 1 _).cell 1
      refine bodyPost_ret (v := .agg #[.bool false, .slice B [].length d]) (by simp [results, Tryz.results73, go_sem, hz, k1, k2]) rfl ⟨_, rfl, HIV.out _ false B d ((hB.set_ HGE.out _).set_ HGE.out _) rfl HGW.out, (hbw.setCell (p := ⟨w.heap.size, 0, none⟩) (Nat.le_refl _) _).setCell (p := ⟨w.heap.size, 1, none⟩) (Nat.le_refl _) _⟩
    · go_enter Tryz.func73, Tryz.ntmps73
      go_wp2_with fail
      refine (HT.out _ (hA.below ((Below.refl _ _).alloc (Nat.le_refl _) _))).mono ?_
      rintro e w1 ⟨v1, rfl, hown, hb⟩
      obtain ⟨B, d, rfl, hB, _, hge⟩ := own_nsl_ge hown
      clear hown
      have hz : w.heap.size + 1 ≤ w1.heap.size := by have := hb.size; simpa using this
      have hge2 : ∀ a, B = some a → a.block ≠ w.heap.size := fun a ha e => by have := hge a ha; simp at this; omega
      have hbw : Below w.heap.size w w1 := ((Below.refl w.heap.size w).alloc (Nat.le_refl _) (.cells #[.bool false, .slice none 0 0] 104)).trans (hb.mono (by simp))
      have hblk : Blk w1 w.heap.size 104 #[.bool false, .slice none 0 0] := (Blk.new w _ _).below hb (by simp)
      have c0 : w1.cell? ⟨w.heap.size, 0, none⟩ = some (.bool false) := by rw [hb.cell (p := ⟨w.heap.size, 0, none⟩) (by simp)]; simp
      have c1 : w1.cell? ⟨w.heap.size, 1, none⟩ = some (.slice none 0 0) := by rw [hb.cell (p := ⟨w.heap.size, 1, none⟩) (by simp)]; simp
      have f0 : w1.frozen? ⟨w.heap.size, 0, none⟩ = false := by rw [hb.frozen (p := ⟨w.heap.size, 0, none⟩) (by simp)]; simp
      have f1 : w1.frozen? ⟨w.heap.size, 1, none⟩ = false := by rw [hb.frozen (p := ⟨w.heap.size, 1, none⟩) (by simp)]; simp
      have HGE := Lib.hid hge2
      have HGW : Hid (∀ a, B = some a → w.heap.size ≤ a.block) := fun a ha => by have := hge a ha; simp at this; omega
      clear hge hge2
      go_wp2_with fail
      have k1 : (w1.setCell ⟨w.heap.size, 0, none⟩ (.bool false)).cell? ⟨w.heap.size, 0, none⟩ = some (.bool false) := (hblk.set_ 0 _).cell 0
      have k2 : ((w1.setCell ⟨w.heap.size, 0, none⟩ (.bool false)).setCell ⟨w.heap.size, 1, none⟩ (.slice B 0 d)).cell? ⟨w.heap.size, 1, none⟩ = some (.slice B 0 d) := ((hblk.set_ 0 _).set_ 1 _).cell 1
      refine bodyPost_ret (v := .agg #[.bool false, .slice B [].length d]) (by simp [results, Tryz.results73, go_sem, hz, k1, k2]) rfl ⟨_, rfl, HIV.out _ false B d ((hB.set_ HGE.out _).set_ HGE.out _) rfl HGW.out, (hbw.setCell (p := ⟨w.heap.size, 0, none⟩) (Nat.le_refl _) _).setCell (p := ⟨w.heap.size, 1, none⟩) (Nat.le_refl _) _⟩
end

/-! The walk of the reference's Read (whole numbers). -/
section
open Go.RowKit

/-- The error, the sign, the magnitude. -/
def read5 (l : List UInt8) : Nat × Bool × Nat :=
  if l.head? = some 45 then
    (if (read4 (l.drop 1)).1 ≠ 0 then ((read4 (l.drop 1)).1, false, 0) else if (read4 (l.drop 1)).2 = 0 then (3, false, 0) else (0, true, (read4 (l.drop 1)).2))
  else (if (read4 l).1 ≠ 0 then ((read4 l).1, false, 0) else (0, false, (read4 l).2))
def Read5 (w : World) (x : Nat × Bool × Nat) (e : Ending) (w' : World) : Prop :=
  ∃ v, e = .returned (.tuple #[v, .int .i64 x.1]) ∧ IntVal w.heap.size w' x.2.1 x.2.2 v ∧ Below w.heap.size w w'
theorem read4_any (s : ByteArray) (w : World) (hs : s.size ≤ 20000) : Calls Tryz.prog 103 #[.string s] w (Read4 w (read4 s.data.toList)) := by
  by_cases h : (read4 s.data.toList).1 = 0
  · exact read4_good s w hs h
  · exact read4_bad s w hs h
theorem read4_err (l : List UInt8) : (read4 l).1 ≤ 4 := by
  unfold read4
  split
  · exact Nat.le_refl _
  · split
    · exact (by decide : 3 ≤ 4)
    · split
      · exact (by decide : 3 ≤ 4)
      · exact Nat.zero_le _
theorem dv_dgs4 (v : Nat) : dv (65536 ^ 4) (dgs (65536 ^ 4) v) = v := dv_dgs (by decide) v
theorem dgs_len (l : List UInt8) (hl : l.length ≤ 20000) : (dgs (65536 ^ 4) (read4 l).2).length ≤ 100000 := by
  have hb : ∀ v k : Nat, v < (65536 ^ 4) ^ k → (dgs (65536 ^ 4) v).length ≤ k := by
    intro v k
    induction k generalizing v with
    | zero =>
      intro h
      have : v = 0 := by rw [Nat.pow_zero] at h; omega
      subst this
      rw [dgs_zero]; simp
    | succ k ih =>
      intro h
      rcases Nat.eq_zero_or_pos v with h0 | h0
      · subst h0; rw [dgs_zero]; simp
      · rw [dgs_pos (by decide) h0, List.length_cons]
        have := ih (v / 65536 ^ 4) (by rw [Nat.div_lt_iff_lt_mul (by decide), ← Nat.pow_succ]; exact h)
        omega
  have hv : ∀ (l : List UInt8), l.all digB = true → decVal 0 l < (65536 ^ 4) ^ l.length := by
    intro l h
    have hg : ∀ (l : List UInt8) (a : Nat), l.all digB = true → decVal a l + 1 ≤ (a + 1) * 10 ^ l.length := by
      intro l
      induction l with
      | nil => intro a _; rw [decVal_nil]; simp
      | cons c r ih =>
        intro a h
        simp only [List.all_cons, Bool.and_eq_true] at h
        have hc := (dig_iff c).1 h.1
        have := ih (a * 10 + (c.toNat - 48)) h.2
        rw [decVal_cons, List.length_cons, Nat.pow_succ, Nat.mul_comm (10 ^ r.length) 10, ← Nat.mul_assoc]
        refine Nat.le_trans this (Nat.mul_le_mul_right _ ?_)
        omega
    have h1 := hg l 0 h
    rw [Nat.zero_add, Nat.one_mul] at h1
    have h2 : 10 ^ l.length ≤ (65536 ^ 4) ^ l.length := Nat.pow_le_pow_left (by decide) _
    omega
  unfold read4
  split
  · rw [dgs_zero]; simp
  · split
    · rw [dgs_zero]; simp
    · rename_i h1
      split
      · rw [dgs_zero]; simp
      · refine Nat.le_trans (hb _ l.length (hv l (by simpa using h1))) (by omega)

set_option maxRecDepth 100000 in
set_option maxHeartbeats 1000000 in
theorem read5_any (s : ByteArray) (w : World) (hs : s.size ≤ 20000) :
    Calls Tryz.prog 78 #[.string s] w (Read5 w (read5 s.data.toList)) := by
  have hl : s.data.toList.length = s.size := by simp
  by_cases hneg : s.data.toList.head? = some 45
  · have hpos : 0 < s.size := by
      rcases Nat.eq_zero_or_pos s.size with h | h
      · have hnil : s.data.toList = [] := List.length_eq_zero_iff.1 (by rw [hl]; exact h)
        rw [hnil] at hneg; cases hneg
      · exact h
    have h45 : ((s[0].toNat : Int) == 45) = true := by
      rw [List.head?_eq_getElem?, data_get s 0 hpos] at hneg
      rw [Option.some.inj hneg]; rfl
    have hd : (s.extract 1 s.size).data.toList = s.data.toList.drop 1 := by
      rw [bs_extract, bs_list, List.take_of_length_le (by rw [List.length_drop, hl]; omega)]
    have hsz : (s.extract 1 s.size).size ≤ 20000 := by rw [ByteArray.size_extract]; omega
    have R4 := fun W => read4_any (s.extract 1 s.size) W hsz
    rw [hd] at R4
    have hln := dgs_len (s.data.toList.drop 1) (by rw [List.length_drop, hl]; omega)
    have e4 := read4_err (s.data.toList.drop 1)
    have hr : read5 s.data.toList = (if (read4 (s.data.toList.drop 1)).1 ≠ 0 then ((read4 (s.data.toList.drop 1)).1, false, 0) else if (read4 (s.data.toList.drop 1)).2 = 0 then (3, false, 0) else (0, true, (read4 (s.data.toList.drop 1)).2)) := by
      rw [read5, if_pos hneg]
    rw [hr]
    have hne : s.toList.isEmpty = false := by rw [isEmpty_bytes, isEmpty_size]; exact decide_eq_false (by omega)
    clear hr hneg hd hsz hl
    generalize read4 (s.data.toList.drop 1) = x at *
    obtain ⟨er, v⟩ := x
    have H4 := Lib.hid R4; clear R4
    simp only at hln e4
    have s1 : (1 : Int) ≤ (s.size : Int) := by omega
    by_cases her : er = 0
    · subst her
      rw [if_neg (by simp)]
      by_cases hv : v = 0
      · subst hv
        rw [if_pos rfl]
        have hz := dgs_zero (65536 ^ 4)
        unfold Read4 at H4
        simp only [hz, List.length_nil] at H4
        clear hz hln e4
        go_enter Tryz.func78, Tryz.ntmps78
        go_wp2_with fail
        refine (H4.out _).mono ?_
        rintro e w1 ⟨A, c, rfl, hA, hb⟩
        have hbw : Below w.heap.size w w1 := ((Below.refl w.heap.size w).alloc (Nat.le_refl _) (.cells #[.bool false, .slice none 0 0] 104)).trans (hb.mono (by simp))
        have hblk : Blk w1 w.heap.size 104 #[.bool false, .slice none 0 0] := (Blk.new w _ _).below hb (by simp)
        have hz1 : w.heap.size + 1 ≤ w1.heap.size := by have := hb.size; simpa using this
        have c0 := hblk.cell 0
        have c1 := hblk.cell 1
        have f0 := hblk.frozen 0
        have f1 := hblk.frozen 1
        change w1.cell? _ = some (.bool false) at c0
        change w1.cell? _ = some (.slice none 0 0) at c1
        have k1 : (w1.setCell ⟨w.heap.size, 0, none⟩ (.bool false)).cell? ⟨w.heap.size, 0, none⟩ = some (.bool false) := (hblk.set_ 0 _).cell 0
        have k2 : ((w1.setCell ⟨w.heap.size, 0, none⟩ (.bool false)).setCell ⟨w.heap.size, 1, none⟩ (.slice none 0 0)).cell? ⟨w.heap.size, 1, none⟩ = some (.slice none 0 0) := ((hblk.set_ 0 _).set_ 1 _).cell 1
        clear hb
        go_wp2_with fail
        refine bodyPost_ret (v := .tuple #[.agg #[.bool false, .slice none 0 0], .int .i64 3]) (by simp [results, Tryz.results78, go_sem, hz1, k1, k2]) rfl ⟨_, rfl, IntVal.zero _ _, (hbw.setCell (p := ⟨w.heap.size, 0, none⟩) (Nat.le_refl _) _).setCell (p := ⟨w.heap.size, 1, none⟩) (Nat.le_refl _) _⟩
      · rw [if_neg hv]
        have MM := fun W (B : Option Addr) d h => make_any true (dgs (65536 ^ 4) v) B _ d W rfl hln h (dgs_lt (by decide) v)
        rw [dv_dgs4, decide_eq_true (by omega : 0 < v), Bool.true_and] at MM
        have MK := Lib.hid MM; clear MM
        have hp : 0 < (dgs (65536 ^ 4) v).length := by
          rcases Nat.eq_zero_or_pos (dgs (65536 ^ 4) v).length with h | h
          · exact absurd ((dgs_nil (by decide) v).1 (List.length_eq_zero_iff.1 h)) hv
          · exact h
        have hp1 : (((dgs (65536 ^ 4) v).length : Int) == 0) = false := beq_eq_false_iff_ne.2 (by omega)
        clear e4
        go_enter Tryz.func78, Tryz.ntmps78
        go_wp2_with fail
        refine (H4.out _).mono ?_
        rintro e w1 ⟨A, c, rfl, hA, hb⟩
        have hbw : Below w.heap.size w w1 := ((Below.refl w.heap.size w).alloc (Nat.le_refl _) (.cells #[.bool false, .slice none 0 0] 104)).trans (hb.mono (by simp))
        have hblk : Blk w1 w.heap.size 104 #[.bool false, .slice none 0 0] := (Blk.new w _ _).below hb (by simp)
        have hz1 : w.heap.size + 1 ≤ w1.heap.size := by have := hb.size; simpa using this
        have c0 := hblk.cell 0
        have c1 := hblk.cell 1
        have f0 := hblk.frozen 0
        have f1 := hblk.frozen 1
        change w1.cell? _ = some (.bool false) at c0
        change w1.cell? _ = some (.slice none 0 0) at c1
        clear hb
        go_wp2_with fail
        refine (MK.out _ A c (hA.below (Below.refl _ _))).mono ?_
        rintro e w2 ⟨x, rfl, ⟨B, d, rfl, hB, hge⟩, hb2⟩
        have hbw2 := hbw.trans (hb2.mono hbw.size)
        have hblk2 := hblk.below hb2 hblk.lt
        have d0 := hblk2.cell 0
        have d1 := hblk2.cell 1
        have g0 := hblk2.frozen 0
        have g1 := hblk2.frozen 1
        change w2.cell? _ = some (.bool false) at d0
        change w2.cell? _ = some (.slice none 0 0) at d1
        have hz2 : w.heap.size + 1 ≤ w2.heap.size := Nat.le_trans hz1 hb2.size
        have HGE : Hid (∀ a, B = some a → a.block ≠ w.heap.size) := fun a ha e => by have := hge a ha; omega
        have HGW : Hid (∀ a, B = some a → w.heap.size ≤ a.block) := fun a ha => by have := hge a ha; omega
        have k1 : (w2.setCell ⟨w.heap.size, 0, none⟩ (.bool true)).cell? ⟨w.heap.size, 0, none⟩ = some (.bool true) := (hblk2.set_ 0 _).cell 0
        have k2 : ((w2.setCell ⟨w.heap.size, 0, none⟩ (.bool true)).setCell ⟨w.heap.size, 1, none⟩ (.slice B (dgs (65536 ^ 4) v).length d)).cell? ⟨w.heap.size, 1, none⟩ = some (.slice B (dgs (65536 ^ 4) v).length d) := ((hblk2.set_ 0 _).set_ 1 _).cell 1
        clear hge hb2
        go_wp2_with fail
        refine bodyPost_ret (v := .tuple #[.agg #[.bool true, .slice B (dgs (65536 ^ 4) v).length d], .int .i64 0]) (by simp [results, Tryz.results78, go_sem, hz2, k1, k2]) rfl ⟨_, rfl, ⟨B, d, rfl, (hB.set_ HGE.out _).set_ HGE.out _, HGW.out⟩, (hbw2.setCell (p := ⟨w.heap.size, 0, none⟩) (Nat.le_refl _) _).setCell (p := ⟨w.heap.size, 1, none⟩) (Nat.le_refl _) _⟩
    · rw [if_pos (by simpa using her)]
      have he1 : ((er : Int) != 0) = true := bne_iff_ne.2 (by omega)
      go_enter Tryz.func78, Tryz.ntmps78
      go_wp2_with fail
      refine (H4.out _).mono ?_
      rintro e w1 ⟨A, c, rfl, hA, hb⟩
      have hbw : Below w.heap.size w w1 := ((Below.refl w.heap.size w).alloc (Nat.le_refl _) (.cells #[.bool false, .slice none 0 0] 104)).trans (hb.mono (by simp))
      have hblk : Blk w1 w.heap.size 104 #[.bool false, .slice none 0 0] := (Blk.new w _ _).below hb (by simp)
      have hz1 : w.heap.size + 1 ≤ w1.heap.size := by have := hb.size; simpa using this
      have c0 := hblk.cell 0
      have c1 := hblk.cell 1
      have f0 := hblk.frozen 0
      have f1 := hblk.frozen 1
      change w1.cell? _ = some (.bool false) at c0
      change w1.cell? _ = some (.slice none 0 0) at c1
      have k1 : (w1.setCell ⟨w.heap.size, 0, none⟩ (.bool false)).cell? ⟨w.heap.size, 0, none⟩ = some (.bool false) := (hblk.set_ 0 _).cell 0
      have k2 : ((w1.setCell ⟨w.heap.size, 0, none⟩ (.bool false)).setCell ⟨w.heap.size, 1, none⟩ (.slice none 0 0)).cell? ⟨w.heap.size, 1, none⟩ = some (.slice none 0 0) := ((hblk.set_ 0 _).set_ 1 _).cell 1
      clear hb
      go_wp2_with fail
      refine bodyPost_ret (v := .tuple #[.agg #[.bool false, .slice none 0 0], .int .i64 er]) (by simp [results, Tryz.results78, go_sem, hz1, k1, k2]) rfl ⟨_, rfl, IntVal.zero _ _, (hbw.setCell (p := ⟨w.heap.size, 0, none⟩) (Nat.le_refl _) _).setCell (p := ⟨w.heap.size, 1, none⟩) (Nat.le_refl _) _⟩
  · have R4 := fun W => read4_any s W hs
    have hln := dgs_len s.data.toList (by omega)
    have e4 := read4_err s.data.toList
    have hr : read5 s.data.toList = (if (read4 s.data.toList).1 ≠ 0 then ((read4 s.data.toList).1, false, 0) else (0, false, (read4 s.data.toList).2)) := by rw [read5, if_neg hneg]
    rw [hr]
    have hlead : s.size = 0 ∨ ∃ h : 0 < s.size, ((s[0].toNat : Int) == 45) = false := by
      rcases Nat.eq_zero_or_pos s.size with h | h
      · exact .inl h
      · refine .inr ⟨h, beq_eq_false_iff_ne.2 fun e => hneg ?_⟩
        rw [List.head?_eq_getElem?, data_get s 0 h]
        rw [UInt8.toNat_inj.1 (show s[0].toNat = (45 : UInt8).toNat by have : (45 : UInt8).toNat = 45 := rfl; omega)]
    clear hr hneg hl
    generalize read4 s.data.toList = x at *
    obtain ⟨er, v⟩ := x
    have H4 := Lib.hid R4; clear R4
    simp only at hln e4
    have MM := fun W (B : Option Addr) d h => make_any false (dgs (65536 ^ 4) v) B _ d W rfl hln h (dgs_lt (by decide) v)
    rw [dv_dgs4, Bool.false_and] at MM
    have MK := Lib.hid MM; clear MM
    rcases hlead with h0 | ⟨h0, h45⟩
    · have hne : s.toList.isEmpty = true := by rw [isEmpty_bytes, isEmpty_size]; exact decide_eq_true h0
      clear h0
      by_cases her : er = 0
      · subst her
        rw [if_neg (by simp)]
        clear e4
        go_enter Tryz.func78, Tryz.ntmps78
        go_wp2_with fail
        refine (H4.out _).mono ?_
        rintro e w1 ⟨A, c, rfl, hA, hb⟩
        have hbw : Below w.heap.size w w1 := ((Below.refl w.heap.size w).alloc (Nat.le_refl _) (.cells #[.bool false, .slice none 0 0] 104)).trans (hb.mono (by simp))
        have hblk : Blk w1 w.heap.size 104 #[.bool false, .slice none 0 0] := (Blk.new w _ _).below hb (by simp)
        have hz1 : w.heap.size + 1 ≤ w1.heap.size := by have := hb.size; simpa using this
        have c0 := hblk.cell 0
        have c1 := hblk.cell 1
        have f0 := hblk.frozen 0
        have f1 := hblk.frozen 1
        change w1.cell? _ = some (.bool false) at c0
        change w1.cell? _ = some (.slice none 0 0) at c1
        clear hb
        go_wp2_with fail
        refine (MK.out _ A c (hA.below (Below.refl _ _))).mono ?_
        rintro e w2 ⟨x, rfl, ⟨B, d, rfl, hB, hge⟩, hb2⟩
        have hbw2 := hbw.trans (hb2.mono hbw.size)
        have hblk2 := hblk.below hb2 hblk.lt
        have d0 := hblk2.cell 0
        have d1 := hblk2.cell 1
        have g0 := hblk2.frozen 0
        have g1 := hblk2.frozen 1
        change w2.cell? _ = some (.bool false) at d0
        change w2.cell? _ = some (.slice none 0 0) at d1
        have hz2 : w.heap.size + 1 ≤ w2.heap.size := Nat.le_trans hz1 hb2.size
        have HGE : Hid (∀ a, B = some a → a.block ≠ w.heap.size) := fun a ha e => by have := hge a ha; omega
        have HGW : Hid (∀ a, B = some a → w.heap.size ≤ a.block) := fun a ha => by have := hge a ha; omega
        have k1 : (w2.setCell ⟨w.heap.size, 0, none⟩ (.bool false)).cell? ⟨w.heap.size, 0, none⟩ = some (.bool false) := (hblk2.set_ 0 _).cell 0
        have k2 : ((w2.setCell ⟨w.heap.size, 0, none⟩ (.bool false)).setCell ⟨w.heap.size, 1, none⟩ (.slice B (dgs (65536 ^ 4) v).length d)).cell? ⟨w.heap.size, 1, none⟩ = some (.slice B (dgs (65536 ^ 4) v).length d) := ((hblk2.set_ 0 _).set_ 1 _).cell 1
        clear hge hb2
        go_wp2_with fail
        refine bodyPost_ret (v := .tuple #[.agg #[.bool false, .slice B (dgs (65536 ^ 4) v).length d], .int .i64 0]) (by simp [results, Tryz.results78, go_sem, hz2, k1, k2]) rfl ⟨_, rfl, ⟨B, d, rfl, (hB.set_ HGE.out _).set_ HGE.out _, HGW.out⟩, (hbw2.setCell (p := ⟨w.heap.size, 0, none⟩) (Nat.le_refl _) _).setCell (p := ⟨w.heap.size, 1, none⟩) (Nat.le_refl _) _⟩
      · rw [if_pos (by simpa using her)]
        have he1 : ((er : Int) != 0) = true := bne_iff_ne.2 (by omega)
        go_enter Tryz.func78, Tryz.ntmps78
        go_wp2_with fail
        refine (H4.out _).mono ?_
        rintro e w1 ⟨A, c, rfl, hA, hb⟩
        have hbw : Below w.heap.size w w1 := ((Below.refl w.heap.size w).alloc (Nat.le_refl _) (.cells #[.bool false, .slice none 0 0] 104)).trans (hb.mono (by simp))
        have hblk : Blk w1 w.heap.size 104 #[.bool false, .slice none 0 0] := (Blk.new w _ _).below hb (by simp)
        have hz1 : w.heap.size + 1 ≤ w1.heap.size := by have := hb.size; simpa using this
        have c0 := hblk.cell 0
        have c1 := hblk.cell 1
        have f0 := hblk.frozen 0
        have f1 := hblk.frozen 1
        change w1.cell? _ = some (.bool false) at c0
        change w1.cell? _ = some (.slice none 0 0) at c1
        have k1 : (w1.setCell ⟨w.heap.size, 0, none⟩ (.bool false)).cell? ⟨w.heap.size, 0, none⟩ = some (.bool false) := (hblk.set_ 0 _).cell 0
        have k2 : ((w1.setCell ⟨w.heap.size, 0, none⟩ (.bool false)).setCell ⟨w.heap.size, 1, none⟩ (.slice none 0 0)).cell? ⟨w.heap.size, 1, none⟩ = some (.slice none 0 0) := ((hblk.set_ 0 _).set_ 1 _).cell 1
        clear hb
        go_wp2_with fail
        refine bodyPost_ret (v := .tuple #[.agg #[.bool false, .slice none 0 0], .int .i64 er]) (by simp [results, Tryz.results78, go_sem, hz1, k1, k2]) rfl ⟨_, rfl, IntVal.zero _ _, (hbw.setCell (p := ⟨w.heap.size, 0, none⟩) (Nat.le_refl _) _).setCell (p := ⟨w.heap.size, 1, none⟩) (Nat.le_refl _) _⟩
    · have hne : s.toList.isEmpty = false := by rw [isEmpty_bytes, isEmpty_size]; exact decide_eq_false (by omega)
      by_cases her : er = 0
      · subst her
        rw [if_neg (by simp)]
        clear e4
        go_enter Tryz.func78, Tryz.ntmps78
        go_wp2_with fail
        refine (H4.out _).mono ?_
        rintro e w1 ⟨A, c, rfl, hA, hb⟩
        have hbw : Below w.heap.size w w1 := ((Below.refl w.heap.size w).alloc (Nat.le_refl _) (.cells #[.bool false, .slice none 0 0] 104)).trans (hb.mono (by simp))
        have hblk : Blk w1 w.heap.size 104 #[.bool false, .slice none 0 0] := (Blk.new w _ _).below hb (by simp)
        have hz1 : w.heap.size + 1 ≤ w1.heap.size := by have := hb.size; simpa using this
        have c0 := hblk.cell 0
        have c1 := hblk.cell 1
        have f0 := hblk.frozen 0
        have f1 := hblk.frozen 1
        change w1.cell? _ = some (.bool false) at c0
        change w1.cell? _ = some (.slice none 0 0) at c1
        clear hb
        go_wp2_with fail
        refine (MK.out _ A c (hA.below (Below.refl _ _))).mono ?_
        rintro e w2 ⟨x, rfl, ⟨B, d, rfl, hB, hge⟩, hb2⟩
        have hbw2 := hbw.trans (hb2.mono hbw.size)
        have hblk2 := hblk.below hb2 hblk.lt
        have d0 := hblk2.cell 0
        have d1 := hblk2.cell 1
        have g0 := hblk2.frozen 0
        have g1 := hblk2.frozen 1
        change w2.cell? _ = some (.bool false) at d0
        change w2.cell? _ = some (.slice none 0 0) at d1
        have hz2 : w.heap.size + 1 ≤ w2.heap.size := Nat.le_trans hz1 hb2.size
        have HGE : Hid (∀ a, B = some a → a.block ≠ w.heap.size) := fun a ha e => by have := hge a ha; omega
        have HGW : Hid (∀ a, B = some a → w.heap.size ≤ a.block) := fun a ha => by have := hge a ha; omega
        have k1 : (w2.setCell ⟨w.heap.size, 0, none⟩ (.bool false)).cell? ⟨w.heap.size, 0, none⟩ = some (.bool false) := (hblk2.set_ 0 _).cell 0
        have k2 : ((w2.setCell ⟨w.heap.size, 0, none⟩ (.bool false)).setCell ⟨w.heap.size, 1, none⟩ (.slice B (dgs (65536 ^ 4) v).length d)).cell? ⟨w.heap.size, 1, none⟩ = some (.slice B (dgs (65536 ^ 4) v).length d) := ((hblk2.set_ 0 _).set_ 1 _).cell 1
        clear hge hb2
        go_wp2_with fail
        refine bodyPost_ret (v := .tuple #[.agg #[.bool false, .slice B (dgs (65536 ^ 4) v).length d], .int .i64 0]) (by simp [results, Tryz.results78, go_sem, hz2, k1, k2]) rfl ⟨_, rfl, ⟨B, d, rfl, (hB.set_ HGE.out _).set_ HGE.out _, HGW.out⟩, (hbw2.setCell (p := ⟨w.heap.size, 0, none⟩) (Nat.le_refl _) _).setCell (p := ⟨w.heap.size, 1, none⟩) (Nat.le_refl _) _⟩
      · rw [if_pos (by simpa using her)]
        have he1 : ((er : Int) != 0) = true := bne_iff_ne.2 (by omega)
        go_enter Tryz.func78, Tryz.ntmps78
        go_wp2_with fail
        refine (H4.out _).mono ?_
        rintro e w1 ⟨A, c, rfl, hA, hb⟩
        have hbw : Below w.heap.size w w1 := ((Below.refl w.heap.size w).alloc (Nat.le_refl _) (.cells #[.bool false, .slice none 0 0] 104)).trans (hb.mono (by simp))
        have hblk : Blk w1 w.heap.size 104 #[.bool false, .slice none 0 0] := (Blk.new w _ _).below hb (by simp)
        have hz1 : w.heap.size + 1 ≤ w1.heap.size := by have := hb.size; simpa using this
        have c0 := hblk.cell 0
        have c1 := hblk.cell 1
        have f0 := hblk.frozen 0
        have f1 := hblk.frozen 1
        change w1.cell? _ = some (.bool false) at c0
        change w1.cell? _ = some (.slice none 0 0) at c1
        have k1 : (w1.setCell ⟨w.heap.size, 0, none⟩ (.bool false)).cell? ⟨w.heap.size, 0, none⟩ = some (.bool false) := (hblk.set_ 0 _).cell 0
        have k2 : ((w1.setCell ⟨w.heap.size, 0, none⟩ (.bool false)).setCell ⟨w.heap.size, 1, none⟩ (.slice none 0 0)).cell? ⟨w.heap.size, 1, none⟩ = some (.slice none 0 0) := ((hblk.set_ 0 _).set_ 1 _).cell 1
        clear hb
        go_wp2_with fail
        refine bodyPost_ret (v := .tuple #[.agg #[.bool false, .slice none 0 0], .int .i64 er]) (by simp [results, Tryz.results78, go_sem, hz1, k1, k2]) rfl ⟨_, rfl, IntVal.zero _ _, (hbw.setCell (p := ⟨w.heap.size, 0, none⟩) (Nat.le_refl _) _).setCell (p := ⟨w.heap.size, 1, none⟩) (Nat.le_refl _) _⟩
end

/-! The walk of the reference's Small (whole numbers). -/
section
open Go.RowKit

theorem ret_pair {k : IntKind} {a b : Int} {c : Bool} (h : a = b) : Ending.returned (.tuple #[.int k a, .bool c]) = .returned (.tuple #[.int k b, .bool c]) := by rw [h]

set_option maxRecDepth 100000 in
set_option maxHeartbeats 1000000 in
theorem small_pos (v : Nat) (B : Option Addr) (d : Nat) (w : World) (hB : Nsl w B (dgs (65536 ^ 4) v)) (hl : (dgs (65536 ^ 4) v).length ≤ 100000) (h : v ≤ 9223372036854775807) :
    Calls Tryz.prog 79 #[.agg #[.bool false, .slice B (dgs (65536 ^ 4) v).length d]] w fun e w' => e = .returned (.tuple #[.int .i64 (v : Nat), .bool true]) ∧ Below w.heap.size w w' := by
  have MM := fun W (B : Option Addr) d h => make_any false (dgs (65536 ^ 4) v) B _ d W rfl hl h (dgs_lt (by decide) v)
  rw [dv_dgs4, Bool.false_and] at MM
  have MK := Lib.hid MM; clear MM
  have SS := fun W (B : Option Addr) d h => nsmall_any (dgs (65536 ^ 4) v) B _ d W rfl hl h (dgs_lt (by decide) v)
  rw [dv_dgs4, show smallN v = (v, true) from if_pos (by omega)] at SS
  have SM := Lib.hid SS; clear SS
  have h1 : (v : Int) ≤ 9223372036854775807 := by omega
  go_enter Tryz.func79, Tryz.ntmps79
  go_wp2_with fail
  refine (MK.out _ B d (hB.below ((Below.refl _ _).alloc (Nat.le_refl _) _))).mono ?_
  rintro e w2 ⟨x, rfl, ⟨B2, d2, rfl, hB2, hge⟩, hb2⟩
  have hbw2 : Below w.heap.size w w2 := ((Below.refl w.heap.size w).alloc (Nat.le_refl _) (.cells #[.bool false, .slice B (dgs (65536 ^ 4) v).length d] 104)).trans (hb2.mono (by simp))
  have hblk : Blk w2 w.heap.size 104 #[.bool false, .slice B (dgs (65536 ^ 4) v).length d] := (Blk.new w _ _).below hb2 (by simp)
  have hz2 : w.heap.size + 1 ≤ w2.heap.size := by have := hb2.size; simpa using this
  have HGE : Hid (∀ a, B2 = some a → a.block ≠ w.heap.size) := fun a ha e => by have := hge a ha; simp at this; omega
  have c0 := hblk.cell 0
  have c1 := hblk.cell 1
  have f0 := hblk.frozen 0
  have f1 := hblk.frozen 1
  change w2.cell? _ = some (.bool false) at c0
  change w2.cell? _ = some (.slice B (dgs (65536 ^ 4) v).length d) at c1
  have hB3 : Nsl ((w2.setCell ⟨w.heap.size, 0, none⟩ (.bool false)).setCell ⟨w.heap.size, 1, none⟩ (.slice B2 (dgs (65536 ^ 4) v).length d2)) B2 (dgs (65536 ^ 4) v) := (hB2.set_ HGE.out _).set_ HGE.out _
  have hb3 : Below w.heap.size w ((w2.setCell ⟨w.heap.size, 0, none⟩ (.bool false)).setCell ⟨w.heap.size, 1, none⟩ (.slice B2 (dgs (65536 ^ 4) v).length d2)) := (hbw2.setCell (p := ⟨w.heap.size, 0, none⟩) (Nat.le_refl _) _).setCell (p := ⟨w.heap.size, 1, none⟩) (Nat.le_refl _) _
  have hblk3 : Blk ((w2.setCell ⟨w.heap.size, 0, none⟩ (.bool false)).setCell ⟨w.heap.size, 1, none⟩ (.slice B2 (dgs (65536 ^ 4) v).length d2)) w.heap.size 104 #[.bool false, .slice B2 (dgs (65536 ^ 4) v).length d2] := (hblk.set_ 0 _).set_ 1 _
  have HX := Lib.hid (And.intro hB3 (And.intro hb3 hblk3))
  clear hge hb2 hB3 hb3 hblk3 hbw2
  go_wp2_with fail
  refine (SM.out _ B2 d2 HX.out.1).mono ?_
  rintro e w4 ⟨rfl, hb4⟩
  have hblk4 := HX.out.2.2.below hb4 HX.out.2.2.lt
  have e0 := hblk4.cell 0
  change w4.cell? _ = some (.bool false) at e0
  have hb5 := HX.out.2.1.trans (hb4.mono HX.out.2.1.size)
  have HB5 := Lib.hid hb5
  clear hb4 hblk4 hb5 c0 c1 f0 f1 hblk
  go_wp2_with fail
  go_ret2
  exact ⟨rfl, HB5.out⟩

set_option maxRecDepth 100000 in
set_option maxHeartbeats 1000000 in
theorem small_pos_long (v : Nat) (B : Option Addr) (d : Nat) (w : World) (hB : Nsl w B (dgs (65536 ^ 4) v)) (hl : (dgs (65536 ^ 4) v).length ≤ 100000) (h : 9223372036854775807 < v) (h2 : v < 18446744073709551616) :
    Calls Tryz.prog 79 #[.agg #[.bool false, .slice B (dgs (65536 ^ 4) v).length d]] w fun e w' => e = .returned (.tuple #[.int .i64 0, .bool false]) ∧ Below w.heap.size w w' := by
  have MM := fun W (B : Option Addr) d h => make_any false (dgs (65536 ^ 4) v) B _ d W rfl hl h (dgs_lt (by decide) v)
  rw [dv_dgs4, Bool.false_and] at MM
  have MK := Lib.hid MM; clear MM
  have SS := fun W (B : Option Addr) d h => nsmall_any (dgs (65536 ^ 4) v) B _ d W rfl hl h (dgs_lt (by decide) v)
  rw [dv_dgs4, show smallN v = (v, true) from if_pos (by omega)] at SS
  have SM := Lib.hid SS; clear SS
  have h1 : (9223372036854775807 : Int) < (v : Int) := by omega
  go_enter Tryz.func79, Tryz.ntmps79
  go_wp2_with fail
  refine (MK.out _ B d (hB.below ((Below.refl _ _).alloc (Nat.le_refl _) _))).mono ?_
  rintro e w2 ⟨x, rfl, ⟨B2, d2, rfl, hB2, hge⟩, hb2⟩
  have hbw2 : Below w.heap.size w w2 := ((Below.refl w.heap.size w).alloc (Nat.le_refl _) (.cells #[.bool false, .slice B (dgs (65536 ^ 4) v).length d] 104)).trans (hb2.mono (by simp))
  have hblk : Blk w2 w.heap.size 104 #[.bool false, .slice B (dgs (65536 ^ 4) v).length d] := (Blk.new w _ _).below hb2 (by simp)
  have hz2 : w.heap.size + 1 ≤ w2.heap.size := by have := hb2.size; simpa using this
  have HGE : Hid (∀ a, B2 = some a → a.block ≠ w.heap.size) := fun a ha e => by have := hge a ha; simp at this; omega
  have c0 := hblk.cell 0
  have c1 := hblk.cell 1
  have f0 := hblk.frozen 0
  have f1 := hblk.frozen 1
  change w2.cell? _ = some (.bool false) at c0
  change w2.cell? _ = some (.slice B (dgs (65536 ^ 4) v).length d) at c1
  have hB3 : Nsl ((w2.setCell ⟨w.heap.size, 0, none⟩ (.bool false)).setCell ⟨w.heap.size, 1, none⟩ (.slice B2 (dgs (65536 ^ 4) v).length d2)) B2 (dgs (65536 ^ 4) v) := (hB2.set_ HGE.out _).set_ HGE.out _
  have hb3 : Below w.heap.size w ((w2.setCell ⟨w.heap.size, 0, none⟩ (.bool false)).setCell ⟨w.heap.size, 1, none⟩ (.slice B2 (dgs (65536 ^ 4) v).length d2)) := (hbw2.setCell (p := ⟨w.heap.size, 0, none⟩) (Nat.le_refl _) _).setCell (p := ⟨w.heap.size, 1, none⟩) (Nat.le_refl _) _
  have hblk3 : Blk ((w2.setCell ⟨w.heap.size, 0, none⟩ (.bool false)).setCell ⟨w.heap.size, 1, none⟩ (.slice B2 (dgs (65536 ^ 4) v).length d2)) w.heap.size 104 #[.bool false, .slice B2 (dgs (65536 ^ 4) v).length d2] := (hblk.set_ 0 _).set_ 1 _
  have HX := Lib.hid (And.intro hB3 (And.intro hb3 hblk3))
  clear hge hb2 hB3 hb3 hblk3 hbw2
  go_wp2_with fail
  refine (SM.out _ B2 d2 HX.out.1).mono ?_
  rintro e w4 ⟨rfl, hb4⟩
  have hblk4 := HX.out.2.2.below hb4 HX.out.2.2.lt
  have e0 := hblk4.cell 0
  change w4.cell? _ = some (.bool false) at e0
  have hb5 := HX.out.2.1.trans (hb4.mono HX.out.2.1.size)
  have HB5 := Lib.hid hb5
  clear hb4 hblk4 hb5 c0 c1 f0 f1 hblk
  go_wp2_with fail
  go_ret2
  exact ⟨rfl, HB5.out⟩

set_option maxRecDepth 100000 in
set_option maxHeartbeats 1000000 in
theorem small_pos_great (v : Nat) (B : Option Addr) (d : Nat) (w : World) (hB : Nsl w B (dgs (65536 ^ 4) v)) (hl : (dgs (65536 ^ 4) v).length ≤ 100000) (h : 18446744073709551616 ≤ v) :
    Calls Tryz.prog 79 #[.agg #[.bool false, .slice B (dgs (65536 ^ 4) v).length d]] w fun e w' => e = .returned (.tuple #[.int .i64 0, .bool false]) ∧ Below w.heap.size w w' := by
  have MM := fun W (B : Option Addr) d h => make_any false (dgs (65536 ^ 4) v) B _ d W rfl hl h (dgs_lt (by decide) v)
  rw [dv_dgs4, Bool.false_and] at MM
  have MK := Lib.hid MM; clear MM
  have SS := fun W (B : Option Addr) d h => nsmall_any (dgs (65536 ^ 4) v) B _ d W rfl hl h (dgs_lt (by decide) v)
  rw [dv_dgs4, show smallN v = (0, false) from if_neg (by omega)] at SS
  have SM := Lib.hid SS; clear SS
  skip
  go_enter Tryz.func79, Tryz.ntmps79
  go_wp2_with fail
  refine (MK.out _ B d (hB.below ((Below.refl _ _).alloc (Nat.le_refl _) _))).mono ?_
  rintro e w2 ⟨x, rfl, ⟨B2, d2, rfl, hB2, hge⟩, hb2⟩
  have hbw2 : Below w.heap.size w w2 := ((Below.refl w.heap.size w).alloc (Nat.le_refl _) (.cells #[.bool false, .slice B (dgs (65536 ^ 4) v).length d] 104)).trans (hb2.mono (by simp))
  have hblk : Blk w2 w.heap.size 104 #[.bool false, .slice B (dgs (65536 ^ 4) v).length d] := (Blk.new w _ _).below hb2 (by simp)
  have hz2 : w.heap.size + 1 ≤ w2.heap.size := by have := hb2.size; simpa using this
  have HGE : Hid (∀ a, B2 = some a → a.block ≠ w.heap.size) := fun a ha e => by have := hge a ha; simp at this; omega
  have c0 := hblk.cell 0
  have c1 := hblk.cell 1
  have f0 := hblk.frozen 0
  have f1 := hblk.frozen 1
  change w2.cell? _ = some (.bool false) at c0
  change w2.cell? _ = some (.slice B (dgs (65536 ^ 4) v).length d) at c1
  have hB3 : Nsl ((w2.setCell ⟨w.heap.size, 0, none⟩ (.bool false)).setCell ⟨w.heap.size, 1, none⟩ (.slice B2 (dgs (65536 ^ 4) v).length d2)) B2 (dgs (65536 ^ 4) v) := (hB2.set_ HGE.out _).set_ HGE.out _
  have hb3 : Below w.heap.size w ((w2.setCell ⟨w.heap.size, 0, none⟩ (.bool false)).setCell ⟨w.heap.size, 1, none⟩ (.slice B2 (dgs (65536 ^ 4) v).length d2)) := (hbw2.setCell (p := ⟨w.heap.size, 0, none⟩) (Nat.le_refl _) _).setCell (p := ⟨w.heap.size, 1, none⟩) (Nat.le_refl _) _
  have hblk3 : Blk ((w2.setCell ⟨w.heap.size, 0, none⟩ (.bool false)).setCell ⟨w.heap.size, 1, none⟩ (.slice B2 (dgs (65536 ^ 4) v).length d2)) w.heap.size 104 #[.bool false, .slice B2 (dgs (65536 ^ 4) v).length d2] := (hblk.set_ 0 _).set_ 1 _
  have HX := Lib.hid (And.intro hB3 (And.intro hb3 hblk3))
  clear hge hb2 hB3 hb3 hblk3 hbw2
  go_wp2_with fail
  refine (SM.out _ B2 d2 HX.out.1).mono ?_
  rintro e w4 ⟨rfl, hb4⟩
  have hblk4 := HX.out.2.2.below hb4 HX.out.2.2.lt
  have e0 := hblk4.cell 0
  change w4.cell? _ = some (.bool false) at e0
  have hb5 := HX.out.2.1.trans (hb4.mono HX.out.2.1.size)
  have HB5 := Lib.hid hb5
  clear hb4 hblk4 hb5 c0 c1 f0 f1 hblk
  go_wp2_with fail
  go_ret2
  exact ⟨rfl, HB5.out⟩

set_option maxRecDepth 100000 in
set_option maxHeartbeats 1000000 in
theorem small_neg (v : Nat) (B : Option Addr) (d : Nat) (w : World) (hB : Nsl w B (dgs (65536 ^ 4) v)) (hl : (dgs (65536 ^ 4) v).length ≤ 100000) (hp : 0 < v) (h : v ≤ 9223372036854775808) :
    Calls Tryz.prog 79 #[.agg #[.bool true, .slice B (dgs (65536 ^ 4) v).length d]] w fun e w' => e = .returned (.tuple #[.int .i64 (-(v : Int)), .bool true]) ∧ Below w.heap.size w w' := by
  have MM := fun W (B : Option Addr) d h => make_any true (dgs (65536 ^ 4) v) B _ d W rfl hl h (dgs_lt (by decide) v)
  rw [dv_dgs4, decide_eq_true hp, Bool.true_and] at MM
  have MK := Lib.hid MM; clear MM
  have SS := fun W (B : Option Addr) d h => nsmall_any (dgs (65536 ^ 4) v) B _ d W rfl hl h (dgs_lt (by decide) v)
  rw [dv_dgs4, show smallN v = (v, true) from if_pos (by omega)] at SS
  have SM := Lib.hid SS; clear SS
  have h1 : (v : Int) ≤ 9223372036854775808 := by omega
  have h2 : (1 : Int) ≤ (v : Int) := by omega
  go_enter Tryz.func79, Tryz.ntmps79
  go_wp2_with fail
  refine (MK.out _ B d (hB.below ((Below.refl _ _).alloc (Nat.le_refl _) _))).mono ?_
  rintro e w2 ⟨x, rfl, ⟨B2, d2, rfl, hB2, hge⟩, hb2⟩
  have hbw2 : Below w.heap.size w w2 := ((Below.refl w.heap.size w).alloc (Nat.le_refl _) (.cells #[.bool true, .slice B (dgs (65536 ^ 4) v).length d] 104)).trans (hb2.mono (by simp))
  have hblk : Blk w2 w.heap.size 104 #[.bool true, .slice B (dgs (65536 ^ 4) v).length d] := (Blk.new w _ _).below hb2 (by simp)
  have hz2 : w.heap.size + 1 ≤ w2.heap.size := by have := hb2.size; simpa using this
  have HGE : Hid (∀ a, B2 = some a → a.block ≠ w.heap.size) := fun a ha e => by have := hge a ha; simp at this; omega
  have c0 := hblk.cell 0
  have c1 := hblk.cell 1
  have f0 := hblk.frozen 0
  have f1 := hblk.frozen 1
  change w2.cell? _ = some (.bool true) at c0
  change w2.cell? _ = some (.slice B (dgs (65536 ^ 4) v).length d) at c1
  have hB3 : Nsl ((w2.setCell ⟨w.heap.size, 0, none⟩ (.bool true)).setCell ⟨w.heap.size, 1, none⟩ (.slice B2 (dgs (65536 ^ 4) v).length d2)) B2 (dgs (65536 ^ 4) v) := (hB2.set_ HGE.out _).set_ HGE.out _
  have hb3 : Below w.heap.size w ((w2.setCell ⟨w.heap.size, 0, none⟩ (.bool true)).setCell ⟨w.heap.size, 1, none⟩ (.slice B2 (dgs (65536 ^ 4) v).length d2)) := (hbw2.setCell (p := ⟨w.heap.size, 0, none⟩) (Nat.le_refl _) _).setCell (p := ⟨w.heap.size, 1, none⟩) (Nat.le_refl _) _
  have hblk3 : Blk ((w2.setCell ⟨w.heap.size, 0, none⟩ (.bool true)).setCell ⟨w.heap.size, 1, none⟩ (.slice B2 (dgs (65536 ^ 4) v).length d2)) w.heap.size 104 #[.bool true, .slice B2 (dgs (65536 ^ 4) v).length d2] := (hblk.set_ 0 _).set_ 1 _
  have HX := Lib.hid (And.intro hB3 (And.intro hb3 hblk3))
  clear hge hb2 hB3 hb3 hblk3 hbw2
  go_wp2_with fail
  refine (SM.out _ B2 d2 HX.out.1).mono ?_
  rintro e w4 ⟨rfl, hb4⟩
  have hblk4 := HX.out.2.2.below hb4 HX.out.2.2.lt
  have e0 := hblk4.cell 0
  change w4.cell? _ = some (.bool true) at e0
  have hb5 := HX.out.2.1.trans (hb4.mono HX.out.2.1.size)
  have HB5 := Lib.hid hb5
  clear hb4 hblk4 hb5 c0 c1 f0 f1 hblk
  go_wp2_with fail
  go_ret2
  exact ⟨ret_pair (a := -((v : Int) - 1) - 1) (by omega), HB5.out⟩

set_option maxRecDepth 100000 in
set_option maxHeartbeats 1000000 in
theorem small_neg_long (v : Nat) (B : Option Addr) (d : Nat) (w : World) (hB : Nsl w B (dgs (65536 ^ 4) v)) (hl : (dgs (65536 ^ 4) v).length ≤ 100000) (hp : 0 < v) (h : 9223372036854775808 < v) (h2 : v < 18446744073709551616) :
    Calls Tryz.prog 79 #[.agg #[.bool true, .slice B (dgs (65536 ^ 4) v).length d]] w fun e w' => e = .returned (.tuple #[.int .i64 0, .bool false]) ∧ Below w.heap.size w w' := by
  have MM := fun W (B : Option Addr) d h => make_any true (dgs (65536 ^ 4) v) B _ d W rfl hl h (dgs_lt (by decide) v)
  rw [dv_dgs4, decide_eq_true hp, Bool.true_and] at MM
  have MK := Lib.hid MM; clear MM
  have SS := fun W (B : Option Addr) d h => nsmall_any (dgs (65536 ^ 4) v) B _ d W rfl hl h (dgs_lt (by decide) v)
  rw [dv_dgs4, show smallN v = (v, true) from if_pos (by omega)] at SS
  have SM := Lib.hid SS; clear SS
  have h1 : (9223372036854775808 : Int) < (v : Int) := by omega
  go_enter Tryz.func79, Tryz.ntmps79
  go_wp2_with fail
  refine (MK.out _ B d (hB.below ((Below.refl _ _).alloc (Nat.le_refl _) _))).mono ?_
  rintro e w2 ⟨x, rfl, ⟨B2, d2, rfl, hB2, hge⟩, hb2⟩
  have hbw2 : Below w.heap.size w w2 := ((Below.refl w.heap.size w).alloc (Nat.le_refl _) (.cells #[.bool true, .slice B (dgs (65536 ^ 4) v).length d] 104)).trans (hb2.mono (by simp))
  have hblk : Blk w2 w.heap.size 104 #[.bool true, .slice B (dgs (65536 ^ 4) v).length d] := (Blk.new w _ _).below hb2 (by simp)
  have hz2 : w.heap.size + 1 ≤ w2.heap.size := by have := hb2.size; simpa using this
  have HGE : Hid (∀ a, B2 = some a → a.block ≠ w.heap.size) := fun a ha e => by have := hge a ha; simp at this; omega
  have c0 := hblk.cell 0
  have c1 := hblk.cell 1
  have f0 := hblk.frozen 0
  have f1 := hblk.frozen 1
  change w2.cell? _ = some (.bool true) at c0
  change w2.cell? _ = some (.slice B (dgs (65536 ^ 4) v).length d) at c1
  have hB3 : Nsl ((w2.setCell ⟨w.heap.size, 0, none⟩ (.bool true)).setCell ⟨w.heap.size, 1, none⟩ (.slice B2 (dgs (65536 ^ 4) v).length d2)) B2 (dgs (65536 ^ 4) v) := (hB2.set_ HGE.out _).set_ HGE.out _
  have hb3 : Below w.heap.size w ((w2.setCell ⟨w.heap.size, 0, none⟩ (.bool true)).setCell ⟨w.heap.size, 1, none⟩ (.slice B2 (dgs (65536 ^ 4) v).length d2)) := (hbw2.setCell (p := ⟨w.heap.size, 0, none⟩) (Nat.le_refl _) _).setCell (p := ⟨w.heap.size, 1, none⟩) (Nat.le_refl _) _
  have hblk3 : Blk ((w2.setCell ⟨w.heap.size, 0, none⟩ (.bool true)).setCell ⟨w.heap.size, 1, none⟩ (.slice B2 (dgs (65536 ^ 4) v).length d2)) w.heap.size 104 #[.bool true, .slice B2 (dgs (65536 ^ 4) v).length d2] := (hblk.set_ 0 _).set_ 1 _
  have HX := Lib.hid (And.intro hB3 (And.intro hb3 hblk3))
  clear hge hb2 hB3 hb3 hblk3 hbw2
  go_wp2_with fail
  refine (SM.out _ B2 d2 HX.out.1).mono ?_
  rintro e w4 ⟨rfl, hb4⟩
  have hblk4 := HX.out.2.2.below hb4 HX.out.2.2.lt
  have e0 := hblk4.cell 0
  change w4.cell? _ = some (.bool true) at e0
  have hb5 := HX.out.2.1.trans (hb4.mono HX.out.2.1.size)
  have HB5 := Lib.hid hb5
  clear hb4 hblk4 hb5 c0 c1 f0 f1 hblk
  go_wp2_with fail
  go_ret2
  exact ⟨rfl, HB5.out⟩

set_option maxRecDepth 100000 in
set_option maxHeartbeats 1000000 in
theorem small_neg_great (v : Nat) (B : Option Addr) (d : Nat) (w : World) (hB : Nsl w B (dgs (65536 ^ 4) v)) (hl : (dgs (65536 ^ 4) v).length ≤ 100000) (hp : 0 < v) (h : 18446744073709551616 ≤ v) :
    Calls Tryz.prog 79 #[.agg #[.bool true, .slice B (dgs (65536 ^ 4) v).length d]] w fun e w' => e = .returned (.tuple #[.int .i64 0, .bool false]) ∧ Below w.heap.size w w' := by
  have MM := fun W (B : Option Addr) d h => make_any true (dgs (65536 ^ 4) v) B _ d W rfl hl h (dgs_lt (by decide) v)
  rw [dv_dgs4, decide_eq_true hp, Bool.true_and] at MM
  have MK := Lib.hid MM; clear MM
  have SS := fun W (B : Option Addr) d h => nsmall_any (dgs (65536 ^ 4) v) B _ d W rfl hl h (dgs_lt (by decide) v)
  rw [dv_dgs4, show smallN v = (0, false) from if_neg (by omega)] at SS
  have SM := Lib.hid SS; clear SS
  skip
  go_enter Tryz.func79, Tryz.ntmps79
  go_wp2_with fail
  refine (MK.out _ B d (hB.below ((Below.refl _ _).alloc (Nat.le_refl _) _))).mono ?_
  rintro e w2 ⟨x, rfl, ⟨B2, d2, rfl, hB2, hge⟩, hb2⟩
  have hbw2 : Below w.heap.size w w2 := ((Below.refl w.heap.size w).alloc (Nat.le_refl _) (.cells #[.bool true, .slice B (dgs (65536 ^ 4) v).length d] 104)).trans (hb2.mono (by simp))
  have hblk : Blk w2 w.heap.size 104 #[.bool true, .slice B (dgs (65536 ^ 4) v).length d] := (Blk.new w _ _).below hb2 (by simp)
  have hz2 : w.heap.size + 1 ≤ w2.heap.size := by have := hb2.size; simpa using this
  have HGE : Hid (∀ a, B2 = some a → a.block ≠ w.heap.size) := fun a ha e => by have := hge a ha; simp at this; omega
  have c0 := hblk.cell 0
  have c1 := hblk.cell 1
  have f0 := hblk.frozen 0
  have f1 := hblk.frozen 1
  change w2.cell? _ = some (.bool true) at c0
  change w2.cell? _ = some (.slice B (dgs (65536 ^ 4) v).length d) at c1
  have hB3 : Nsl ((w2.setCell ⟨w.heap.size, 0, none⟩ (.bool true)).setCell ⟨w.heap.size, 1, none⟩ (.slice B2 (dgs (65536 ^ 4) v).length d2)) B2 (dgs (65536 ^ 4) v) := (hB2.set_ HGE.out _).set_ HGE.out _
  have hb3 : Below w.heap.size w ((w2.setCell ⟨w.heap.size, 0, none⟩ (.bool true)).setCell ⟨w.heap.size, 1, none⟩ (.slice B2 (dgs (65536 ^ 4) v).length d2)) := (hbw2.setCell (p := ⟨w.heap.size, 0, none⟩) (Nat.le_refl _) _).setCell (p := ⟨w.heap.size, 1, none⟩) (Nat.le_refl _) _
  have hblk3 : Blk ((w2.setCell ⟨w.heap.size, 0, none⟩ (.bool true)).setCell ⟨w.heap.size, 1, none⟩ (.slice B2 (dgs (65536 ^ 4) v).length d2)) w.heap.size 104 #[.bool true, .slice B2 (dgs (65536 ^ 4) v).length d2] := (hblk.set_ 0 _).set_ 1 _
  have HX := Lib.hid (And.intro hB3 (And.intro hb3 hblk3))
  clear hge hb2 hB3 hb3 hblk3 hbw2
  go_wp2_with fail
  refine (SM.out _ B2 d2 HX.out.1).mono ?_
  rintro e w4 ⟨rfl, hb4⟩
  have hblk4 := HX.out.2.2.below hb4 HX.out.2.2.lt
  have e0 := hblk4.cell 0
  change w4.cell? _ = some (.bool true) at e0
  have hb5 := HX.out.2.1.trans (hb4.mono HX.out.2.1.size)
  have HB5 := Lib.hid hb5
  clear hb4 hblk4 hb5 c0 c1 f0 f1 hblk
  go_wp2_with fail
  go_ret2
  exact ⟨rfl, HB5.out⟩
end

/-! The reference's run is the program's, in plain Lean. No program in sight. -/
section
open Go

theorem read4_ok (l : List UInt8) : (read4 l).1 = 0 ↔ canon l := by
  unfold read4
  by_cases h0 : l = []
  · rw [if_pos h0]
    exact ⟨fun h => absurd h (by decide), fun h => absurd h0 h.2.1⟩
  rw [if_neg h0]
  by_cases h1 : l.all digB = false
  · rw [if_pos h1]
    exact ⟨fun h => absurd h (by decide), fun h => by rw [h.1] at h1; cases h1⟩
  rw [if_neg h1]
  by_cases h2 : l.head? = some 48 ∧ 1 < l.length
  · rw [if_pos h2]
    refine ⟨fun h => absurd h (by decide), fun h => ?_⟩
    rcases h.2.2 with h3 | h3
    · rw [h3] at h2; exact absurd h2.2 (by decide)
    · exact absurd h2.1 h3
  rw [if_neg h2]
  refine ⟨fun _ => ⟨by simpa using h1, h0, ?_⟩, fun _ => rfl⟩
  by_cases h3 : l.head? = some 48
  · left
    have h4 : ¬ 1 < l.length := fun h => h2 ⟨h3, h⟩
    cases l with
    | nil => exact absurd rfl h0
    | cons c r =>
      have : r = [] := by
        rw [List.length_cons] at h4
        exact List.length_eq_zero_iff.1 (by omega)
      subst this
      rw [Option.some.inj h3]
  · exact .inr h3
theorem read4_val (l : List UInt8) (h : canon l) : (read4 l).2 = decVal 0 l := by
  have h1 := (read4_ok l).2 h
  unfold read4 at h1 ⊢
  by_cases h0 : l = []
  · exact absurd h0 h.2.1
  rw [if_neg h0] at h1 ⊢
  by_cases h2 : l.all digB = false
  · rw [h.1] at h2; cases h2
  rw [if_neg h2] at h1 ⊢
  by_cases h3 : l.head? = some 48 ∧ 1 < l.length
  · rw [if_pos h3] at h1; exact absurd h1 (by decide)
  rw [if_neg h3]
/-- The mark of a number, as the reference reads it. -/
def refNum (l : List UInt8) : Got :=
  if (read5 l).1 ≠ 0 then bad 3
  else if (read5 l).2.1 = true then (if (read5 l).2.2 ≤ 9223372036854775808 then ((8, -((read5 l).2.2 : Int), []), 0) else bad 5)
  else (if (read5 l).2.2 ≤ 9223372036854775807 then ((8, ((read5 l).2.2 : Int), []), 0) else bad 5)
theorem canon_head (d : List UInt8) (h : canon d) : d.head? ≠ some 45 := by
  cases d with
  | nil => exact absurd rfl h.2.1
  | cons c r =>
    intro e
    have hc := h.1
    simp only [List.all_cons, Bool.and_eq_true] at hc
    rw [Option.some.inj e] at hc
    exact absurd hc.1 (by decide)
theorem refNum_eq (l : List UInt8) : refNum l = lexNum l := by
  by_cases hf : numForm l = true
  · rcases (numForm_iff l).1 hf with hc | ⟨d, rfl, hc, h0⟩
    · have hr : read5 l = (0, false, decVal 0 l) := by
        rw [read5, if_neg (canon_head l hc), if_neg (by simp [(read4_ok l).2 hc]), read4_val l hc]
      rw [refNum, hr, if_neg (by simp), if_neg (by simp), lexNum, if_pos hf, parse_plain l hc]
      show (if decVal 0 l ≤ 9223372036854775807 then _ else _) = _
      generalize decVal 0 l = v
      by_cases hv : v < 9223372036854775808
      · rw [if_pos (by omega), if_pos hv]
      · rw [if_neg (by omega), if_neg hv]
    · have hp : 0 < decVal 0 d := dec_pos d hc.1 hc.2.1 (hc.2.2.resolve_left h0)
      have hr : read5 (45 :: d) = (0, true, decVal 0 d) := by
        rw [read5, if_pos (show (45 :: d).head? = some 45 from rfl), List.drop_one, List.tail_cons, if_neg (by simp [(read4_ok d).2 hc]), read4_val d hc, if_neg (by omega)]
      rw [refNum, hr, if_neg (by simp), if_pos rfl, lexNum, if_pos hf, parse_minus d hc]
      show (if decVal 0 d ≤ 9223372036854775808 then _ else _) = _
      generalize decVal 0 d = v
      by_cases hv : v ≤ 9223372036854775808
      · rw [if_pos hv, if_pos hv]
      · rw [if_neg hv, if_neg hv]
  · have hn : (read5 l).1 ≠ 0 := by
      intro h
      apply hf
      rw [numForm_iff]
      unfold read5 at h
      by_cases hh : l.head? = some 45
      · rw [if_pos hh] at h
        right
        cases l with
        | nil => cases hh
        | cons c r =>
          obtain rfl : c = 45 := Option.some.inj hh
          rw [List.drop_one, List.tail_cons] at h
          by_cases h1 : (read4 r).1 ≠ 0
          · rw [if_pos h1] at h; exact absurd h h1
          · rw [if_neg h1] at h
            have hc := (read4_ok r).1 (by omega)
            by_cases h2 : (read4 r).2 = 0
            · rw [if_pos h2] at h; exact absurd h (by decide)
            · refine ⟨r, rfl, hc, fun e => h2 ?_⟩
              rw [read4_val r hc, e]
              decide
      · rw [if_neg hh] at h
        left
        by_cases h1 : (read4 l).1 ≠ 0
        · rw [if_pos h1] at h; exact absurd h h1
        · exact (read4_ok l).1 (by omega)
    rw [refNum, if_pos hn, lexNum, if_neg hf]
/-- The mark of a run, as the reference tells it. -/
def refRun (l : List UInt8) : Got :=
  if l.length = 1 ∧ brB (l.headD 0) = true then ((brK (l.headD 0), 0, []), 0)
  else if letB (l.headD 0) = true then (if l.all letB = true then ((7, 0, l), 0) else bad 3)
  else if (digB (l.headD 0) || l.headD 0 == 45) = true then refNum l
  else if (l.headD 0 == 35) = true then (if (l.drop 1).all bitB = true then (if isB (l.drop 1) = true then ((9, 0, l.drop 1), 0) else bad 5) else bad 3)
  else bad 3
theorem refRun_eq {x t : List UInt8} (h : Cut x t) : refRun x = lexRun x := by
  unfold refRun lexRun
  by_cases h1 : brB (x.headD 0) = true
  · have hl : x.length = 1 := by
      rcases h.run with ⟨_, hl⟩ | ⟨k, _⟩
      · exact hl
      · cases x with
        | nil => exact absurd rfl h.ne
        | cons b r =>
          have := go_br (k b (by simp))
          change brB b = true at h1
          rw [this] at h1; cases h1
    rw [if_pos ⟨hl, h1⟩, if_pos h1]
  rw [if_neg (fun e => h1 e.2), if_neg h1]
  cases x with
  | nil => exact absurd rfl h.ne
  | cons b r =>
    show (if letB b = true then _ else _) = _
    by_cases h2 : letB b = true
    · rw [if_pos h2]
      by_cases h3 : (b :: r).all letB = true
      · rw [if_pos h3, if_pos (by unfold lettersB; rw [h3]; rfl)]
      · obtain ⟨g1, g2, g3, g4⟩ := let_go h2
        have hlf : lettersB (b :: r) = false := by unfold lettersB; rw [show (b :: r).all letB = false by simpa using h3]; rfl
        rw [if_neg h3, hlf, if_neg (show ¬ false = true by decide)]
        rw [if_neg (show ¬ ((b :: r).headD 0 == 45 || digB ((b :: r).headD 0)) = true by show ¬ (b == 45 || digB b) = true; rw [g2]; simp [g3]), if_neg (show ¬ ((b :: r).headD 0 == 35) = true by show ¬ (b == 35) = true; simp [g4])]
    · have hlf : lettersB (b :: r) = false := by unfold lettersB; rw [List.all_cons, show letB b = false by simpa using h2]; rfl
      rw [if_neg h2, hlf, if_neg (show ¬ false = true by decide)]
      show (if (digB b || b == 45) = true then _ else _) = (if (b == 45 || digB b) = true then _ else _)
      rw [Bool.or_comm]
      by_cases h3 : (b == 45 || digB b) = true
      · rw [if_pos h3, if_pos h3, refNum_eq]
      · rw [if_neg h3, if_neg h3]
        show (if (b == 35) = true then _ else _) = (if (b == 35) = true then _ else _)
        by_cases h4 : (b == 35) = true
        · rw [if_pos h4, if_pos h4]
          unfold lexRow
          by_cases h5 : ((b :: r).drop 1).all bitB = true
          · rw [if_pos h5, if_pos h5]
            by_cases h6 : ((b :: r).drop 1).length ≤ 1024
            · rw [if_pos h6, if_pos ((isB_iff _).2 ⟨h6, h5⟩)]
            · rw [if_neg h6, if_neg (fun e => h6 ((isB_iff _).1 e).1)]
          · rw [if_neg h5, if_neg h5]
        · rw [if_neg h4, if_neg h4]
end

/-! The walks of the reference's small questions on bytes: bracket, blank, letter, digit; Is (bits). -/
section
open Go.RowKit

theorem ne_byte {b : UInt8} (n : Nat) (hn : n < 256) (h : ¬ b.toNat = n) : (((n : Nat) : Int) == (b.toNat : Int)) = false := beq_eq_false_iff_ne.2 (by omega)
set_option maxRecDepth 100000 in
set_option maxHeartbeats 1000000 in
theorem rbracket_any (b : UInt8) (w : World) : Calls Tryz.prog 53 #[.int .u8 b.toNat] w fun e w' => e = .returned (.int .u8 (brK b : Nat)) ∧ w = w' := by
  obtain ⟨q, hq⟩ : ∃ q, q = brK b := ⟨_, rfl⟩
  rw [← hq]
  by_cases h1 : b = 40
  · subst h1; obtain rfl : q = 1 := hq
    go_enter Tryz.func53, Tryz.ntmps53
    go_wp2_with fail
    go_rounds 7
    go_ret
    exact ⟨rfl, rfl⟩
  by_cases h2 : b = 41
  · subst h2; obtain rfl : q = 2 := hq
    go_enter Tryz.func53, Tryz.ntmps53
    go_wp2_with fail
    go_rounds 7
    go_ret
    exact ⟨rfl, rfl⟩
  by_cases h3 : b = 91
  · subst h3; obtain rfl : q = 3 := hq
    go_enter Tryz.func53, Tryz.ntmps53
    go_wp2_with fail
    go_rounds 7
    go_ret
    exact ⟨rfl, rfl⟩
  by_cases h4 : b = 93
  · subst h4; obtain rfl : q = 4 := hq
    go_enter Tryz.func53, Tryz.ntmps53
    go_wp2_with fail
    go_rounds 7
    go_ret
    exact ⟨rfl, rfl⟩
  by_cases h5 : b = 60
  · subst h5; obtain rfl : q = 5 := hq
    go_enter Tryz.func53, Tryz.ntmps53
    go_wp2_with fail
    go_rounds 7
    go_ret
    exact ⟨rfl, rfl⟩
  by_cases h6 : b = 62
  · subst h6; obtain rfl : q = 6 := hq
    go_enter Tryz.func53, Tryz.ntmps53
    go_wp2_with fail
    go_rounds 7
    go_ret
    exact ⟨rfl, rfl⟩
  obtain rfl : q = 0 := by rw [hq]; simp [brK, h1, h2, h3, h4, h5, h6]
  have k1 : ((40 : Int) == (b.toNat : Int)) = false := beq_eq_false_iff_ne.2 fun e => h1 (UInt8.toNat_inj.1 (show b.toNat = 40 by omega))
  have k2 : ((41 : Int) == (b.toNat : Int)) = false := beq_eq_false_iff_ne.2 fun e => h2 (UInt8.toNat_inj.1 (show b.toNat = 41 by omega))
  have k3 : ((91 : Int) == (b.toNat : Int)) = false := beq_eq_false_iff_ne.2 fun e => h3 (UInt8.toNat_inj.1 (show b.toNat = 91 by omega))
  have k4 : ((93 : Int) == (b.toNat : Int)) = false := beq_eq_false_iff_ne.2 fun e => h4 (UInt8.toNat_inj.1 (show b.toNat = 93 by omega))
  have k5 : ((60 : Int) == (b.toNat : Int)) = false := beq_eq_false_iff_ne.2 fun e => h5 (UInt8.toNat_inj.1 (show b.toNat = 60 by omega))
  have k6 : ((62 : Int) == (b.toNat : Int)) = false := beq_eq_false_iff_ne.2 fun e => h6 (UInt8.toNat_inj.1 (show b.toNat = 62 by omega))
  have e0 : ((⟨#[40, 41, 91, 93, 60, 62]⟩ : ByteArray)[0]'(by decide)).toNat = 40 := rfl
  have e1 : ((⟨#[40, 41, 91, 93, 60, 62]⟩ : ByteArray)[1]'(by decide)).toNat = 41 := rfl
  have e2 : ((⟨#[40, 41, 91, 93, 60, 62]⟩ : ByteArray)[2]'(by decide)).toNat = 91 := rfl
  have e3 : ((⟨#[40, 41, 91, 93, 60, 62]⟩ : ByteArray)[3]'(by decide)).toNat = 93 := rfl
  have e4 : ((⟨#[40, 41, 91, 93, 60, 62]⟩ : ByteArray)[4]'(by decide)).toNat = 60 := rfl
  have e5 : ((⟨#[40, 41, 91, 93, 60, 62]⟩ : ByteArray)[5]'(by decide)).toNat = 62 := rfl
  clear hq h1 h2 h3 h4 h5 h6
  go_enter Tryz.func53, Tryz.ntmps53
  go_wp2_with fail
  go_rounds 7
  go_ret
  exact ⟨rfl, rfl⟩

theorem rblank_any (b : UInt8) (w : World) (q : Bool) (hq : blankB b = q) : Calls Tryz.prog 52 #[.int .u8 b.toNat] w fun e w' => e = .returned (.bool q) ∧ w = w' := by
  by_cases h1 : b = 32
  · subst h1; obtain rfl : q = true := hq.symm
    go_enter Tryz.func52, Tryz.ntmps52
    go_wp2
    go_ret
    exact ⟨rfl, rfl⟩
  by_cases h2 : b = 10
  · subst h2; obtain rfl : q = true := hq.symm
    go_enter Tryz.func52, Tryz.ntmps52
    go_wp2
    go_ret
    exact ⟨rfl, rfl⟩
  obtain rfl : q = false := by rw [← hq]; simp [blankB, h1, h2]
  have k1 : ((b.toNat : Int) == 32) = false := beq_eq_false_iff_ne.2 fun e => h1 (UInt8.toNat_inj.1 (show b.toNat = 32 by omega))
  have k2 : ((b.toNat : Int) == 10) = false := beq_eq_false_iff_ne.2 fun e => h2 (UInt8.toNat_inj.1 (show b.toNat = 10 by omega))
  clear hq h1 h2
  go_enter Tryz.func52, Tryz.ntmps52
  go_wp2
  go_ret
  exact ⟨rfl, rfl⟩

theorem rletter_any (b : UInt8) (w : World) (q : Bool) (hq : letB b = q) : Calls Tryz.prog 76 #[.int .u8 b.toNat] w fun e w' => e = .returned (.bool q) ∧ w = w' := by
  rcases (by omega : b.toNat < 97 ∨ 122 < b.toNat ∨ (97 ≤ b.toNat ∧ b.toNat ≤ 122)) with h | h | h
  · obtain rfl : q = false := by rw [← hq]; exact letB_no b (.inl (by omega))
    have k1 : (b.toNat : Int) < 97 := by omega
    clear hq
    go_enter Tryz.func76, Tryz.ntmps76
    go_wp2
    go_ret
    exact ⟨rfl, rfl⟩
  · obtain rfl : q = false := by rw [← hq]; exact letB_no b (.inr (by omega))
    have k1 : (122 : Int) < (b.toNat : Int) := by omega
    have k2 : (97 : Int) ≤ (b.toNat : Int) := by omega
    clear hq
    go_enter Tryz.func76, Tryz.ntmps76
    go_wp2
    go_ret
    exact ⟨ret_bool (a := decide ((b.toNat : Int) ≤ 122)) (decide_eq_false (by omega)), rfl⟩
  · obtain rfl : q = true := by rw [← hq]; exact letB_yes b (by omega)
    have k1 : (b.toNat : Int) ≤ 122 := by omega
    have k2 : (97 : Int) ≤ (b.toNat : Int) := by omega
    clear hq
    go_enter Tryz.func76, Tryz.ntmps76
    go_wp2
    go_ret
    exact ⟨rfl, rfl⟩
theorem rdigit_any (b : UInt8) (w : World) (q : Bool) (hq : digB b = q) : Calls Tryz.prog 77 #[.int .u8 b.toNat] w fun e w' => e = .returned (.bool q) ∧ w = w' := by
  rcases (by omega : b.toNat < 48 ∨ 57 < b.toNat ∨ (48 ≤ b.toNat ∧ b.toNat ≤ 57)) with h | h | h
  · obtain rfl : q = false := by rw [← hq]; exact digB_no b (.inl (by omega))
    have k1 : (b.toNat : Int) < 48 := by omega
    clear hq
    go_enter Tryz.func77, Tryz.ntmps77
    go_wp2
    go_ret
    exact ⟨rfl, rfl⟩
  · obtain rfl : q = false := by rw [← hq]; exact digB_no b (.inr (by omega))
    have k1 : (57 : Int) < (b.toNat : Int) := by omega
    have k2 : (48 : Int) ≤ (b.toNat : Int) := by omega
    clear hq
    go_enter Tryz.func77, Tryz.ntmps77
    go_wp2
    go_ret
    exact ⟨ret_bool (a := decide ((b.toNat : Int) ≤ 57)) (decide_eq_false (by omega)), rfl⟩
  · obtain rfl : q = true := by rw [← hq]; exact digB_yes b (by omega)
    have k1 : (b.toNat : Int) ≤ 57 := by omega
    have k2 : (48 : Int) ≤ (b.toNat : Int) := by omega
    clear hq
    go_enter Tryz.func77, Tryz.ntmps77
    go_wp2
    go_ret
    exact ⟨rfl, rfl⟩

theorem bit_cases {b : UInt8} (h : bitB b = true) : ((b.toNat : Int) != 48) = false ∨ (((b.toNat : Int) != 48) = true ∧ ((b.toNat : Int) != 49) = false) := by
  simp only [bitB, Bool.or_eq_true, beq_iff_eq] at h
  rcases h with rfl | rfl
  · exact .inl (by decide)
  · exact .inr ⟨by decide, by decide⟩
theorem bit_not {b : UInt8} (h : bitB b = false) : ((b.toNat : Int) != 48) = true ∧ ((b.toNat : Int) != 49) = true := by
  simp only [bitB, Bool.or_eq_false_iff, beq_eq_false_iff_ne, ne_eq] at h
  exact ⟨bne_iff_ne.2 fun e => h.1 (UInt8.toNat_inj.1 (show b.toNat = 48 by omega)), bne_iff_ne.2 fun e => h.2 (UInt8.toNat_inj.1 (show b.toNat = 49 by omega))⟩
set_option maxRecDepth 100000 in
set_option maxHeartbeats 1000000 in
theorem ris_any (s : ByteArray) (w : World) (hs : s.size ≤ maxLen) (q : Bool) (hq : isB s.data.toList = q) : Calls Tryz.prog 80 #[.string s] w fun e w' => e = .returned (.bool q) ∧ w = w' := by
  unfold maxLen at hs
  have hl : s.data.toList.length = s.size := by simp
  have HQ := Lib.hid hq; clear hq
  have HL := Lib.hid hl; clear hl
  by_cases h : 1024 < s.size
  · obtain rfl : q = false := by
      rw [← HQ.out]
      cases hb : isB s.data.toList
      · rfl
      · have := ((isB_iff _).1 hb).1; rw [HL.out] at this; omega
    go_enter Tryz.func80, Tryz.ntmps80
    go_wp2
    go_ret
    exact ⟨rfl, rfl⟩
  · go_enter Tryz.func80, Tryz.ntmps80
    go_wp2
    go_loop [3] (fun i => ∃ k : Nat, k ≤ s.size ∧ i = .int .i64 k ∧ Hid ((s.data.toList.take k).all bitB = true)) (fun i => s.size - (intOf i).toNat)
    case atStart => exact ⟨0, Nat.zero_le _, rfl, rfl⟩
    case round =>
      obtain ⟨k, hk, rfl, HA⟩ := hrel
      by_cases hlt : k < s.size
      · cases hb : bitB s[k] with
        | true =>
          rcases bit_cases hb with hc | ⟨hc, hc2⟩
          all_goals
            go_wp2
            go_round
            case rel => exact ⟨k + 1, by omega, by go_num, all_take_succ bitB s k hlt HA.out hb⟩
            case measure => simp [intOf] <;> omega
        | false =>
          obtain ⟨hc, hc2⟩ := bit_not hb
          obtain rfl : q = false := by
            rw [← HQ.out]
            cases hi : isB s.data.toList
            · rfl
            · have := ((isB_iff _).1 hi).2
              rw [all_bad bitB s k hlt hb] at this
              cases this
          go_wp2
          go_ret
          exact ⟨rfl, rfl⟩
      · obtain rfl : k = s.size := by omega
        obtain rfl : q = true := by
          rw [← HQ.out]
          exact (isB_iff _).2 ⟨by rw [HL.out]; omega, all_done bitB s HA.out⟩
        go_wp2
        go_ret
        exact ⟨rfl, rfl⟩
end

/-! The walk of the reference's run: brackets and words. -/
section
open Go.RowKit

/-- What run returns. -/
def RunR (w : World) (g : Got) (e : Ending) (w' : World) : Prop :=
  e = .returned (.tuple #[.agg #[.int .u8 g.1.1, .int .i64 0, .int .i64 0, .int .i64 g.1.2.1, .string (bs g.1.2.2)], .int .i64 g.2]) ∧ Below w.heap.size w w'
theorem nothing : bs [] = ⟨#[]⟩ := rfl

set_option maxRecDepth 100000 in
set_option maxHeartbeats 1000000 in
theorem run_bracket (s : ByteArray) (w : World) (h1 : s.size = 1) (hb : brB (s[0]'(by omega)) = true) :
    Calls Tryz.prog 54 #[.string s] w (RunR w ((brK (s[0]'(by omega)), 0, []), 0)) := by
  have hp : 0 < s.size := by omega
  have hk : 0 < brK s[0] := of_decide_eq_true hb
  have hk6 := brK_le s[0]
  have hs1 : ((s.size : Int) == 1) = true := beq_iff_eq.2 (by omega)
  have BB := fun W => rbracket_any s[0] W
  generalize brK s[0] = q at *
  have HB := Lib.hid BB
  clear BB hb
  have hq : (0 : Int) < (q : Int) := by omega
  have hq2 : (q : Int) ≤ 6 := by omega
  have H1 := Lib.hid h1; clear h1
  unfold RunR
  go_enter Tryz.func54, Tryz.ntmps54
  go_wp2_with (go_at_call 53; refine (HB.out _).mono ?_; rintro e w' ⟨rfl, rfl⟩)
  refine bodyPost_ret (v := .tuple #[.agg #[.int .u8 q, .int .i64 0, .int .i64 0, .int .i64 0, .string ⟨#[]⟩], .int .i64 0]) (by simp [results, Tryz.results54, go_sem]) rfl ⟨rfl, (Below.refl _ _).alloc (Nat.le_refl _) _⟩

/-- The first question of run is answered by no. -/
def NoBr (s : ByteArray) : Prop := ∃ h : 0 < s.size, ((s.size : Int) == 1) = false ∨ (((s.size : Int) == 1) = true ∧ brK s[0] = 0)
theorem run_front {s : ByteArray} (h : NoBr s) : ∃ h0 : 0 < s.size, ((s.size : Int) == 1) = false ∨ (((s.size : Int) == 1) = true ∧ ∀ W, Calls Tryz.prog 53 #[.int .u8 (s[0].toNat : Nat)] W fun e w' => e = .returned (.int .u8 0) ∧ W = w') := by
  obtain ⟨h0, h1⟩ := h
  refine ⟨h0, h1.imp id fun k => ⟨k.1, fun W => ?_⟩⟩
  have := rbracket_any s[0] W
  rw [k.2] at this
  exact this

set_option maxRecDepth 100000 in
set_option maxHeartbeats 1000000 in
theorem run_word (s : ByteArray) (w : World) (hs : s.size ≤ 20000) (h : NoBr s) (hl : s.data.toList.all letB = true) :
    Calls Tryz.prog 54 #[.string s] w (RunR w ((7, 0, s.data.toList), 0)) := by
  obtain ⟨h0, hf⟩ := run_front h
  have hD : ∀ k, (hk : k < s.size) → letB s[k] = true := fun k hk => List.all_eq_true.1 hl _ (List.mem_of_getElem? (data_get s k hk))
  have hL : ∀ k, (hk : k < s.size) → ∀ W, Calls Tryz.prog 76 #[.int .u8 (s[k].toNat : Nat)] W fun e w' => e = .returned (.bool true) ∧ W = w' := fun k hk W => rletter_any s[k] W true (hD k hk)
  have HLT := Lib.hid hL
  clear hD hL h hl
  unfold RunR
  rw [bs_of]
  rcases hf with hf | ⟨hf, hbr⟩
  · go_enter Tryz.func54, Tryz.ntmps54
    go_wp2_with (go_at_call 76; refine (HLT.out 0 h0 _).mono ?_; rintro e w' ⟨rfl, rfl⟩)
    go_loop [4] (fun i => ∃ k : Nat, k ≤ s.size ∧ i = .int .i64 k) (fun i => s.size - (intOf i).toNat)
    case atStart => exact ⟨0, Nat.zero_le _, rfl⟩
    case round =>
      obtain ⟨k, hk, rfl⟩ := hrel
      by_cases hlt : k < s.size
      · go_wp2_with (go_at_call 76; refine (HLT.out k hlt _).mono ?_; rintro e w' ⟨rfl, rfl⟩)
        go_round
        case rel => exact ⟨k + 1, by omega, by go_num⟩
        case measure => simp [intOf] <;> omega
      · obtain rfl : k = s.size := by omega
        go_wp2_with fail
        refine bodyPost_ret (v := .tuple #[.agg #[.int .u8 7, .int .i64 0, .int .i64 0, .int .i64 0, .string s], .int .i64 0]) (by simp [results, Tryz.results54, go_sem]) rfl ⟨rfl, (Below.refl _ _).alloc (Nat.le_refl _) _⟩
  · have HBR := Lib.hid hbr; clear hbr
    go_enter Tryz.func54, Tryz.ntmps54
    go_wp2_with (first
      | (go_at_call 53; refine (HBR.out _).mono ?_; rintro e w' ⟨rfl, rfl⟩)
      | (go_at_call 76; refine (HLT.out 0 h0 _).mono ?_; rintro e w' ⟨rfl, rfl⟩))
    go_loop [4] (fun i => ∃ k : Nat, k ≤ s.size ∧ i = .int .i64 k) (fun i => s.size - (intOf i).toNat)
    case atStart => exact ⟨0, Nat.zero_le _, rfl⟩
    case round =>
      obtain ⟨k, hk, rfl⟩ := hrel
      by_cases hlt : k < s.size
      · go_wp2_with (go_at_call 76; refine (HLT.out k hlt _).mono ?_; rintro e w' ⟨rfl, rfl⟩)
        go_round
        case rel => exact ⟨k + 1, by omega, by go_num⟩
        case measure => simp [intOf] <;> omega
      · obtain rfl : k = s.size := by omega
        go_wp2_with fail
        refine bodyPost_ret (v := .tuple #[.agg #[.int .u8 7, .int .i64 0, .int .i64 0, .int .i64 0, .string s], .int .i64 0]) (by simp [results, Tryz.results54, go_sem]) rfl ⟨rfl, (Below.refl _ _).alloc (Nat.le_refl _) _⟩
end
end Go.Proofs.YtbhekkkijomglaaGreatDoor
