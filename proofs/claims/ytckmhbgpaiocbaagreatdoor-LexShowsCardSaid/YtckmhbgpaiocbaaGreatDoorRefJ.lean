/- The walks of the references' Join, Digits, Trim, Small (naturals). -/
import Derived.Test.YtckmhbgpaiocbaaGreatDoorRefN
namespace Go.Proofs.YtckmhbgpaiocbaaGreatDoor
open Go.RowKit

/-- Digits, from the j-th on, of the first e ones. -/
def win (ys : List Nat) (e j : Nat) : Nat := dv 65536 ((ys.take e).drop j)
theorem win_end (ys : List Nat) (e : Nat) (h : e ≤ ys.length) : win ys e e = 0 := by
  unfold win
  rw [List.drop_eq_nil_of_le (by rw [List.length_take]; omega)]
  rfl
theorem win_step (ys : List Nat) (e j y : Nat) (hj : j < e) (he : e ≤ ys.length) (hy : ys[j]? = some y) : win ys e j = y + 65536 * win ys e (j + 1) := by
  unfold win
  have hl : (ys.take e).length = e := by rw [List.length_take]; omega
  have hg : (ys.take e)[j]? = some y := by rw [List.getElem?_take, if_pos hj]; exact hy
  obtain ⟨h1, h2⟩ := List.getElem?_eq_some_iff.1 hg
  rw [List.drop_eq_getElem_cons h1, h2]
  rfl
theorem win_lt (ys : List Nat) (e j : Nat) (hlt : ∀ x ∈ ys, x < 65536) : win ys e j < 65536 ^ (e - j) := by
  unfold win
  refine Nat.lt_of_lt_of_le (dv_lt _ fun x hx => hlt x (List.mem_of_mem_take (List.mem_of_mem_drop hx))) (Nat.pow_le_pow_right (by decide) ?_)
  rw [List.length_drop, List.length_take]
  omega
theorem win_four (ys : List Nat) (k e : Nat) (he : e = min ys.length (k + 4)) : win ys e k = dv 65536 ((ys.drop k).take 4) := by
  unfold win
  congr 1
  rw [he]
  apply List.ext_getElem?
  intro i
  rw [List.getElem?_drop, List.getElem?_take, List.getElem?_take, List.getElem?_drop]
  by_cases h4 : i < 4
  · rw [if_pos h4]
    by_cases hl : k + i < ys.length
    · rw [if_pos (by omega)]
    · rw [if_neg (by omega), List.getElem?_eq_none (by omega)]
  · rw [if_neg h4, if_neg (by omega)]

set_option maxRecDepth 100000 in
set_option maxHeartbeats 2000000 in
theorem njoin_any (xs : List Nat) (A : Option Addr) (c : Nat) (w : World) (hn : xs.length ≤ 1048576) (hc : xs.length ≤ c) (hA : Nsl w A xs) (hlt : ∀ x ∈ xs, x < 65536) :
    Calls Tryz.prog 53 #[.slice A xs.length c] w fun e w' => ∃ v, e = .returned v ∧ w'.ownsRow w.heap.size 73 1 v (dgs (65536 ^ 4) (dv 65536 xs)).length (uCells (dgs (65536 ^ 4) (dv 65536 xs))) ∧ Below w.heap.size w w' := by
  obtain ⟨i0, hi, hz0, hz1, hz2⟩ := info_parts (P := Tryz.prog) (e := 73) (z := .int .u64 0) (size := 1) (bytes := 8) (by kernel_rfl)
  have HU : Tryz.prog.underlying 48 = some (.slice 73) := by kernel_rfl
  have HI := Lib.hid (And.intro hi (And.intro hz0 (And.intro hz1 (And.intro hz2 HU))))
  clear hi hz0 hz1 hz2 HU
  have CC := fun W hA => cut_any xs A c W hn hc hA hlt
  have HC := Lib.hid CC; clear CC
  have HLT := Lib.hid hlt; clear hlt
  have HP : Hid (packs 65536 (dgs 65536 (dv 65536 xs)) = dgs (65536 ^ 4) (dv 65536 xs)) := packs_dgs (by decide) _
  generalize dgs (65536 ^ 4) (dv 65536 xs) = outs at *
  go_enter Tryz.func53, Tryz.ntmps53
  go_wp2_with fail
  refine (HC.out _ hA).mono ?_
  rintro e w1 ⟨n, rfl, hnl, HN, rfl⟩
  have hy1 : Nsl w A (xs.take n) := hA.take n
  have hy2 : (xs.take n).length = n := by rw [List.length_take]; omega
  have hy3 : ∀ x ∈ xs.take n, x < 65536 := fun x hx => HLT.out x (List.mem_of_mem_take hx)
  have hy4 : packs 65536 (xs.take n) = outs := by rw [HN.out, HP.out]
  clear HP HN hA HLT HC
  generalize xs.take n = ys at *
  have HY2 := Lib.hid hy2
  have HY3 := Lib.hid hy3
  have HY4 : Hid ([] ++ packs 65536 (ys.drop 0) = outs) := by show _ = _; rw [List.nil_append, List.drop_zero]; exact hy4
  clear hy2 hy3 hy4
  go_wp2_with fail
  go_loopw [3, 4] (fun v i wr => ∃ (k : Nat) (done : List Nat), i = .int .i64 k ∧ k ≤ n + 3 ∧ done.length ≤ k ∧ wr.ownsRow w.heap.size 73 1 v done.length (uCells done) ∧ Below w.heap.size w wr ∧ Hid (done ++ packs 65536 (ys.drop k) = outs)) (fun _ i _ => n + 4 - (intOf i).toNat)
  case atStart => exact ⟨0, [], rfl, by omega, Nat.le_refl _, World.ownsRow_nil _ _ _ _, Below.refl _ _, HY4.out⟩
  case round =>
    obtain ⟨k, done, rfl, hk, hdl, hown, hbw, HS⟩ := hrel
    by_cases hlt : k < n
    · obtain ⟨e, he⟩ : ∃ e, e = min n (k + 4) := ⟨_, rfl⟩
      have hke : k < e := by omega
      have hen : e ≤ n := by omega
      have he4 : e ≤ k + 4 := by omega
      have hne : ys.drop k ≠ [] := by
        intro h
        have := congrArg List.length h
        rw [List.length_drop, HY2.out] at this
        simp at this
        omega
      have hpk := packs_cons 65536 (ys.drop k) hne
      have hw4 := win_four ys k e (by rw [HY2.out]; exact he)
      rw [← hw4, List.drop_drop] at hpk
      have hnext : (done ++ [win ys e k]) ++ packs 65536 (ys.drop (k + 4)) = outs := by rw [← HS.out, hpk, List.append_assoc]; rfl
      have HNX := Lib.hid hnext
      have HWE := Lib.hid (win_end ys e (by rw [HY2.out]; exact hen))
      clear hnext hpk hw4 hne HS
      obtain ⟨g, o, rfl, hg, hcl⟩ := hy1 (by intro h; have := HY2.out; rw [h] at this; simp at this; omega)
      have hgw := hg
      have hcw : ∀ (k x : Nat), ys[k]? = some x → wr.cell? ⟨g, o + k, none⟩ = some (.int .u64 x) := fun k x hx => by rw [hbw.cell (p := ⟨g, o + k, none⟩) hg]; exact hcl k x hx
      have HCW := Lib.hid hcw; clear hcw hcl
      have HE := Lib.hid he; clear he
      have hpw : ∀ j, k < j → win ys e j ≤ 281474976710655 := fun j hj => by
        have h1 := win_lt ys e j HY3.out
        have h2 : 65536 ^ (e - j) ≤ 65536 ^ 3 := Nat.pow_le_pow_right (by decide) (by omega)
        have h3 : (65536 : Nat) ^ 3 = 281474976710656 := by decide
        omega
      have HPW := Lib.hid hpw; clear hpw
      have hws : ∀ j y, j < e → ys[j]? = some y → win ys e j = y + 65536 * win ys e (j + 1) := fun j y h1 h2 => win_step ys e j y h1 (by rw [HY2.out]; exact hen) h2
      have HWS := Lib.hid hws; clear hws
      rcases (by omega : n ≤ k + 4 ∨ k + 4 < n) with hmin | hmin
      all_goals
        go_wp2_with fail
        go_loop [5, 6] (fun x t => ∃ j : Nat, k ≤ j ∧ j ≤ e ∧ t = .int .i64 ((j : Int) - 1) ∧ x = .int .u64 (win ys e j : Nat)) (fun _ t => (intOf t + 1).toNat)
        case atStart => exact ⟨e, by omega, Nat.le_refl _, by have := HE.out; congr 1; omega, by rw [HWE.out]; rfl⟩
        case round =>
          obtain ⟨j, hj1, hj2, rfl, rfl⟩ := hrel
          rcases (by omega : j = k ∨ k < j) with hjk | hjk
          · subst hjk
            have hexit : ¬ ((j : Int) ≤ (j : Int) - 1) := by omega
            go_wp2_with (first
              | (at_builtin; refine wpList_append_own _ rfl _ _ 48 rfl w.heap.size 73 i0 (.int .u64 0) 1 8 HI.out.2.2.2.2 HI.out.1 HI.out.2.1 HI.out.2.2.1 HI.out.2.2.2.1 rfl (by decide) _ _ _ rfl (hown.alloc _) ⟨wr.heap.size, 0, none⟩ 1 1 [.int .u64 (win ys e j : Nat)] rfl rfl ?_ ?_ ?_ ?_ ?_ ?_
                 · exact one_new _ _ _
                 · intro u hu; simp at hu; subst hu; rfl
                 · unfold maxLen; omega
                 · omega
                 · have := hbw.size; simp at this ⊢; omega
                 intro v' w3 hown' hgrow3 _
                 have hal := hown.alloc (.cells #[.int .u64 (win ys e j : Nat)] 73)
                 have hbw3 := Below.grown (hbw.alloc hbw.size (.cells #[.int .u64 (win ys e j : Nat)] 73)) hgrow3 (Nat.le_trans hbw.size (by simp)) (fun j hj => (hal.lt _ hj).1)
                 have X := Lib.hid (And.intro hown' hbw3)
                 clear hown' hbw3 hgrow3 hal))
            go_roundw
            case rel => exact ⟨j + 4, done ++ [win ys e j], by go_num, by omega, by rw [List.length_append, List.length_singleton]; omega, by rw [List.length_append, List.length_singleton, uCells_append]; exact X.out.1, X.out.2, HNX.out⟩
            case measure => simp [intOf] <;> omega
          · obtain ⟨j, rfl⟩ : ∃ i, j = i + 1 := ⟨j - 1, by omega⟩
            obtain ⟨y, hy⟩ : ∃ y, ys[j]? = some y := ⟨ys[j]'(by have := HY2.out; omega), List.getElem?_eq_getElem _⟩
            have cj := HCW.out j y hy
            have hyl := HY3.out y (List.mem_of_getElem? hy)
            have hwl := HPW.out (j + 1) hjk
            have hst := HWS.out j y (by omega) hy
            have HST := Lib.hid hst
            clear hy hst
            have jk : (k : Int) ≤ (j : Int) := by omega
            have jn : (j : Int) < (n : Int) := by omega
            generalize win ys e (j + 1) = x at *
            go_wp2_with fail
            go_round
            case rel => exact ⟨j, by omega, by omega, by first | rfl | (congr 1; omega), by rw [HST.out]; congr 1; omega⟩
            case measure => simp [intOf] <;> omega
    · have hnil : ys.drop k = [] := List.drop_eq_nil_of_le (by rw [HY2.out]; omega)
      have hfin := HS.out
      rw [hnil, packs_nil, List.append_nil] at hfin
      subst hfin
      clear hnil HS HY4
      go_wp2_with fail
      go_ret
      exact ⟨_, rfl, hown, hbw⟩
end Go.Proofs.YtckmhbgpaiocbaaGreatDoor
