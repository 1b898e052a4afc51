/- Put together: RefJ, RefD. -/
import Derived.Test.YtbhekkkijomglaaGreatDoorLexW3Z
namespace Go.Proofs.YtbhekkkijomglaaGreatDoor
/-! The walks of the references' Join, Digits, Trim, Small (naturals). -/
section
open Go.RowKit

/-- Digits, from the j-th on, of the first e ones. -/
def win (ys : List Nat) (e j : Nat) : Nat := dv 65536 ((ys.take e).drop j)
theorem win_end (ys : List Nat) (e : Nat) (h : e ≤ ys.length) : win ys e e = 0 := by
  unfold win
  rw [List.drop_eq_nil_of_le (by rw [List.length_take]; omega)]
  rfl
theorem win_step (ys : List Nat) (e j y : Nat) (hj : j < e) (he : e ≤ ys.length) (hy : ys[j]? = some y) : win ys e j = y + 65536 * win ys e (j + 1) := by
  unfold win
  have hl : (ys.take e).length = e := by rw [List.length_take]; omega
  have hg : (ys.take e)[j]? = some y := by rw [List.getElem?_take, if_pos hj]; exact hy
  obtain ⟨h1, h2⟩ := List.getElem?_eq_some_iff.1 hg
  rw [List.drop_eq_getElem_cons h1, h2]
  rfl
theorem win_lt (ys : List Nat) (e j : Nat) (hlt : ∀ x ∈ ys, x < 65536) : win ys e j < 65536 ^ (e - j) := by
  unfold win
  refine Nat.lt_of_lt_of_le (dv_lt _ fun x hx => hlt x (List.mem_of_mem_take (List.mem_of_mem_drop hx))) (Nat.pow_le_pow_right (by decide) ?_)
  rw [List.length_drop, List.length_take]
  omega
theorem win_four (ys : List Nat) (k e : Nat) (he : e = min ys.length (k + 4)) : win ys e k = dv 65536 ((ys.drop k).take 4) := by
  unfold win
  congr 1
  rw [he]
  apply List.ext_getElem?
  intro i
  rw [List.getElem?_drop, List.getElem?_take, List.getElem?_take, List.getElem?_drop]
  by_cases h4 : i < 4
  · rw [if_pos h4]
    by_cases hl : k + i < ys.length
    · rw [if_pos (by omega)]
    · rw [if_neg (by omega), List.getElem?_eq_none (by omega)]
  · rw [if_neg h4, if_neg (by omega)]

set_option maxRecDepth 100000 in
set_option maxHeartbeats 2000000 in
theorem njoin_any (xs : List Nat) (A : Option Addr) (c : Nat) (w : World) (hn : xs.length ≤ 1048576) (hc : xs.length ≤ c) (hA : Nsl w A xs) (hlt : ∀ x ∈ xs, x < 65536) :
    Calls Tryz.prog 102 #[.slice A xs.length c] w fun e w' => ∃ v, e = .returned v ∧ w'.ownsRow w.heap.size 130 1 v (dgs (65536 ^ 4) (dv 65536 xs)).length (uCells (dgs (65536 ^ 4) (dv 65536 xs))) ∧ Below w.heap.size w w' := by
  obtain ⟨i0, hi, hz0, hz1, hz2⟩ := info_parts (P := Tryz.prog) (e := 130) (z := .int .u64 0) (size := 1) (bytes := 8) (by kernel_rfl)
  have HU : Tryz.prog.underlying 102 = some (.slice 130) := by kernel_rfl
  have HI := Lib.hid (And.intro hi (And.intro hz0 (And.intro hz1 (And.intro hz2 HU))))
  clear hi hz0 hz1 hz2 HU
  have CC := fun W hA => cut_any xs A c W hn hc hA hlt
  have HC := Lib.hid CC; clear CC
  have HLT := Lib.hid hlt; clear hlt
  have HP : Hid (packs 65536 (dgs 65536 (dv 65536 xs)) = dgs (65536 ^ 4) (dv 65536 xs)) := packs_dgs (by decide) _
  generalize dgs (65536 ^ 4) (dv 65536 xs) = outs at *
  go_enter Tryz.func102, Tryz.ntmps102
  go_wp2_with fail
  refine (HC.out _ hA).mono ?_
  rintro e w1 ⟨n, rfl, hnl, HN, rfl⟩
  have hy1 : Nsl w A (xs.take n) := hA.take n
  have hy2 : (xs.take n).length = n := by rw [List.length_take]; omega
  have hy3 : ∀ x ∈ xs.take n, x < 65536 := fun x hx => HLT.out x (List.mem_of_mem_take hx)
  have hy4 : packs 65536 (xs.take n) = outs := by rw [HN.out, HP.out]
  clear HP HN hA HLT HC
  generalize xs.take n = ys at *
  have HY2 := Lib.hid hy2
  have HY3 := Lib.hid hy3
  have HY4 : Hid ([] ++ packs 65536 (ys.drop 0) = outs) := by show _ = _; rw [List.nil_append, List.drop_zero]; exact hy4
  clear hy2 hy3 hy4
  go_wp2_with fail
  go_loopw [3, 4] (fun v i wr => ∃ (k : Nat) (done : List Nat), i = .int .i64 k ∧ k ≤ n + 3 ∧ done.length ≤ k ∧ wr.ownsRow w.heap.size 130 1 v done.length (uCells done) ∧ Below w.heap.size w wr ∧ Hid (done ++ packs 65536 (ys.drop k) = outs)) (fun _ i _ => n + 4 - (intOf i).toNat)
  case atStart => exact ⟨0, [], rfl, by omega, Nat.le_refl _, World.ownsRow_nil _ _ _ _, Below.refl _ _, HY4.out⟩
  case round =>
    obtain ⟨k, done, rfl, hk, hdl, hown, hbw, HS⟩ := hrel
    by_cases hlt : k < n
    · obtain ⟨e, he⟩ : ∃ e, e = min n (k + 4) := ⟨_, rfl⟩
      have hke : k < e := by omega
      have hen : e ≤ n := by omega
      have he4 : e ≤ k + 4 := by omega
      have hne : ys.drop k ≠ [] := by
        intro h
        have := congrArg List.length h
        rw [List.length_drop, HY2.out] at this
        simp at this
        omega
      have hpk := packs_cons 65536 (ys.drop k) hne
      have hw4 := win_four ys k e (by rw [HY2.out]; exact he)
      rw [← hw4, List.drop_drop] at hpk
      have hnext : (done ++ [win ys e k]) ++ packs 65536 (ys.drop (k + 4)) = outs := by rw [← HS.out, hpk, List.append_assoc]; rfl
      have HNX := Lib.hid hnext
      have HWE := Lib.hid (win_end ys e (by rw [HY2.out]; exact hen))
      clear hnext hpk hw4 hne HS
      obtain ⟨g, o, rfl, hg, hcl⟩ := hy1 (by intro h; have := HY2.out; rw [h] at this; simp at this; omega)
      have hgw := hg
      have hcw : ∀ (k x : Nat), ys[k]? = some x → wr.cell? ⟨g, o + k, none⟩ = some (.int .u64 x) := fun k x hx => by rw [hbw.cell (p := ⟨g, o + k, none⟩) hg]; exact hcl k x hx
      have HCW := Lib.hid hcw; clear hcw hcl
      have HE := Lib.hid he; clear he
      have hpw : ∀ j, k < j → win ys e j ≤ 281474976710655 := fun j hj => by
        have h1 := win_lt ys e j HY3.out
        have h2 : 65536 ^ (e - j) ≤ 65536 ^ 3 := Nat.pow_le_pow_right (by decide) (by omega)
        have h3 : (65536 : Nat) ^ 3 = 281474976710656 := by decide
        omega
      have HPW := Lib.hid hpw; clear hpw
      have hws : ∀ j y, j < e → ys[j]? = some y → win ys e j = y + 65536 * win ys e (j + 1) := fun j y h1 h2 => win_step ys e j y h1 (by rw [HY2.out]; exact hen) h2
      have HWS := Lib.hid hws; clear hws
      rcases (by omega : n ≤ k + 4 ∨ k + 4 < n) with hmin | hmin
      all_goals
        go_wp2_with fail
        go_loop [5, 6] (fun x t => ∃ j : Nat, k ≤ j ∧ j ≤ e ∧ t = .int .i64 ((j : Int) - 1) ∧ x = .int .u64 (win ys e j : Nat)) (fun _ t => (intOf t + 1).toNat)
        case atStart => exact ⟨e, by omega, Nat.le_refl _, by have := HE.out; congr 1; omega, by rw [HWE.out]; rfl⟩
        case round =>
          obtain ⟨j, hj1, hj2, rfl, rfl⟩ := hrel
          rcases (by omega : j = k ∨ k < j) with hjk | hjk
          · subst hjk
            have hexit : ¬ ((j : Int) ≤ (j : Int) - 1) := by omega
            go_wp2_with (first
              | (at_builtin; refine wpList_append_own _ rfl _ _ 102 rfl w.heap.size 130 i0 (.int .u64 0) 1 8 HI.out.2.2.2.2 HI.out.1 HI.out.2.1 HI.out.2.2.1 HI.out.2.2.2.1 rfl (by decide) _ _ _ rfl (hown.alloc _) ⟨wr.heap.size, 0, none⟩ 1 1 [.int .u64 (win ys e j : Nat)] rfl rfl ?_ ?_ ?_ ?_ ?_ ?_
                 · exact one_new _ _ _
                 · intro u hu; simp at hu; subst hu; rfl
                 · unfold maxLen; omega
                 · omega
                 · have := hbw.size; simp at this ⊢; omega
                 intro v' w3 hown' hgrow3 _
                 have hal := hown.alloc (.cells #[.int .u64 (win ys e j : Nat)] 130)
                 have hbw3 := Below.grown (hbw.alloc hbw.size (.cells #[.int .u64 (win ys e j : Nat)] 130)) hgrow3 (Nat.le_trans hbw.size (by simp)) (fun j hj => (hal.lt _ hj).1)
                 have X := Lib.hid (And.intro hown' hbw3)
                 clear hown' hbw3 hgrow3 hal))
            go_roundw
            case rel => exact ⟨j + 4, done ++ [win ys e j], by go_num, by omega, by rw [List.length_append, List.length_singleton]; omega, by rw [List.length_append, List.length_singleton, uCells_append]; exact X.out.1, X.out.2, HNX.out⟩
            case measure => simp [intOf] <;> omega
          · obtain ⟨j, rfl⟩ : ∃ i, j = i + 1 := ⟨j - 1, by omega⟩
            obtain ⟨y, hy⟩ : ∃ y, ys[j]? = some y := ⟨ys[j]'(by have := HY2.out; omega), List.getElem?_eq_getElem _⟩
            have cj := HCW.out j y hy
            have hyl := HY3.out y (List.mem_of_getElem? hy)
            have hwl := HPW.out (j + 1) hjk
            have hst := HWS.out j y (by omega) hy
            have HST := Lib.hid hst
            clear hy hst
            have jk : (k : Int) ≤ (j : Int) := by omega
            have jn : (j : Int) < (n : Int) := by omega
            generalize win ys e (j + 1) = x at *
            go_wp2_with fail
            go_round
            case rel => exact ⟨j, by omega, by omega, by first | rfl | (congr 1; omega), by rw [HST.out]; congr 1; omega⟩
            case measure => simp [intOf] <;> omega
    · have hnil : ys.drop k = [] := List.drop_eq_nil_of_le (by rw [HY2.out]; omega)
      have hfin := HS.out
      rw [hnil, packs_nil, List.append_nil] at hfin
      subst hfin
      clear hnil HS HY4
      go_wp2_with fail
      go_ret
      exact ⟨_, rfl, hown, hbw⟩
end

/-! The walks of the references' Digits, Trim, Small (naturals). -/
section
open Go.RowKit

theorem four_at (z t : Nat) (ht : t < 4) : (four 65536 z)[t]? = some (z / 65536 ^ t % 65536) := by
  have h2 : z / 65536 ^ 2 = z / 65536 / 65536 := by rw [Nat.div_div_eq_div_mul]
  have h3 : z / 65536 ^ 3 = z / 65536 / 65536 / 65536 := by rw [Nat.div_div_eq_div_mul, Nat.div_div_eq_div_mul]
  match t, ht with
  | 0, _ => simp [four]
  | 1, _ => simp [four]
  | 2, _ => rw [h2]; rfl
  | 3, _ => rw [h3]; rfl
theorem div_succ (z t : Nat) : z / 65536 ^ (t + 1) = z / 65536 ^ t / 65536 := by rw [Nat.pow_succ, Nat.div_div_eq_div_mul]
theorem four_take (z t : Nat) (ht : t < 4) : (four 65536 z).take (t + 1) = (four 65536 z).take t ++ [z / 65536 ^ t % 65536] := by
  rw [List.take_add_one, four_at z t ht]; rfl
theorem unp_take (zs : List Nat) (k z : Nat) (h : zs[k]? = some z) : unp 65536 (zs.take (k + 1)) = unp 65536 (zs.take k) ++ four 65536 z := by
  rw [List.take_add_one, h]
  exact unp_snoc 65536 _ z

set_option maxRecDepth 100000 in
set_option maxHeartbeats 2000000 in
theorem digits_any (zs : List Nat) (A : Option Addr) (c : Nat) (w : World) (hn : zs.length ≤ 100000) (hA : Nsl w A zs) (hlt : ∀ x ∈ zs, x < 65536 ^ 4) :
    Calls Tryz.prog 99 #[.slice A zs.length c] w fun e w' => ∃ B d, e = .returned (.slice B (dgs 65536 (dv (65536 ^ 4) zs)).length d) ∧ Nsl w' B (dgs 65536 (dv (65536 ^ 4) zs)) ∧ (dgs 65536 (dv (65536 ^ 4) zs)).length ≤ d ∧ (dgs 65536 (dv (65536 ^ 4) zs)).length ≤ 4 * zs.length ∧ Below w.heap.size w w' := by
  obtain ⟨i0, hi, hz0, hz1, hz2⟩ := info_parts (P := Tryz.prog) (e := 130) (z := .int .u64 0) (size := 1) (bytes := 8) (by kernel_rfl)
  have HU : Tryz.prog.underlying 101 = some (.slice 130) := by kernel_rfl
  have HI := Lib.hid (And.intro hi (And.intro hz0 (And.intro hz1 (And.intro hz2 HU))))
  clear hi hz0 hz1 hz2 HU
  have hp4 : (65536 : Nat) ^ 4 = 18446744073709551616 := by decide
  have hdv : dv 65536 (unp 65536 zs) = dv (65536 ^ 4) zs := unp_dv (by decide) zs hlt
  have hul : (unp 65536 zs).length = 4 * zs.length := unp_length _ _
  have hult : ∀ x ∈ unp 65536 zs, x < 65536 := unp_lt (by decide) zs
  rw [← hdv]
  have HLT : Hid (∀ x ∈ zs, x ≤ 18446744073709551615) := fun x hx => by have := hlt x hx; rw [hp4] at this; omega
  clear hlt hdv hp4
  have HUL := Lib.hid hul; clear hul
  have HULT := Lib.hid hult; clear hult
  have hz : unp 65536 (zs.take 0) = [] := rfl
  have HZ := Lib.hid hz; clear hz
  go_enter Tryz.func99, Tryz.ntmps99
  go_wp2_with fail
  go_loopw [3, 4] (fun v i wr => ∃ k : Nat, k ≤ zs.length ∧ i = .int .i64 k ∧ ∃ out : List Nat, Hid (out = unp 65536 (zs.take k)) ∧ out.length ≤ 4 * k ∧ wr.ownsRow w.heap.size 130 1 v out.length (uCells out) ∧ Below w.heap.size w wr) (fun _ i _ => zs.length - (intOf i).toNat)
  case atStart => exact ⟨0, Nat.zero_le _, rfl, [], HZ.out.symm, by simp, World.ownsRow_nil _ _ _ _, Below.refl _ _⟩
  case round =>
    obtain ⟨k, hk, rfl, out, HO, hol, hown, hbw⟩ := hrel
    by_cases hlt : k < zs.length
    · obtain ⟨z, hz⟩ : ∃ z, zs[k]? = some z := ⟨zs[k], List.getElem?_eq_getElem hlt⟩
      obtain ⟨g, o, rfl, hg, hcl⟩ := hA (by intro h; rw [h] at hlt; simp at hlt)
      have ck : wr.cell? ⟨g, o + k, none⟩ = some (.int .u64 (z : Nat)) := by rw [hbw.cell (p := ⟨g, o + k, none⟩) hg]; exact hcl k z hz
      have hzl := HLT.out z (List.mem_of_getElem? hz)
      have HUT := Lib.hid (unp_take zs k z hz)
      have H0 : Hid (out ++ (four 65536 z).take 0 = out ∧ z / 65536 ^ 0 = z) := ⟨by simp, by simp⟩
      clear hz hcl
      go_wp2_with fail
      obtain ⟨wo, rfl⟩ : ∃ wo : World, wo = wr := ⟨_, rfl⟩
      go_loopw [3, 5, 6] (fun v x t ws => ∃ q : Nat, q ≤ 4 ∧ t = .int .i64 q ∧ ∃ (y : Nat) (cur : List Nat), x = .int .u64 y ∧ y ≤ 18446744073709551615 ∧ Hid (y = z / 65536 ^ q) ∧ Hid (cur = out ++ (four 65536 z).take q) ∧ cur.length ≤ 4 * k + q ∧ ws.ownsRow w.heap.size 130 1 v cur.length (uCells cur) ∧ Below w.heap.size w ws) (fun _ _ t _ => 4 - (intOf t).toNat)
      case atStart => exact ⟨0, by omega, rfl, z, out, rfl, hzl, H0.out.2.symm, H0.out.1.symm, by omega, hown, hbw⟩
      case round =>
        obtain ⟨q, hq, rfl, y, cur, rfl, hyl, HY, HC, hcl, hown2, hbw2⟩ := hrel
        by_cases hq4 : q < 4
        · have hy1 : y / 65536 = z / 65536 ^ (q + 1) := by rw [HY.out, div_succ]
          have hcur : cur ++ [y % 65536] = out ++ (four 65536 z).take (q + 1) := by rw [HC.out, HY.out, four_take z q hq4, List.append_assoc]
          have HY1 := Lib.hid hy1
          have HCU := Lib.hid hcur
          clear hy1 hcur HY HC
          have hmod : Hid ((y : Int) % 65536 = ((y % 65536 : Nat) : Int)) := by show _ = _; omega
          have hdiv : Hid ((y : Int) / 65536 = ((y / 65536 : Nat) : Int)) := by show _ = _; omega
          have hmb : y % 65536 ≤ 65535 := by omega
          have hdb : y / 65536 ≤ 18446744073709551615 := by omega
          go_wp2_with (first
            | (at_builtin; refine wpList_append_own _ rfl _ _ 101 rfl w.heap.size 130 i0 (.int .u64 0) 1 8 HI.out.2.2.2.2 HI.out.1 HI.out.2.1 HI.out.2.2.1 HI.out.2.2.2.1 rfl (by decide) _ _ _ rfl (hown2.alloc _) ⟨wr.heap.size, 0, none⟩ 1 1 [.int .u64 ((y : Int) % 65536)] rfl rfl ?_ ?_ ?_ ?_ ?_ ?_
               · exact one_new _ _ _
               · intro u hu; simp at hu; subst hu; rfl
               · unfold maxLen; omega
               · omega
               · have := hbw2.size; simp at this ⊢; omega
               intro v' w3 hown' hgrow3 _
               have hal := hown2.alloc (.cells #[.int .u64 ((y : Int) % 65536)] 130)
               have hbw3 := Below.grown (hbw2.alloc hbw2.size (.cells #[.int .u64 ((y : Int) % 65536)] 130)) hgrow3 (Nat.le_trans hbw2.size (by simp)) (fun j hj => (hal.lt _ hj).1)
               rw [hmod.out] at hown'
               have X := Lib.hid (And.intro hown' hbw3)
               clear hown' hbw3 hgrow3 hal))
          go_roundw
          case rel => exact ⟨q + 1, by omega, by go_num, y / 65536, cur ++ [y % 65536], by rw [← hdiv.out], hdb, HY1, HCU, by rw [List.length_append, List.length_singleton]; omega, by rw [List.length_append, List.length_singleton, uCells_append]; exact X.out.1, X.out.2⟩
          case measure => simp [intOf] <;> omega
        · obtain rfl : q = 4 := by omega
          have hfin : cur = unp 65536 (zs.take (k + 1)) := by rw [HC.out, HUT.out, HO.out]; rfl
          have HF := Lib.hid hfin
          clear hfin HC HY
          go_wp2_with fail
          go_roundw
          case rel => exact ⟨k + 1, by omega, by go_num, cur, HF, by omega, hown2, hbw2⟩
          case measure => simp [intOf] <;> omega
    · obtain rfl : k = zs.length := by omega
      have ho := HO.out
      rw [List.take_length] at ho
      subst ho
      obtain ⟨B, d, rfl, hB, hd⟩ := own_nsl hown
      have CC := fun W h => cut_any (unp 65536 zs) B d W (by rw [HUL.out]; omega) hd h HULT.out
      have HC := Lib.hid CC; clear CC
      clear HO hown
      go_wp2_with fail
      refine (HC.out _ hB).mono ?_
      rintro e w1 ⟨n, rfl, hnl, HN, rfl⟩
      go_wp2_with fail
      go_ret
      have hln : n = (dgs 65536 (dv 65536 (unp 65536 zs))).length := by rw [← HN.out, List.length_take]; omega
      exact ⟨B, d, by rw [← hln]; rfl, by rw [← HN.out]; exact hB.take n, by rw [← hln]; omega, by rw [← hln]; have := HUL.out; omega, hbw⟩

theorem own_below' {w w1 w2 : World} {e : TypeId} {k : Nat} {v : Value} {n : Nat} {xs : List Value} (h : w2.ownsRow w1.heap.size e k v n xs) (hb : Below w.heap.size w w1) : w2.ownsRow w.heap.size e k v n xs := by
  refine ⟨h.1, ?_⟩
  rcases h.2 with h0 | ⟨g, cap, cur, h1, h2, h3⟩
  · exact .inl h0
  · exact .inr ⟨g, cap, cur, h1, Nat.le_trans hb.size h2, h3⟩
theorem trim_any' (zs : List Nat) (A : Option Addr) (n c : Nat) (w : World) (hl : zs.length = n) (hn : zs.length ≤ 100000) (hA : Nsl w A zs) (hlt : ∀ x ∈ zs, x < 65536 ^ 4) :
    Calls Tryz.prog 101 #[.slice A n c] w fun e w' => ∃ v, e = .returned v ∧ w'.ownsRow w.heap.size 130 1 v (dgs (65536 ^ 4) (dv (65536 ^ 4) zs)).length (uCells (dgs (65536 ^ 4) (dv (65536 ^ 4) zs))) ∧ Below w.heap.size w w' := by
  subst hl
  have DD := fun W h => digits_any zs A c W hn h hlt
  have HD := Lib.hid DD; clear DD
  have hl4 : ∀ x ∈ dgs 65536 (dv (65536 ^ 4) zs), x < 65536 := dgs_lt (by decide) _
  have hv : dv 65536 (dgs 65536 (dv (65536 ^ 4) zs)) = dv (65536 ^ 4) zs := dv_dgs (by decide) _
  generalize dv (65536 ^ 4) zs = v at *
  have JJ := fun B d W (h1 : (dgs 65536 v).length ≤ 1048576) h2 h3 => njoin_any (dgs 65536 v) B d W h1 h2 h3 hl4
  rw [hv] at JJ
  have HJ := Lib.hid JJ
  clear JJ hv hl4 hlt
  go_enter Tryz.func101, Tryz.ntmps101
  go_wp2_with fail
  refine (HD.out _ hA).mono ?_
  rintro e w1 ⟨B, d, rfl, hB, hd, h4, hb1⟩
  go_wp2_with fail
  refine (HJ.out B d _ (by omega) hd hB).mono ?_
  rintro e w2 ⟨v2, rfl, hown, hb2⟩
  have hx := own_below' hown hb1
  go_wp2_with fail
  go_ret
  exact ⟨_, rfl, hx, hb1.trans (hb2.mono hb1.size)⟩
/-- What Small tells. -/
def smallN (v : Nat) : Nat × Bool := if v < 65536 ^ 4 then (v, true) else (0, false)
theorem dgs_one (v : Nat) : (dgs (65536 ^ 4) v).length ≤ 1 ↔ v < 65536 ^ 4 := by
  have h2 : 2 ≤ (65536 : Nat) ^ 4 := by decide
  rcases Nat.eq_zero_or_pos v with h | h
  · subst h; rw [dgs_zero]; exact ⟨fun _ => by decide, fun _ => by simp⟩
  · rw [dgs_pos h2 h, List.length_cons]
    constructor
    · intro h1
      have h0 : dgs (65536 ^ 4) (v / 65536 ^ 4) = [] := List.length_eq_zero_iff.1 (by omega)
      have := (dgs_nil h2 _).1 h0
      exact (Nat.div_eq_zero_iff_lt (by decide)).1 this
    · intro h1
      rw [Nat.div_eq_of_lt h1, dgs_zero]
      simp
theorem dgs_single (v : Nat) (h : v < 65536 ^ 4) (h0 : 0 < v) : dgs (65536 ^ 4) v = [v] := by
  rw [dgs_pos (by decide) h0, Nat.mod_eq_of_lt h, Nat.div_eq_of_lt h, dgs_zero]
set_option maxRecDepth 100000 in
set_option maxHeartbeats 1000000 in
theorem nsmall_any (zs : List Nat) (A : Option Addr) (n c : Nat) (w : World) (hl : zs.length = n) (hn : zs.length ≤ 100000) (hA : Nsl w A zs) (hlt : ∀ x ∈ zs, x < 65536 ^ 4) :
    Calls Tryz.prog 104 #[.slice A n c] w fun e w' => e = .returned (.tuple #[.int .u64 ((smallN (dv (65536 ^ 4) zs)).1 : Nat), .bool (smallN (dv (65536 ^ 4) zs)).2]) ∧ Below w.heap.size w w' := by
  have TT := fun W h => trim_any' zs A n c W hl hn h hlt
  have HT := Lib.hid TT
  clear TT hl hn hlt
  generalize dv (65536 ^ 4) zs = v at *
  have h1 := dgs_one v
  by_cases hv : v < 65536 ^ 4
  · have hs : smallN v = (v, true) := by unfold smallN; rw [if_pos hv]
    rw [hs]
    have hlen := h1.2 hv
    rcases Nat.eq_zero_or_pos v with hz | hz
    · subst hz
      have hd := dgs_zero (65536 ^ 4)
      rw [hd] at HT
      clear h1 hlen hd hs hv
      go_enter Tryz.func104, Tryz.ntmps104
      go_wp2_with fail
      refine (HT.out _ hA).mono ?_
      rintro e w1 ⟨v1, rfl, hown, hb⟩
      obtain ⟨B, d, rfl, hB, _⟩ := own_nsl hown
      clear hown
      go_wp2_with fail
      go_ret2
      exact ⟨rfl, hb⟩
    · have hd := dgs_single v hv hz
      rw [hd] at HT
      clear h1 hlen hd hs hv
      go_enter Tryz.func104, Tryz.ntmps104
      go_wp2_with fail
      refine (HT.out _ hA).mono ?_
      rintro e w1 ⟨v1, rfl, hown, hb⟩
      obtain ⟨B, d, rfl, hB, _⟩ := own_nsl hown
      obtain ⟨g, o, rfl, hg, hc⟩ := hB (by simp)
      have c0 := hc 0 v rfl
      rw [Nat.add_zero] at c0
      clear hown hc
      go_wp2_with fail
      go_ret2
      exact ⟨rfl, hb⟩
  · have hs : smallN v = (0, false) := by unfold smallN; rw [if_neg hv]
    rw [hs]
    have hlen : 1 < (dgs (65536 ^ 4) v).length := by
      rcases Nat.lt_or_ge 1 (dgs (65536 ^ 4) v).length with h | h
      · exact h
      · exact absurd (h1.1 h) hv
    clear h1 hs hv
    generalize dgs (65536 ^ 4) v = out at *
    go_enter Tryz.func104, Tryz.ntmps104
    go_wp2_with fail
    refine (HT.out _ hA).mono ?_
    rintro e w1 ⟨v1, rfl, hown, hb⟩
    obtain ⟨B, d, rfl, hB, _⟩ := own_nsl hown
    clear hown
    go_wp2_with fail
    go_ret2
    exact ⟨rfl, hb⟩
end
end Go.Proofs.YtbhekkkijomglaaGreatDoor
